/- Plain law: what is written is read, a cut message ends where a field ends, zigzags there and back; no program in sight. No conditions but the numbers' kinds. -/
import Derived.Test.YtbgfiflnfndckaaDoorWh
set_option linter.unusedVariables false
namespace Go.Proofs.YtbgfiflnfndckaaDoor.Ws

theorem rd_vi : ∀ (m : Nat) (rest : List UInt8) (i n : Nat), i ≤ 9 → m * 128 ^ i < 2 ^ 64 → rd (vi m ++ rest) i n = some (n + m * 128 ^ i, rest) := by
  intro m
  induction m using Nat.strongRecOn with
  | _ m ih =>
    intro rest i n hi hm
    have e9 : (128 : Nat) ^ 9 = 2 ^ 63 := by decide
    by_cases h : m < 128
    · rw [vi_last h]
      have hu : (UInt8.ofNat m).toNat = m := by show m % 256 = m; omega
      generalize UInt8.ofNat m = u at *
      rw [show [u] ++ rest = u :: rest from rfl, rd, if_neg (by omega), if_neg, if_pos (by omega), hu]
      rintro ⟨rfl, h1⟩
      omega
    · rw [vi_more (by omega)]
      have hu : (UInt8.ofNat (m % 128 + 128)).toNat = m % 128 + 128 := by show (m % 128 + 128) % 256 = _; omega
      generalize UInt8.ofNat (m % 128 + 128) = u at *
      have hp : 0 < 128 ^ i := Nat.pow_pos (by decide)
      have hi9 : i ≠ 9 := by
        rintro rfl
        omega
      have e : (m / 128) * 128 ^ (i + 1) + (m % 128) * 128 ^ i = m * 128 ^ i := by
        rw [Nat.pow_succ, Nat.mul_comm (128 ^ i) 128, ← Nat.mul_assoc, ← Nat.add_mul]
        congr 1
        omega
      rw [List.cons_append, rd, if_neg (by omega), if_neg (by omega), if_neg (by omega), ih (m / 128) (by omega) rest (i + 1) _ (by omega) (by omega), hu]
      congr 2
      simp only [Nat.add_sub_cancel]
      omega
theorem num_vi (m : Nat) (rest : List UInt8) (h : m < 2 ^ 64) : num (vi m ++ rest) = some (m, rest) := by
  unfold num
  rw [rd_vi m rest 0 0 (by omega) (by simpa using h)]
  simp
theorem hi_lo : ∀ (k n : Nat), n < 256 ^ k → hi (lo k n) = n
  | 0, n, h => by simp [lo, hi]; simp at h; omega
  | k + 1, n, h => by
    rw [lo, hi, hi_lo k (n / 256) (by rw [Nat.pow_succ] at h; omega)]
    show n % 256 % 256 + 256 * (n / 256) = n
    omega
theorem field_one (f : Fd) (rest : List UInt8) (hm : may f = true) (hn : f.n < 2 ^ 64) : field (one f ++ rest) = .ok (f, rest) := by
  obtain ⟨h1, h2⟩ := may_num hm
  have hw := may_wire hm
  obtain ⟨k, w, n, s⟩ := f
  simp only at h1 h2 hw hn
  have hw8 : w < 8 := by rcases hw with ⟨h | h, _⟩ | ⟨h, _⟩ | ⟨h, _⟩ <;> omega
  have e1 : (k.toNat * 8 + w) / 8 = k.toNat := by omega
  have e2 : (k.toNat * 8 + w) % 8 = w := by omega
  unfold field one
  rw [List.append_assoc, num_vi _ _ (by simp only; omega)]
  simp only [e1, e2]
  rw [if_neg (by omega)]
  have ek : ((k.toNat : Nat) : Int) = k := by omega
  rw [ek]
  rcases hw with ⟨rfl | rfl, rfl⟩ | ⟨rfl, rfl, h4⟩ | ⟨rfl, rfl, hs⟩
  · rw [if_pos rfl]
    rw [show body ⟨k, 0, n, []⟩ = vi n from by simp [body], num_vi _ _ hn]
  · rw [if_neg (by decide), if_pos rfl]
    rw [show body ⟨k, 1, n, []⟩ = lo 8 n from by simp [body], if_neg (by simp [lo_len]), List.take_left' (lo_len 8 n), List.drop_left' (lo_len 8 n), hi_lo 8 n (by omega)]
  · rw [if_neg (by decide), if_neg (by decide), if_pos rfl]
    rw [show body ⟨k, 5, n, []⟩ = lo 4 n from by simp [body], if_neg (by simp [lo_len]), List.take_left' (lo_len 4 n), List.drop_left' (lo_len 4 n), hi_lo 4 n (by omega)]
  · rw [if_neg (by decide), if_neg (by decide), if_neg (by decide), if_pos rfl]
    rw [show body ⟨k, 2, 0, s⟩ = vi s.length ++ s from by simp [body], List.append_assoc, num_vi _ _ (by omega)]
    simp only
    rw [if_neg (by simp), List.take_left' rfl, List.drop_left' rfl]

theorem vi_pos (n : Nat) : 1 ≤ (vi n).length := (vi_len n).2.1
theorem one_ne (f : Fd) : one f ≠ [] := by
  intro h
  have := congrArg List.length h
  have h1 := vi_pos (f.k.toNat * 8 + f.w)
  simp [one] at this
  simp [this.1] at h1
theorem all_bytes : ∀ (l : List Fd) (rest : List UInt8) (c : List Fd), l.all may = true → (∀ f ∈ l, f.n < 2 ^ 64) → all (bytes l ++ rest) c = all rest (c ++ l)
  | [], rest, c, _, _ => by simp [bytes]
  | f :: l, rest, c, hm, hn => by
    simp only [List.all_cons, Bool.and_eq_true] at hm
    have e : bytes (f :: l) ++ rest = one f ++ (bytes l ++ rest) := by simp [bytes]
    rw [e, all_more (f := f) (r := bytes l ++ rest) c _ (field_one f _ hm.1 (hn f (by simp))), all_bytes l rest _ hm.2 (fun g hg => hn g (by simp [hg]))]
    · simp
    · simp [one_ne f]
/-- What is written is read as what it was. -/
theorem read_write (l : List Fd) (hn : ∀ f ∈ l, f.n < 2 ^ 64) (s : List UInt8) (h : write l = (s, 0)) : read s = (l, 0) ∧ s.length = (l.map size).sum := by
  unfold write at h
  split at h; · cases h
  split at h
  · rename_i hl hm
    split at h; · cases h
    rename_i hb
    cases h
    refine ⟨?_, ?_⟩
    · rw [read_of _ (by omega)]
      have := all_bytes l [] [] hm hn
      rw [List.append_nil, all_nil, List.nil_append] at this
      rw [this]
      simp only
      rw [if_neg hl]
    · exact (sizes_bytes l hm).symm
  · cases h

theorem zag_zig (n : Int) : zag (zig n) = n := by
  unfold zig
  split
  · unfold zag; rw [if_pos (by omega)]; omega
  · unfold zag; rw [if_neg (by omega)]; omega
theorem zig_zag (m : Nat) : zig (zag m) = m := by
  unfold zag
  split
  · unfold zig; rw [if_pos (by omega)]; omega
  · unfold zig; rw [if_neg (by omega)]; omega
theorem zig_lt (n : Int) (h1 : -9223372036854775808 ≤ n) (h2 : n ≤ 9223372036854775807) : zig n < 18446744073709551616 := by unfold zig; split <;> omega
theorem zag_fits (m : Nat) (h : m < 18446744073709551616) : -9223372036854775808 ≤ zag m ∧ zag m ≤ 9223372036854775807 := by unfold zag; split <;> omega
theorem vi_one (m : Nat) : m < 128 ↔ (vi m).length = 1 := by
  obtain ⟨h1, h2, h3⟩ := vi_len m
  constructor
  · intro h; rw [vi_last h]; rfl
  · intro h; rw [h] at h1; omega
theorem vi_mono : ∀ (m k : Nat), k ≤ m → (vi k).length ≤ (vi m).length := by
  intro m
  induction m using Nat.strongRecOn with
  | _ m ih =>
    intro k hk
    by_cases h : k < 128
    · rw [vi_last h]; exact vi_pos m
    · rw [vi_more (by omega), vi_more (m := m) (by omega)]
      have := ih (m / 128) (by omega) (k / 128) (by omega)
      simp; omega
/-- What is in front is read alike, whatever is behind it. -/
theorem rd_app : ∀ (p q : List UInt8) (i n m : Nat) (r : List UInt8), rd p i n = some (m, r) → rd (p ++ q) i n = some (m, r ++ q)
  | [], q, i, n, m, r, h => by simp [rd] at h
  | b :: p, q, i, n, m, r, h => by
    rw [rd] at h
    rw [List.cons_append, rd]
    split at h; · cases h
    rename_i h1
    rw [if_neg h1]
    split at h; · cases h
    rename_i h2
    rw [if_neg h2]
    split at h
    · rename_i h3
      rw [if_pos h3]
      simp only [Option.some.injEq, Prod.mk.injEq] at h ⊢
      obtain ⟨rfl, rfl⟩ := h
      exact ⟨rfl, rfl⟩
    · rename_i h3
      rw [if_neg h3]
      exact rd_app p q _ _ m r h
theorem num_app {p q : List UInt8} {m : Nat} {r : List UInt8} (h : num p = some (m, r)) : num (p ++ q) = some (m, r ++ q) := rd_app p q 0 0 m r h
theorem field_app {p q : List UInt8} {f : Fd} {r : List UInt8} (h : field p = .ok (f, r)) : field (p ++ q) = .ok (f, r ++ q) := by
  unfold field at h ⊢
  split at h
  · cases h
  rename_i t r1 h1
  rw [num_app h1]
  simp only
  split at h; · cases h
  rename_i h2
  rw [if_neg h2]
  split at h
  · rename_i h3
    rw [if_pos h3]
    split at h
    · cases h
    rename_i n r2 h4
    rw [num_app h4]
    simp only [Except.ok.injEq, Prod.mk.injEq] at h ⊢
    obtain ⟨rfl, rfl⟩ := h
    exact ⟨rfl, rfl⟩
  rename_i h3
  rw [if_neg h3]
  split at h
  · rename_i h4
    rw [if_pos h4]
    split at h
    · cases h
    rename_i h5
    simp only [Except.ok.injEq, Prod.mk.injEq] at h
    obtain ⟨rfl, rfl⟩ := h
    rw [if_neg (by simp; omega), List.take_append_of_le_length (by omega), List.drop_append_of_le_length (by omega)]
  rename_i h4
  rw [if_neg h4]
  split at h
  · rename_i h4
    rw [if_pos h4]
    split at h
    · cases h
    rename_i h5
    simp only [Except.ok.injEq, Prod.mk.injEq] at h
    obtain ⟨rfl, rfl⟩ := h
    rw [if_neg (by simp; omega), List.take_append_of_le_length (by omega), List.drop_append_of_le_length (by omega)]
  rename_i h4
  rw [if_neg h4]
  split at h
  · rename_i h4
    rw [if_pos h4]
    split at h
    · cases h
    rename_i n r2 h5
    rw [num_app h5]
    simp only
    split at h
    · cases h
    rename_i h6
    simp only [Except.ok.injEq, Prod.mk.injEq] at h
    obtain ⟨rfl, rfl⟩ := h
    rw [if_neg (by simp; omega), List.take_append_of_le_length (by omega), List.drop_append_of_le_length (by omega)]
  · cases h
/-- A message that is cut is none, but where a field ends. -/
theorem all_cut : ∀ (l : List Fd) (p q : List UInt8) (c k : List Fd), l.all may = true → (∀ f ∈ l, f.n < 2 ^ 64) → p ++ q = bytes l → all p c = .ok k → ∃ j, j ≤ l.length ∧ k = c ++ l.take j ∧ p = bytes (l.take j)
  | [], p, q, c, k, _, _, he, h => by
    have : p = [] := by simp [bytes] at he; exact he.1
    subst this
    rw [all_nil] at h
    cases h
    exact ⟨0, by simp, by simp, by simp [bytes]⟩
  | f :: l, p, q, c, k, hm, hn, he, h => by
    by_cases hp : p = []
    · subst hp
      rw [all_nil] at h
      cases h
      exact ⟨0, by simp, by simp, by simp [bytes]⟩
    · simp only [List.all_cons, Bool.and_eq_true] at hm
      cases hf : field p with
      | error e => rw [all_dies c hp hf] at h; cases h
      | ok gr =>
        obtain ⟨g, r⟩ := gr
        rw [all_more c hp hf] at h
        have h1 := field_app (q := q) hf
        have eb : bytes (f :: l) = one f ++ bytes l := by simp [bytes]
        rw [he, eb, field_one f _ hm.1 (hn f (by simp))] at h1
        simp only [Except.ok.injEq, Prod.mk.injEq] at h1
        obtain ⟨rfl, h2⟩ := h1
        obtain ⟨j, hj, hk, hr⟩ := all_cut l r q (c ++ [f]) k hm.2 (fun g hg => hn g (by simp [hg])) h2.symm h
        refine ⟨j + 1, by simp; omega, by simp [hk], ?_⟩
        have e2 : bytes (List.take (j + 1) (f :: l)) = one f ++ bytes (l.take j) := by simp [bytes]
        rw [e2, ← hr]
        apply List.append_cancel_right (bs := q)
        rw [he, eb, List.append_assoc, h2]
theorem write_ok {l : List Fd} {s : List UInt8} (h : write l = (s, 0)) : l.length ≤ 4096 ∧ l.all may = true ∧ s = bytes l ∧ (bytes l).length ≤ 65536 := by
  unfold write at h
  split at h; · cases h
  split at h
  · rename_i hl hm
    split at h; · cases h
    cases h
    exact ⟨by omega, hm, rfl, by omega⟩
  · cases h
end Go.Proofs.YtbgfiflnfndckaaDoor.Ws
