/- Plain law: messages as bytes (numbers, fields, messages), over lists of bytes; no program in sight. No conditions. -/
import Init
set_option linter.unusedVariables false
namespace Go.Proofs.YtbgfiflnfndckaaDoor.Ws

/-- A number's bytes. -/
def vi (n : Nat) : List UInt8 := if h : n < 128 then [UInt8.ofNat n] else UInt8.ofNat (n % 128 + 128) :: vi (n / 128)
termination_by n
decreasing_by omega

/-- A number is read; i bytes of it (n) have been read. -/
def rd : List UInt8 → Nat → Nat → Option (Nat × List UInt8)
  | [], _, _ => none
  | b :: r, i, n => if 10 ≤ i then none else if i = 9 ∧ 1 < b.toNat then none else if b.toNat < 128 then some (n + b.toNat * 128 ^ i, r) else rd r (i + 1) (n + (b.toNat - 128) * 128 ^ i)

def num (l : List UInt8) : Option (Nat × List UInt8) := rd l 0 0

/-- A number's many lowest bytes, the lowest one first. -/
def lo : Nat → Nat → List UInt8
  | 0, _ => []
  | k + 1, n => UInt8.ofNat (n % 256) :: lo k (n / 256)
/-- Bytes as a number, the lowest one first. -/
def hi : List UInt8 → Nat
  | [] => 0
  | b :: r => b.toNat + 256 * hi r

/-- A field: its number, its wire, its number within, its bytes. -/
structure Fd where
  k : Int
  w : Nat
  n : Nat
  s : List UInt8
deriving DecidableEq

/-- May it be? -/
def may (f : Fd) : Bool :=
  decide (1 ≤ f.k ∧ f.k ≤ 536870911) &&
    (if f.w = 0 ∨ f.w = 1 then decide (f.s = []) else if f.w = 5 then decide (f.s = [] ∧ f.n < 4294967296) else if f.w = 2 then decide (f.n = 0 ∧ f.s.length ≤ 65536) else false)

def body (f : Fd) : List UInt8 :=
  if f.w = 1 then lo 8 f.n else if f.w = 5 then lo 4 f.n else if f.w = 2 then vi f.s.length ++ f.s else vi f.n
def one (f : Fd) : List UInt8 := vi (f.k.toNat * 8 + f.w) ++ body f

def size (f : Fd) : Nat := if may f then (one f).length else 0

/-- Fields are written: bytes, and why not. -/
def bytes (l : List Fd) : List UInt8 := l.flatMap one
def write (l : List Fd) : List UInt8 × Nat :=
  if 4096 < l.length then ([], 3) else if l.all may then (if 65536 < (bytes l).length then ([], 4) else (bytes l, 0)) else ([], 2)

/-- The first field, and what is behind it; or why there is none. -/
def field (l : List UInt8) : Except Nat (Fd × List UInt8) :=
  match num l with
  | none => .error 9
  | some (t, r) =>
    if t / 8 < 1 ∨ 536870911 < t / 8 then .error 10
    else if t % 8 = 0 then (match num r with | none => .error 9 | some (n, r) => .ok (⟨(t / 8 : Nat), 0, n, []⟩, r))
    else if t % 8 = 1 then (if r.length < 8 then .error 10 else .ok (⟨(t / 8 : Nat), 1, hi (r.take 8), []⟩, r.drop 8))
    else if t % 8 = 5 then (if r.length < 4 then .error 10 else .ok (⟨(t / 8 : Nat), 5, hi (r.take 4), []⟩, r.drop 4))
    else if t % 8 = 2 then (match num r with | none => .error 9 | some (m, r) => if r.length < m then .error 10 else .ok (⟨(t / 8 : Nat), 2, 0, r.take m⟩, r.drop m))
    else .error 10

theorem rd_shorter : ∀ (l : List UInt8) (i n m : Nat) (r : List UInt8), rd l i n = some (m, r) → r.length < l.length
  | [], i, n, m, r, h => by simp [rd] at h
  | b :: l, i, n, m, r, h => by
    rw [rd] at h
    split at h; · cases h
    split at h; · cases h
    split at h
    · simp only [Option.some.injEq, Prod.mk.injEq] at h; obtain ⟨_, rfl⟩ := h; simp
    · have := rd_shorter l _ _ m r h; simp; omega
theorem num_shorter {l : List UInt8} {m : Nat} {r : List UInt8} (h : num l = some (m, r)) : r.length < l.length := rd_shorter l 0 0 m r h

theorem rd_lt : ∀ (l : List UInt8) (i n m : Nat) (r : List UInt8), i ≤ 9 → n < 128 ^ i → rd l i n = some (m, r) → m < 2 ^ 64
  | [], i, n, m, r, _, _, h => by simp [rd] at h
  | b :: l, i, n, m, r, hi, hn, h => by
    rw [rd, if_neg (by omega)] at h
    split at h; · cases h
    rename_i h9
    have e0 : (128 : Nat) ^ 9 = 2 ^ 63 := by decide
    have hb := b.toNat_lt
    split at h
    · rename_i hb2
      simp only [Option.some.injEq, Prod.mk.injEq] at h; obtain ⟨rfl, _⟩ := h
      by_cases hi9 : i = 9
      · subst hi9
        have : b.toNat ≤ 1 := by omega
        omega
      · have hp : (128 : Nat) ^ (i + 1) ≤ 128 ^ 9 := Nat.pow_le_pow_right (by decide) (by omega)
        rw [Nat.pow_succ] at hp
        have : b.toNat * 128 ^ i ≤ 127 * 128 ^ i := Nat.mul_le_mul_right _ (by omega)
        omega
    · rename_i hb2
      by_cases hi9 : i = 9
      · omega
      · refine rd_lt l (i + 1) _ m r (by omega) ?_ h
        have : (b.toNat - 128) * 128 ^ i ≤ 127 * 128 ^ i := Nat.mul_le_mul_right _ (by omega)
        rw [Nat.pow_succ]
        omega
theorem num_lt {l : List UInt8} {m : Nat} {r : List UInt8} (h : num l = some (m, r)) : m < 2 ^ 64 := rd_lt l 0 0 m r (by omega) (by decide) h

theorem field_shorter {l : List UInt8} {f : Fd} {r : List UInt8} (h : field l = .ok (f, r)) : r.length < l.length := by
  unfold field at h
  split at h
  · cases h
  rename_i t r1 h1
  have h2 := num_shorter h1
  split at h; · cases h
  split at h
  · split at h
    · cases h
    rename_i n r2 h3
    have h4 := num_shorter h3
    simp only [Except.ok.injEq, Prod.mk.injEq] at h; obtain ⟨_, rfl⟩ := h; omega
  split at h
  · split at h
    · cases h
    simp only [Except.ok.injEq, Prod.mk.injEq] at h; obtain ⟨_, rfl⟩ := h; simp; omega
  split at h
  · split at h
    · cases h
    simp only [Except.ok.injEq, Prod.mk.injEq] at h; obtain ⟨_, rfl⟩ := h; simp; omega
  split at h
  · split at h
    · cases h
    rename_i n r2 h3
    have h4 := num_shorter h3
    split at h
    · cases h
    simp only [Except.ok.injEq, Prod.mk.injEq] at h; obtain ⟨_, rfl⟩ := h; simp; omega
  · cases h

/-- All fields, or why not; c: those in front. -/
def all (l : List UInt8) (c : List Fd) : Except Nat (List Fd) :=
  if l = [] then .ok c
  else match h : field l with
    | .error e => .error e
    | .ok (f, r) => all r (c ++ [f])
termination_by l.length
decreasing_by exact field_shorter h

theorem all_nil (c : List Fd) : all [] c = .ok c := by rw [all]; simp
theorem all_dies {l : List UInt8} (c : List Fd) {e : Nat} (hl : l ≠ []) (hf : field l = .error e) : all l c = .error e := by
  rw [all, if_neg hl]
  split
  · rename_i e' h; rw [hf] at h; cases h; rfl
  · rename_i f r h; rw [hf] at h; cases h
theorem all_more {l r : List UInt8} {f : Fd} (c : List Fd) (hl : l ≠ []) (hf : field l = .ok (f, r)) : all l c = all r (c ++ [f]) := by
  rw [all, if_neg hl]
  split
  · rename_i e' h; rw [hf] at h; cases h
  · rename_i f' r' h; rw [hf] at h; cases h; rfl

def read (l : List UInt8) : List Fd × Nat :=
  if 65536 < l.length then ([], 4) else match all l [] with | .error e => ([], e) | .ok c => if 4096 < c.length then ([], 3) else (c, 0)
theorem write_of (l : List Fd) (h : l.length ≤ 4096) : write l = if l.all may = true then (if 65536 < (bytes l).length then ([], 4) else (bytes l, 0)) else ([], 2) := by
  unfold write
  rw [if_neg (by omega)]
theorem read_of (l : List UInt8) (h : l.length ≤ 65536) : read l = match all l [] with | .error e => ([], e) | .ok c => if 4096 < c.length then ([], 3) else (c, 0) := by
  unfold read
  rw [if_neg (by omega)]
end Go.Proofs.YtbgfiflnfndckaaDoor.Ws
