/- The walk of Write: fields as bytes, or why not. No conditions but the numbers' kinds. -/
import Derived.Test.YtbgfiflnfndckaaDoorWz
import Derived.Test.YtbgfiflnfndckaaDoorKf
import Derived.Test.YtbgfiflnfndckaaDoorRg
set_option linter.unusedVariables false
set_option linter.unusedSimpArgs false
namespace Go.Proofs.YtbgfiflnfndckaaDoor
open Go.RowKit Go.Proofs.YtbgfiflnfndckaaDoorW.PrintWords

/-- The cells of element j, as a walk comes to them. -/
theorem cellsF_at {w : World} {A : Option Addr} {n : Nat} {xs : List Ws.Fd} (h : kF.C w A n xs) (j : Nat) (hj : j < n) (x : Ws.Fd) (hx : xs[j]? = some x) :
    ∃ ad, A = some ad ∧ w.cell? (ad.add (j * 4)) = some (.int .i64 x.k) ∧ w.cell? ⟨(ad.add (j * 4)).block, (ad.add (j * 4)).off + 1, none⟩ = some (.int .u8 x.w) ∧
      w.cell? ⟨(ad.add (j * 4)).block, (ad.add (j * 4)).off + 2, none⟩ = some (.int .u64 x.n) ∧ w.cell? ⟨(ad.add (j * 4)).block, (ad.add (j * 4)).off + 3, none⟩ = some (.string ⟨x.s.toArray⟩) := by
  obtain ⟨ad, e, h0, h1, h2, h3⟩ := atF h j hj x hx
  exact ⟨ad, e, h0, by rw [← add_field _ _ 1 (by omega)]; exact h1, by rw [← add_field _ _ 2 (by omega)]; exact h2, by rw [← add_field _ _ 3 (by omega)]; exact h3⟩

def sizes (l : List Ws.Fd) : Nat := (l.map Ws.size).sum
theorem sizes_more (l : List Ws.Fd) (k : Nat) (x : Ws.Fd) (h : l[k]? = some x) : sizes (l.take (k + 1)) = sizes (l.take k) + Ws.size x := by
  unfold sizes
  rw [List.take_add_one, h]
  simp
theorem all_more (l : List Ws.Fd) (k : Nat) (x : Ws.Fd) (h : l[k]? = some x) (h1 : (l.take k).all Ws.may = true) (h2 : Ws.may x = true) : (l.take (k + 1)).all Ws.may = true := by
  rw [List.take_add_one, h]
  simp [List.all_append, h1, h2]
theorem size_le (x : Ws.Fd) (hn : x.n < 2 ^ 64) : Ws.size x ≤ 65566 := by
  by_cases h : Ws.may x = true
  · have hk := Ws.may_num h
    have hw := Ws.may_wire h
    have h1 := Ws.vi_ten (x.k.toNat * 8) (by omega)
    rw [Ws.size_yes h]
    unfold Ws.body
    rcases hw with ⟨hw, hs⟩ | ⟨hw, hs, hn2⟩ | ⟨hw, hs, hn2⟩
    · rcases hw with hw | hw
      · have := Ws.vi_ten x.n hn
        rw [if_neg (by omega), if_neg (by omega), if_neg (by omega)]; omega
      · rw [if_pos hw, Ws.lo_len]; omega
    · rw [if_neg (by omega), if_pos hw, Ws.lo_len]; omega
    · have := Ws.vi_ten x.s.length (by omega)
      rw [if_neg (by omega), if_neg (by omega), if_pos hw, List.length_append]; omega
  · unfold Ws.size
    rw [if_neg h]; omega
theorem sizes_le : ∀ (l : List Ws.Fd), (∀ f ∈ l, f.n < 2 ^ 64) → sizes l ≤ l.length * 65566
  | [], _ => by simp [sizes]
  | x :: l, h => by
    have h1 := size_le x (h x (by simp))
    have h2 := sizes_le l (fun f hf => h f (by simp [hf]))
    unfold sizes at *
    simp only [List.map_cons, List.sum_cons, List.length_cons]
    omega
theorem sizes_bytes : ∀ (l : List Ws.Fd), l.all Ws.may = true → sizes l = (Ws.bytes l).length
  | [], _ => rfl
  | x :: l, h => by
    simp only [List.all_cons, Bool.and_eq_true] at h
    have h2 := sizes_bytes l h.2
    unfold sizes Ws.bytes at *
    simp only [List.map_cons, List.sum_cons, List.flatMap_cons, List.length_append]
    rw [h2]
    unfold Ws.size
    rw [if_pos h.1]
theorem bytes_more (l : List Ws.Fd) (k : Nat) (x : Ws.Fd) (h : l[k]? = some x) : Ws.bytes (l.take (k + 1)) = Ws.bytes (l.take k) ++ Ws.one x := by
  unfold Ws.bytes
  rw [List.take_add_one, h]
  simp [List.flatMap_append]

theorem Ws.lo_more : ∀ (k n : Nat), Ws.lo (k + 1) n = Ws.lo k n ++ [UInt8.ofNat (n / 256 ^ k % 256)]
  | 0, n => by simp [Ws.lo]
  | k + 1, n => by
    rw [Ws.lo, Ws.lo_more k (n / 256), Ws.lo]
    simp only [List.cons_append, Nat.div_div_eq_div_mul, Nat.pow_succ]
    rw [Nat.mul_comm 256]
theorem Ws.byte_at (n j : Nat) : (n : Int) / 2 ^ (8 * j) % 256 = (((UInt8.ofNat (n / 256 ^ j % 256)).toNat : Nat) : Int) := by
  show _ = ((n / 256 ^ j % 256 % 256 : Nat) : Int)
  have e : (2 : Int) ^ (8 * j) = ((256 ^ j : Nat) : Int) := by rw [Int.natCast_pow, Int.pow_mul]; rfl
  rw [e]
  omega
theorem part_len (l : List Ws.Fd) (k : Nat) : (Ws.bytes (l.take k)).length ≤ (Ws.bytes l).length := by
  conv => rhs; rw [← List.take_append_drop k l]
  unfold Ws.bytes
  rw [List.flatMap_append, List.length_append]
  omega
theorem Ws.key_or (m x : Nat) (hm : m ≤ 536870911) (hx : x < 8) : bits .or .u64 ((m : Int) * 8) (x : Int) = ((m * 8 + x : Nat) : Int) := by
  have h := u64_or_nat (m * 8) x (by omega) (by omega)
  rw [show ((m * 8 : Nat) : Int) = (m : Int) * 8 by omega] at h
  rw [h]
  congr 1
  rw [Nat.or_comm, show m * 8 = m * 2 ^ 3 from rfl, Ws.or_add x m 3 hx]
  omega

theorem may_of (f : Ws.Fd) (w : World) : Calls Tryd.prog 105 #[.agg #[.int .i64 f.k, .int .u8 f.w, .int .u64 f.n, .string ⟨f.s.toArray⟩]] w fun e w' => e = .returned (.bool (Ws.may f)) ∧ Below w.heap.size w w' := by
  cases f
  exact may_calls _ _ _ _ w
theorem size_of (f : Ws.Fd) (w : World) (hn : f.n < 2 ^ 64) : Calls Tryd.prog 106 #[.agg #[.int .i64 f.k, .int .u8 f.w, .int .u64 f.n, .string ⟨f.s.toArray⟩]] w fun e w' => e = .returned (.int .i64 (Ws.size f)) ∧ Below w.heap.size w w' := by
  cases h : Ws.may f
  · have := size_no f w h
    unfold Ws.size
    rw [if_neg (by rw [h]; decide)]
    exact this
  · exact size_yes f w h hn

theorem kB_own {w : World} {base : Nat} {v : Value} (h : w.ownsRow base 5 1 v 0 []) : kB.R 5 w base (fun _ => True) v [] := Kd.R_of_own (enc := encB) (xs := []) h (fun _ _ => trivial)

theorem below_undrew {B : Nat} {w W : World} (h : Below B w.drew W) : Below B w W := ⟨h.os, h.tape, h.output, h.size, h.block⟩
theorem kB_bytes2 {w : World} {base : Nat} {ok : Nat → Prop} {v : Value} {l : List UInt8} (h : kB.R 5 w base ok v l) : w.ownsRow base 5 1 v (l.map fun b => (b.toNat : Int)).length (nums .u8 (l.map fun b => (b.toNat : Int))) := by
  obtain ⟨A, c, rfl, h2⟩ := kB_bytes h
  rwa [List.length_map]
theorem kB_str {w : World} {base : Nat} {v : Value} {l s : List UInt8} (h : w.ownsRow base 5 1 v ((l.map fun b => (b.toNat : Int)) ++ bytesOf ⟨s.toArray⟩).length (nums .u8 ((l.map fun b => (b.toNat : Int)) ++ bytesOf ⟨s.toArray⟩))) : kB.R 5 w base (fun _ => True) v (l ++ s) := by
  have e : nums .u8 ((l.map fun b => (b.toNat : Int)) ++ bytesOf ⟨s.toArray⟩) = encs encB (l ++ s) := by
    simp only [nums, bytesOf, encs, List.map_append, List.map_map]
    rfl
  have e2 : ((l.map fun b => (b.toNat : Int)) ++ bytesOf ⟨s.toArray⟩).length = (l ++ s).length := by simp [bytesOf]
  rw [e, e2] at h
  exact Kd.R_of_own h (fun _ _ => trivial)

/-- What Write answers. -/
def WritePost (w : World) (r : List UInt8 × Nat) (e : Ending) (w' : World) : Prop := e = .returned (.tuple #[.string ⟨r.1.toArray⟩, .int .i64 r.2]) ∧ Below w.heap.size w w'

set_option maxHeartbeats 2000000 in
set_option maxRecDepth 100000 in
theorem write_many (xs : List Ws.Fd) (A : Option Addr) (c : Nat) (w : World) (h : 4096 < xs.length) (hm : xs.length ≤ 9223372036854775807) :
    Calls Tryd.prog 98 #[.slice A xs.length c] w fun e w' => e = .returned (.tuple #[.string ⟨#[]⟩, .int .i64 3]) ∧ Below w.heap.size w w' := by
  have h' : (4096 : Int) < (xs.length : Int) := by omega
  go_enter Tryd.func98, Tryd.ntmps98
  go_wp2
  go_ret2
  exact ⟨rfl, Below.refl _ _⟩

set_option maxHeartbeats 2000000 in
set_option maxRecDepth 100000 in
theorem write_few (xs : List Ws.Fd) (A : Option Addr) (c : Nat) (w : World) (h : xs.length ≤ 4096) (hC : kF.C w A xs.length xs) (hn : ∀ f ∈ xs, f.n < 2 ^ 64) :
    Calls Tryd.prog 98 #[.slice A xs.length c] w (WritePost w (Ws.write xs)) := by
  have h' : ¬ (4096 : Int) < (xs.length : Int) := by omega
  have hW := Lib.hid (Ws.write_of xs h)
  generalize Ws.write xs = res at *
  have hsz := sizes_le xs hn
  have HC := Lib.hid hC
  have HN := Lib.hid hn
  clear hC hn
  go_enter Tryd.func98, Tryd.ntmps98
  go_wp2
  go_loopw [4, 16] (fun s i wr => ∃ k : Nat, k ≤ xs.length ∧ i = .int .i64 k ∧ s = .int .i64 (sizes (xs.take k)) ∧ Hid ((xs.take k).all Ws.may = true) ∧ Hid (Below w.heap.size w wr)) (fun _ i _ => xs.length - (intOf i).toNat)
  case atStart => exact ⟨0, Nat.zero_le _, rfl, rfl, rfl, Below.refl _ _⟩
  case round =>
    obtain ⟨k, hk, rfl, rfl, HM, HB⟩ := hrel
    by_cases hkn : k < xs.length
    · obtain ⟨x, hx⟩ : ∃ x, xs[k]? = some x := ⟨xs[k], List.getElem?_eq_getElem hkn⟩
      obtain ⟨ad, rfl, c0, c1, c2, c3⟩ := cellsF_at (Kd.C_below HC.out HB.out) k hkn x hx
      have hxn := HN.out x (List.mem_of_getElem? hx)
      have hxs := size_le x hxn
      have hks := sizes_le (xs.take k) (fun f hf => HN.out f (List.mem_of_mem_take hf))
      rw [List.length_take, Nat.min_eq_left hk] at hks
      have HX := Lib.hid hx
      clear hx
      cases hm : Ws.may x
      · have Hm := Lib.hid hm
        clear hm
        go_wp2_with fail
        refine (may_of x _).mono ?_
        rw [Hm.out]
        rintro e w1 ⟨rfl, hb⟩
        have Hb := Lib.hid ((HB.out.alloc HB.out.size _).trans (hb.mono (by have := HB.out.size; simp; omega)))
        clear hb
        go_wp2_with fail
        go_ret2
        have hr : res = ([], 2) := by
          rw [hW.out, if_neg]
          intro hh
          rw [List.all_eq_true] at hh
          have := hh x (List.mem_of_getElem? HX.out)
          rw [Hm.out] at this; cases this
        rw [hr]
        exact ⟨rfl, Hb.out⟩
      · have Hm := Lib.hid hm
        clear hm
        go_wp2_with fail
        refine (may_of x _).mono ?_
        rw [Hm.out]
        rintro e w1 ⟨rfl, hb⟩
        have hbx := blk_below (heap_alloc_new wr (.cells #[.int .i64 x.k, .int .u8 x.w, .int .u64 x.n, .string ⟨x.s.toArray⟩] 99)) (by simpa using hb)
        have Hb := Lib.hid ((HB.out.alloc HB.out.size _).trans (hb.mono (by have := HB.out.size; simp; omega)))
        have b0 : w1.cell? ⟨wr.heap.size, 0, none⟩ = some (.int .i64 x.k) := blk_cell hbx 0
        have b1 : w1.cell? ⟨wr.heap.size, 1, none⟩ = some (.int .u8 x.w) := blk_cell hbx 1
        have b2 : w1.cell? ⟨wr.heap.size, 2, none⟩ = some (.int .u64 x.n) := blk_cell hbx 2
        have b3 : w1.cell? ⟨wr.heap.size, 3, none⟩ = some (.string ⟨x.s.toArray⟩) := blk_cell hbx 3
        clear hb hbx
        go_wp2_with fail
        refine (size_of x _ hxn).mono ?_
        rintro e w2 ⟨rfl, hb⟩
        have Hb2 := Lib.hid (Hb.out.trans (hb.mono Hb.out.size))
        clear hb
        go_wp2_with fail
        go_roundw
        case rel => exact ⟨k + 1, by omega, by go_num, by rw [sizes_more _ _ _ HX.out]; go_num, all_more _ _ _ HX.out HM.out Hm.out, Hb2.out⟩
        case measure => simp [intOf]; omega
    · have hkk : k = xs.length := by omega
      subst hkk
      rw [List.take_length] at HM ⊢
      have hbl := sizes_bytes xs HM.out
      by_cases hl : 65536 < sizes xs
      · have Hbl := Lib.hid hbl
        clear hbl
        go_wp2_with fail
        go_ret2
        have hr : res = ([], 4) := by
          rw [hW.out, if_pos HM.out, if_pos (by rw [← Hbl.out]; exact hl)]
        rw [hr]
        exact ⟨rfl, HB.out⟩
      · have hl' : sizes xs ≤ 65536 := by omega
        have hres : res = (Ws.bytes xs, 0) := by rw [hW.out, if_pos HM.out, if_neg (by rw [← hbl]; omega)]
        have Hres := Lib.hid hres
        have Hbl := Lib.hid hbl
        clear hbl hW hres
        obtain ⟨i0, hi, hz0, hz1, hz2⟩ := info_parts infoB
        have hi0 : i0.bytes * sizes xs ≤ 281474976710656 := by rw [hz2]; omega
        have HI := Lib.hid hi
        have HZ0 := Lib.hid hz0
        have HZ1 := Lib.hid hz1
        clear hi hz0 hz1 hz2 hsz
        go_wp2_with (at_make; refine wpList_make_own _ rfl _ _ 34 rfl w.heap.size 5 i0 (.int .u8 0) 1 Tryd.underlying34 HI.out HZ0.out HZ1.out .i64 .i64 _ (sizes xs) rfl rfl rfl hi0 (by unfold maxLen; omega) HB.out.size ?_; intro w1 ho hg; have HO := Lib.hid (kB_own ho); have HB1 := Lib.hid (HB.out.grown hg HB.out.size (fun _ hk => by cases hk)); clear ho hg)
        clear HI HZ0 HZ1 hi0
        clear HB
        go_loopw [7, 34] (fun v i wr => ∃ k : Nat, k ≤ xs.length ∧ i = .int .i64 k ∧ Hid (kB.R 5 wr w.heap.size (fun _ => True) v (Ws.bytes (xs.take k))) ∧ Hid (Below w.heap.size w wr)) (fun _ i _ => xs.length - (intOf i).toNat)
        case atStart => exact ⟨0, Nat.zero_le _, rfl, HO, HB1⟩
        case round =>
          clear HO HB1
          obtain ⟨k, hk, rfl, HO, HB⟩ := hrel
          by_cases hkn : k < xs.length
          · obtain ⟨x, hx⟩ : ∃ x, xs[k]? = some x := ⟨xs[k], List.getElem?_eq_getElem hkn⟩
            obtain ⟨ad, rfl, c0, c1, c2, c3⟩ := cellsF_at (Kd.C_below HC.out HB.out) k hkn x hx
            have hxn := HN.out x (List.mem_of_getElem? hx)
            have hxm : Ws.may x = true := (List.all_eq_true.1 HM.out) x (List.mem_of_getElem? hx)
            have hbk := bytes_more xs k x hx
            have hlk : (Ws.bytes (xs.take k)).length + (Ws.one x).length ≤ 65536 := by
              have h1 := part_len xs (k + 1)
              rw [hbk, List.length_append] at h1
              have := Hbl.out
              omega
            have hxk := Ws.may_num hxm
            have hxw := Ws.may_wire hxm
            obtain ⟨kk, xw, xn, xs_⟩ := x
            obtain ⟨m, rfl⟩ : ∃ m : Nat, kk = (m : Int) := ⟨kk.toNat, by have := hxk.1; simp only at this; omega⟩
            have hm1 : 1 ≤ m := by have := hxk.1; simp only at this; omega
            have hm2 : m ≤ 536870911 := by have := hxk.2; simp only at this; omega
            have hw8 : xw < 8 := by simp only at hxw; omega
            simp only at c0 c1 c2 c3 hxn hxw
            have hor : bits .or .u64 ((m : Int) * 8) (xw : Int) = ((m * 8 + xw : Nat) : Int) := Ws.key_or m xw hm2 hw8
            have hkey : m * 8 + xw < 2 ^ 64 := by omega
            have Hor := Lib.hid hor
            obtain ⟨key, hkey2⟩ : ∃ key, key = m * 8 + xw := ⟨_, rfl⟩
            rw [← hkey2] at hor hkey
            have Hbk := Lib.hid hbk
            have Hk2 := Lib.hid hkey2
            have Hlk := Lib.hid hlk
            clear hx hxm hbk hxk hkey2 hlk
            obtain ⟨A1, cp, rfl⟩ := Kd.R_slice HO.out
            go_wp2_with fail
            refine (number_calls _ key _ w.heap.size _ (Kd.R_alloc HO.out _) (by have := HB.out.size; simp; omega) hkey (by have := Hlk.out; omega)).mono ?_
            rintro e W1 ⟨v1, rfl, hh⟩
            obtain ⟨l1, hl1⟩ : ∃ l1, l1 = Ws.bytes (List.take k xs) ++ Ws.vi key := ⟨_, rfl⟩
            rw [← hl1] at hh
            have hl1l : l1.length = (Ws.bytes (List.take k xs)).length + (Ws.vi key).length := by rw [hl1, List.length_append]
            have Hl1l := Lib.hid hl1l
            have Hl1 := Lib.hid hl1
            clear hl1 hl1l
            have hbx := blk_grown (heap_alloc_new wr (.cells #[.int .i64 m, .int .u8 xw, .int .u64 xn, .string ⟨xs_.toArray⟩] 99)) hh.grown (fun he => by have := Kd.R_lt HO.out _ he.symm; omega)
            have hb1 := Lib.hid ((HB.out.alloc HB.out.size _).trans hh.below)
            have hw1 : w.heap.size ≤ W1.heap.size := hb1.out.size
            have HBX := Lib.hid hbx
            have b0 : W1.cell? ⟨wr.heap.size, 0, none⟩ = some (.int .i64 m) := blk_cell hbx 0
            have b1 : W1.cell? ⟨wr.heap.size, 1, none⟩ = some (.int .u8 xw) := blk_cell hbx 1
            have b2 : W1.cell? ⟨wr.heap.size, 2, none⟩ = some (.int .u64 xn) := blk_cell hbx 2
            have b3 : W1.cell? ⟨wr.heap.size, 3, none⟩ = some (.string ⟨xs_.toArray⟩) := blk_cell hbx 3
            have HO1 := Lib.hid hh.row
            clear hh hbx hor Hor HO HB
            obtain ⟨A2, cp2, rfl⟩ := Kd.R_slice HO1.out
            rcases hxw with ⟨rfl | rfl, rfl⟩ | ⟨rfl, rfl, hn4⟩ | ⟨rfl, rfl, hs2⟩
            · have hone : Ws.one ⟨(m : Int), 0, xn, []⟩ = Ws.vi key ++ Ws.vi xn := by rw [Hk2.out]; simp [Ws.one, Ws.body]
              have Ho := Lib.hid hone
              clear hone
              go_wp2_with fail
              refine (number_calls _ xn _ w.heap.size _ HO1.out hw1 hxn (by have := Hlk.out; have := Hl1l.out; rw [Ho.out, List.length_append] at *; omega)).mono ?_
              rintro e W2 ⟨v2, rfl, hh⟩
              have hr := hh.row
              rw [Hl1.out, List.append_assoc, ← Ho.out, ← Hbk.out] at hr
              have Hr := Lib.hid hr
              have Hb := Lib.hid (hb1.out.trans hh.below)
              clear hh hr
              go_wp2_with fail
              go_roundw
              case rel => exact ⟨k + 1, by omega, by go_num, Hr, Hb⟩
              case measure => simp [intOf]; omega
            · have hone : Ws.one ⟨(m : Int), 1, xn, []⟩ = Ws.vi key ++ Ws.lo 8 xn := by rw [Hk2.out]; simp [Ws.one, Ws.body]
              have Ho := Lib.hid hone
              clear hone
              have hl1b : l1.length ≤ 65536 := by
                have e1 := Hlk.out
                have e2 := Hl1l.out
                rw [Ho.out, List.length_append] at e1
                omega
              go_wp2_with fail
              obtain ⟨wo, rfl⟩ : ∃ wo : World, wo = wr := ⟨_, rfl⟩
              go_loopw [7, 10] (fun v i wr => ∃ j : Nat, j ≤ 8 ∧ i = .int .i64 ((8 * j : Nat) : Int) ∧ Hid (kB.R 5 wr w.heap.size (fun _ => True) v (l1 ++ Ws.lo j xn)) ∧ Hid (Below w.heap.size w wr) ∧ Hid (wr.heap[wo.heap.size]? = some (.cells #[.int .i64 m, .int .u8 1, .int .u64 xn, .string ⟨#[]⟩] 99 (0, 0)))) (fun _ i _ => 64 - (intOf i).toNat)
              case atStart => exact ⟨0, by omega, rfl, by rw [Ws.lo, List.append_nil]; exact HO1, hb1, HBX⟩
              case round =>
                clear b0 b1 b2 b3 HO1 hb1 HBX
                obtain ⟨j, hj, rfl, HO, HB, HX⟩ := hrel
                have b1 : wr.cell? ⟨wo.heap.size, 1, none⟩ = some (.int .u8 1) := blk_cell HX.out 1
                have b2 : wr.cell? ⟨wo.heap.size, 2, none⟩ = some (.int .u64 xn) := blk_cell HX.out 2
                obtain ⟨l3, hl3⟩ : ∃ l3, l3 = l1 ++ Ws.lo j xn := ⟨_, rfl⟩
                rw [← hl3] at HO
                have hl3b : (l3.length + 1) * 1 ≤ 140737488355328 := by rw [hl3, List.length_append, Ws.lo_len]; omega
                have Hl3 := Lib.hid hl3
                clear hl3
                obtain ⟨A4, cp4, rfl⟩ := Kd.R_slice HO.out
                have hws : w.heap.size ≤ wr.heap.size := HB.out.size
                by_cases hj8 : j < 8
                · have hi64 : ((8 * j : Nat) : Int) < 64 := by omega
                  by_cases hj4 : j < 4
                  · have hi32 : ((8 * j : Nat) : Int) < 32 := by omega
                    have hby := Ws.byte_at xn j
                    obtain ⟨u, hu⟩ : ∃ u, u = UInt8.ofNat (xn / 256 ^ j % 256) := ⟨_, rfl⟩
                    rw [← hu] at hby
                    have Hu := Lib.hid hu
                    clear hu
                    go_wp2_with (at_builtin; refine Kd.R_append kB (w0 := wr) w.heap.size rfl (.tmp 83) (.tmp 89) 34 5 (.int .u8 0) 1 rfl Tryd.underlying34 infoB rfl (by decide) (by decide) (.slice A4 l3.length cp4) l3 u [.int .u8 u.toNat] (fun _ => True) (fun _ => False) rfl rfl ?hp (fun _ hk => hk.elim) ?hfr ?hO ?hB ?hbs hl3b ?_; (case hp => exact kB_mkM _ _ _ _); (case hfr => (intro k hk; trivial)); (case hO => exact HO.out); (case hB => exact Below.refl _ _); (case hbs => exact hws); intro v4 W4 ho hb hg hat; have HO4 := Lib.hid ho; have HB4 := Lib.hid (HB.out.trans hb); have HX4 := Lib.hid (blk_grown HX.out hg (Kd.R_ne HO.out HX.out (by decide))); clear ho hb hg hat)
                    go_roundw
                    case rel => exact ⟨j + 1, by omega, by go_num, by rw [Ws.lo_more, ← Hu.out, ← List.append_assoc, ← Hl3.out]; exact HO4, HB4, HX4⟩
                    case measure => simp [intOf]; omega
                  · have hi32 : ¬ ((8 * j : Nat) : Int) < 32 := by omega
                    have hby := Ws.byte_at xn j
                    obtain ⟨u, hu⟩ : ∃ u, u = UInt8.ofNat (xn / 256 ^ j % 256) := ⟨_, rfl⟩
                    rw [← hu] at hby
                    have Hu := Lib.hid hu
                    clear hu
                    go_wp2_with (at_builtin; refine Kd.R_append kB (w0 := wr) w.heap.size rfl (.tmp 83) (.tmp 89) 34 5 (.int .u8 0) 1 rfl Tryd.underlying34 infoB rfl (by decide) (by decide) (.slice A4 l3.length cp4) l3 u [.int .u8 u.toNat] (fun _ => True) (fun _ => False) rfl rfl ?hp (fun _ hk => hk.elim) ?hfr ?hO ?hB ?hbs hl3b ?_; (case hp => exact kB_mkM _ _ _ _); (case hfr => (intro k hk; trivial)); (case hO => exact HO.out); (case hB => exact Below.refl _ _); (case hbs => exact hws); intro v4 W4 ho hb hg hat; have HO4 := Lib.hid ho; have HB4 := Lib.hid (HB.out.trans hb); have HX4 := Lib.hid (blk_grown HX.out hg (Kd.R_ne HO.out HX.out (by decide))); clear ho hb hg hat)
                    go_roundw
                    case rel => exact ⟨j + 1, by omega, by go_num, by rw [Ws.lo_more, ← Hu.out, ← List.append_assoc, ← Hl3.out]; exact HO4, HB4, HX4⟩
                    case measure => simp [intOf]; omega
                · have hi64 : ¬ ((8 * j : Nat) : Int) < 64 := by omega
                  have hjj : j = 8 := by omega
                  subst hjj
                  have Hr4 : Hid (kB.R 5 wr w.heap.size (fun _ => True) (.slice A4 l3.length cp4) (Ws.bytes (xs.take (k + 1)))) := by
                    have e : l3 = Ws.bytes (xs.take (k + 1)) := by rw [Hl3.out, Hl1.out, Hbk.out, Ho.out, List.append_assoc]
                    rw [← e]
                    exact HO.out
                  go_wp2_with fail
                  go_roundw
                  case rel => exact ⟨k + 1, by omega, by go_num, Hr4, HB⟩
                  case measure => simp [intOf]; omega
            · have hone : Ws.one ⟨(m : Int), 5, xn, []⟩ = Ws.vi key ++ Ws.lo 4 xn := by rw [Hk2.out]; simp [Ws.one, Ws.body]
              have Ho := Lib.hid hone
              clear hone
              have hl1b : l1.length ≤ 65536 := by
                have e1 := Hlk.out
                have e2 := Hl1l.out
                rw [Ho.out, List.length_append] at e1
                omega
              go_wp2_with fail
              obtain ⟨wo, rfl⟩ : ∃ wo : World, wo = wr := ⟨_, rfl⟩
              go_loopw [7, 10] (fun v i wr => ∃ j : Nat, j ≤ 4 ∧ i = .int .i64 ((8 * j : Nat) : Int) ∧ Hid (kB.R 5 wr w.heap.size (fun _ => True) v (l1 ++ Ws.lo j xn)) ∧ Hid (Below w.heap.size w wr) ∧ Hid (wr.heap[wo.heap.size]? = some (.cells #[.int .i64 m, .int .u8 5, .int .u64 xn, .string ⟨#[]⟩] 99 (0, 0)))) (fun _ i _ => 64 - (intOf i).toNat)
              case atStart => exact ⟨0, by omega, rfl, by rw [Ws.lo, List.append_nil]; exact HO1, hb1, HBX⟩
              case round =>
                clear b0 b1 b2 b3 HO1 hb1 HBX
                obtain ⟨j, hj, rfl, HO, HB, HX⟩ := hrel
                have b1 : wr.cell? ⟨wo.heap.size, 1, none⟩ = some (.int .u8 5) := blk_cell HX.out 1
                have b2 : wr.cell? ⟨wo.heap.size, 2, none⟩ = some (.int .u64 xn) := blk_cell HX.out 2
                obtain ⟨l3, hl3⟩ : ∃ l3, l3 = l1 ++ Ws.lo j xn := ⟨_, rfl⟩
                rw [← hl3] at HO
                have hl3b : (l3.length + 1) * 1 ≤ 140737488355328 := by rw [hl3, List.length_append, Ws.lo_len]; omega
                have Hl3 := Lib.hid hl3
                clear hl3
                obtain ⟨A4, cp4, rfl⟩ := Kd.R_slice HO.out
                have hws : w.heap.size ≤ wr.heap.size := HB.out.size
                by_cases hj4 : j < 4
                · have hi64 : ((8 * j : Nat) : Int) < 64 := by omega
                  have hi32 : ((8 * j : Nat) : Int) < 32 := by omega
                  have hby := Ws.byte_at xn j
                  obtain ⟨u, hu⟩ : ∃ u, u = UInt8.ofNat (xn / 256 ^ j % 256) := ⟨_, rfl⟩
                  rw [← hu] at hby
                  have Hu := Lib.hid hu
                  clear hu
                  go_wp2_with (at_builtin; refine Kd.R_append kB (w0 := wr) w.heap.size rfl (.tmp 83) (.tmp 89) 34 5 (.int .u8 0) 1 rfl Tryd.underlying34 infoB rfl (by decide) (by decide) (.slice A4 l3.length cp4) l3 u [.int .u8 u.toNat] (fun _ => True) (fun _ => False) rfl rfl ?hp (fun _ hk => hk.elim) ?hfr ?hO ?hB ?hbs hl3b ?_; (case hp => exact kB_mkM _ _ _ _); (case hfr => (intro k hk; trivial)); (case hO => exact HO.out); (case hB => exact Below.refl _ _); (case hbs => exact hws); intro v4 W4 ho hb hg hat; have HO4 := Lib.hid ho; have HB4 := Lib.hid (HB.out.trans hb); have HX4 := Lib.hid (blk_grown HX.out hg (Kd.R_ne HO.out HX.out (by decide))); clear ho hb hg hat)
                  go_roundw
                  case rel => exact ⟨j + 1, by omega, by go_num, by rw [Ws.lo_more, ← Hu.out, ← List.append_assoc, ← Hl3.out]; exact HO4, HB4, HX4⟩
                  case measure => simp [intOf]; omega
                · have hi64 : ((8 * j : Nat) : Int) < 64 := by omega
                  have hi32 : ¬ ((8 * j : Nat) : Int) < 32 := by omega
                  have hjj : j = 4 := by omega
                  subst hjj
                  have Hr4 : Hid (kB.R 5 wr w.heap.size (fun _ => True) (.slice A4 l3.length cp4) (Ws.bytes (xs.take (k + 1)))) := by
                    have e : l3 = Ws.bytes (xs.take (k + 1)) := by rw [Hl3.out, Hl1.out, Hbk.out, Ho.out, List.append_assoc]
                    rw [← e]
                    exact HO.out
                  go_wp2_with fail
                  go_roundw
                  case rel => exact ⟨k + 1, by omega, by go_num, Hr4, HB⟩
                  case measure => simp [intOf]; omega
            · have hone : Ws.one ⟨(m : Int), 2, 0, xs_⟩ = Ws.vi key ++ (Ws.vi xs_.length ++ xs_) := by rw [Hk2.out]; simp [Ws.one, Ws.body]
              have Ho := Lib.hid hone
              clear hone
              go_wp2_with fail
              have hs64 : xs_.length < 2 ^ 64 := by omega
              have hwl : IntKind.u64.wrap (xs_.length : Int) = (xs_.length : Int) := by rw [IntKind.wrap_u64]; omega
              refine Rg.begin_calm [0, 1, 2, 3, 4, 6, 7] (fun W => W.cell? ⟨wr.heap.size, 3, none⟩ = some (.string ⟨xs_.toArray⟩)) (by kernel_rfl) ?_
              refine Rg.take_ (i := 0) (v := .slice A2 l1.length cp2) rfl (by simp) (by kernel_rfl) (fun _ _ _ h => h) (.inl ⟨rfl, ?_⟩) (by go_simp) ?_
              · intro W hW
                go_simp
              simp only [Act.put, List.setIfInBounds_toArray, List.set_cons_zero, List.set_cons_succ]
              refine Rg.take_ (i := 1) (v := .pointer (some ⟨wr.heap.size, 3, none⟩)) rfl (by simp) (by kernel_rfl) (fun _ _ _ h => h) (.inl ⟨rfl, ?_⟩) (by go_simp) ?_
              · intro W hW
                go_simp
              simp only [Act.put, List.setIfInBounds_toArray, List.set_cons_zero, List.set_cons_succ]
              refine Rg.take_ (i := 2) (v := .string ⟨xs_.toArray⟩) rfl (by simp) (by kernel_rfl) (fun _ _ _ h => h) (.inl ⟨rfl, ?_⟩) (by go_simp) ?_
              · intro W hW
                go_simp
              simp only [Act.put, List.setIfInBounds_toArray, List.set_cons_zero, List.set_cons_succ]
              refine Rg.take_ (i := 3) (v := .int .i64 xs_.length) rfl (by simp) (by kernel_rfl) (fun _ _ _ h => h) (.inl ⟨rfl, ?_⟩) (by go_simp) ?_
              · intro W hW
                go_simp
              simp only [Act.put, List.setIfInBounds_toArray, List.set_cons_zero, List.set_cons_succ]
              refine Rg.take_ (i := 4) (v := .int .u64 xs_.length) rfl (by simp) (by kernel_rfl) (fun _ _ _ h => h) (.inl ⟨rfl, ?_⟩) (by go_simp) ?_
              · intro W hW
                go_simp
              simp only [Act.put, List.setIfInBounds_toArray, List.set_cons_zero, List.set_cons_succ]
              refine Rg.take_ (i := 6) (v := .pointer (some ⟨wr.heap.size, 3, none⟩)) rfl (by simp) (by kernel_rfl) (fun _ _ _ h => h) (.inl ⟨rfl, ?_⟩) (by go_simp) ?_
              · intro W hW
                go_simp
              simp only [Act.put, List.setIfInBounds_toArray, List.set_cons_zero, List.set_cons_succ]
              refine Rg.take_ (i := 7) (v := .string ⟨xs_.toArray⟩) rfl (by simp) (by kernel_rfl) (fun _ _ _ h => h) (.inl ⟨rfl, ?_⟩) (by go_simp) ?_
              · intro W hW
                go_simp
              simp only [Act.put, List.setIfInBounds_toArray, List.set_cons_zero, List.set_cons_succ]
              refine Rg.step_ (j := 5) rfl (by kernel_rfl) ?_
              go_wp2_with fail
              refine (number_calls l1 xs_.length _ w.heap.size W1.drew (Kd.R_drew HO1.out) hw1 hs64 (by have := Hlk.out; have := Hl1l.out; rw [Ho.out, List.length_append] at *; omega)).mono ?_
              rintro e W2 ⟨v2, rfl, hh⟩
              obtain ⟨l2, hl2⟩ : ∃ l2, l2 = l1 ++ Ws.vi xs_.length := ⟨_, rfl⟩
              rw [← hl2] at hh
              have hl2l : l2.length + xs_.length ≤ 65536 := by
                have e1 := Hlk.out
                have e2 := Hl1l.out
                rw [Ho.out, List.length_append, List.length_append] at e1
                rw [hl2, List.length_append]
                omega
              have Hl2 := Lib.hid hl2
              have hbx2 : W2.heap[wr.heap.size]? = _ := blk_grown (w := W1.drew) HBX.out hh.grown (Kd.R_ne HO1.out HBX.out (by decide))
              have b32 : W2.cell? ⟨wr.heap.size, 3, none⟩ = some (.string ⟨xs_.toArray⟩) := blk_cell hbx2 3
              have Hbx2 := Lib.hid hbx2
              have Hb2 := Lib.hid (hb1.out.trans (below_undrew hh.below))
              have hw2 : w.heap.size ≤ W2.heap.size := Hb2.out.size
              have Hr2 := Lib.hid hh.row
              obtain ⟨A3, cp3, rfl⟩ := Kd.R_slice hh.row
              clear hh hl2 hbx2
              go_wp2_with fail
              (try (with_reducible refine And.intro (by go_simp) ?_))
              refine Rg.step_ (j := 8) rfl (by kernel_rfl) ?_
              have hown := Lib.hid (kB_bytes2 Hr2.out)
              have hlen3 : (l2.map fun b => (b.toNat : Int)).length = l2.length := by simp
              refine print_append_str (w0 := W2) w.heap.size rfl (.tmp 57) (.tmp 59) 34 9 5 rfl Tryd.underlying34 Tryd.underlying9 infoB (.slice A3 l2.length cp3) (l2.map fun b => (b.toNat : Int)) ⟨xs_.toArray⟩ rfl rfl hown.out (Below.refl _ _) hw2 (by show _ + xs_.length ≤ _; rw [hlen3]; omega) ?_
              intro v3 W3 ho hb hg
              have Hr3 := Lib.hid (kB_str ho)
              have Hb3 := Lib.hid (Hb2.out.trans hb)
              have b33 : W3.cell? ⟨wr.heap.size, 3, none⟩ = some (.string ⟨xs_.toArray⟩) := (World.cell?_of_block (w := W2) (hg.block wr.heap.size (blk_lt Hbx2.out) (Kd.R_ne Hr2.out Hbx2.out (by decide)))).trans b32
              clear ho hb hg
              refine wpList_nil ?_
              refine And.intro b33 ?_
              simp only [Act.put, List.setIfInBounds_toArray, List.set_cons_zero, List.set_cons_succ]
              refine Rg.step_ (j := 9) rfl (by kernel_rfl) ?_
              go_wp2_with fail
              (try (with_reducible refine And.intro (by go_simp) ?_))
              refine Rg.done_ (by kernel_rfl) ?_ _
              refine Rg.Calm.normal ?_
              have hr3 := Hr3.out
              rw [Hl2.out, Hl1.out, List.append_assoc, List.append_assoc, ← Ho.out, ← Hbk.out] at hr3
              have Hr4 := Lib.hid hr3
              clear hr3
              go_wp2_with fail
              go_roundw
              case rel => exact ⟨k + 1, by omega, by go_num, Hr4, Hb3⟩
              case measure => simp [intOf]; omega
          · have hkk : k = xs.length := by omega
            subst hkk
            rw [List.take_length] at HO
            obtain ⟨A1, cp, hv, ho⟩ := kB_bytes HO.out
            have hcv := own_string (P := Tryd.prog) Tryd.underlying34 Tryd.underlying5 Tryd.underlying9 ho
            rw [str_bytes] at hcv
            subst hv
            clear ho HO
            go_wp2_with fail
            go_ret2
            rw [Hres.out]
            exact ⟨rfl, HB.out⟩

theorem write_calls (xs : List Ws.Fd) (A : Option Addr) (c : Nat) (w : World) (hC : kF.C w A xs.length xs) (hn : ∀ f ∈ xs, f.n < 2 ^ 64) :
    Calls Tryd.prog 98 #[.slice A xs.length c] w (WritePost w (Ws.write xs)) := by
  by_cases h : xs.length ≤ 4096
  · exact write_few xs A c w h hC hn
  · refine (write_many xs A c w (by omega) (Kd.C_max hC)).mono ?_
    rintro e w' ⟨rfl, hb⟩
    have : Ws.write xs = ([], 3) := by unfold Ws.write; rw [if_pos (by omega)]
    rw [this]
    exact ⟨rfl, hb⟩
end Go.Proofs.YtbgfiflnfndckaaDoor
