/- The walks of Same and SamePairs. No conditions but the kinds' own. -/
import Derived.Test.YtbgfiflnfndckaaDoorRv
import Derived.Test.YtbgfiflnfndckaaDoorVk
set_option linter.unusedVariables false
set_option linter.unusedSimpArgs false
namespace Go.Proofs.YtbgfiflnfndckaaDoor
open Go.RowKit Go.Proofs.YtbgfiflnfndckaaDoorW.PrintWords
attribute [local go_sem] run_store_float

namespace Vs
mutual
/-- Are two values one? -/
def same : V → V → Bool
  | .mk x l m, .mk y l' m' => flat x y l.length l'.length m.length m'.length && (sameL l l' && sameP m m')
def sameL : List V → List V → Bool
  | [], [] => true
  | a :: l, b :: l' => same a b && sameL l l'
  | _, _ => false
def sameP : List (ByteArray × V) → List (ByteArray × V) → Bool
  | [], [] => true
  | (k, a) :: l, (k', b) :: l' => (k.toList == k'.toList && same a b) && sameP l l'
  | _, _ => false
end
theorem sameL_take : ∀ (l l' : List V) (k : Nat) (a b : V), l[k]? = some a → l'[k]? = some b → sameL (l.take k) (l'.take k) = true → sameL (l.take (k + 1)) (l'.take (k + 1)) = same a b ∧ (same a b = false → sameL l l' = false)
  | a :: l, b :: l', 0, _, _, rfl, rfl, _ => ⟨by simp [sameL], fun h => by simp [sameL, h]⟩
  | a :: l, b :: l', k + 1, x, y, hx, hy, h => by
    simp only [List.take_succ_cons, sameL, Bool.and_eq_true] at h
    have h2 := sameL_take l l' k x y (by simpa using hx) (by simpa using hy) h.2
    refine ⟨?_, fun hh => ?_⟩
    · rw [List.take_succ_cons, List.take_succ_cons, sameL, h.1, h2.1]; rfl
    · rw [sameL, h2.2 hh, Bool.and_false]
  | [], _, k, _, _, hx, _, _ => by simp at hx
  | _ :: _, [], k, _, _, _, hy, _ => by simp at hy
theorem sameP_take : ∀ (l l' : List (ByteArray × V)) (k : Nat) (a b : ByteArray × V), l[k]? = some a → l'[k]? = some b → sameP (l.take k) (l'.take k) = true →
    sameP (l.take (k + 1)) (l'.take (k + 1)) = (a.1.toList == b.1.toList && same a.2 b.2) ∧ ((a.1.toList == b.1.toList && same a.2 b.2) = false → sameP l l' = false)
  | (k1, a) :: l, (k2, b) :: l', 0, _, _, rfl, rfl, _ => ⟨by simp [sameP], fun h => by simp only at h; rw [sameP, h]; rfl⟩
  | (k1, a) :: l, (k2, b) :: l', k + 1, x, y, hx, hy, h => by
    simp only [List.take_succ_cons, sameP, Bool.and_eq_true] at h
    have h2 := sameP_take l l' k x y (by simpa using hx) (by simpa using hy) h.2
    refine ⟨?_, fun hh => ?_⟩
    · rw [List.take_succ_cons, List.take_succ_cons, sameP, h.1.1, h.1.2, h2.1]; rfl
    · rw [sameP, h2.2 hh, Bool.and_false]
  | [], _, k, _, _, hx, _, _ => by simp at hx
  | _ :: _, [], k, _, _, _, hy, _ => by simp at hy
theorem sameL_len : ∀ (l l' : List V), l.length ≠ l'.length → sameL l l' = false
  | [], [], h => absurd rfl h
  | [], _ :: _, _ => by rfl
  | _ :: _, [], _ => by rfl
  | a :: l, b :: l', h => by rw [sameL, sameL_len l l' (by simpa using h), Bool.and_false]
theorem sameP_len : ∀ (l l' : List (ByteArray × V)), l.length ≠ l'.length → sameP l l' = false
  | [], [], h => absurd rfl h
  | [], _ :: _, _ => by rfl
  | _ :: _, [], _ => by rfl
  | (_, a) :: l, (_, b) :: l', h => by rw [sameP, sameP_len l l' (by simpa using h), Bool.and_false]
end Vs

/-- The seven cells of a value at a place, as a walk comes to them. -/
theorem at_cells {w : World} {a : Addr} {x : Vs.Sc} {l m : Value} (k : Nat) (h : At w (a.add k) (cellsV x l m)) :
    w.cell? (a.add k) = some (.int .u8 x.k) ∧ w.cell? ⟨(a.add k).block, (a.add k).off + 1, none⟩ = some (.string x.s) ∧ w.cell? ⟨(a.add k).block, (a.add k).off + 2, none⟩ = some (.bool x.b) ∧ w.cell? ⟨(a.add k).block, (a.add k).off + 3, none⟩ = some (.int .i64 x.n) ∧
      w.cell? ⟨(a.add k).block, (a.add k).off + 4, none⟩ = some (.float .f64 x.f) ∧ w.cell? ⟨(a.add k).block, (a.add k).off + 5, none⟩ = some l ∧ w.cell? ⟨(a.add k).block, (a.add k).off + 6, none⟩ = some m := by
  have e : ∀ j u, (cellsV x l m)[j]? = some u → w.cell? (a.add (k + j)) = some u := fun j u hj => by rw [← Go.Deep.add_add]; exact h j u hj
  refine ⟨by have := e 0 (.int .u8 x.k) rfl; rwa [Nat.add_zero] at this, ?_, ?_, ?_, ?_, ?_, ?_⟩
  all_goals rw [← add_field _ _ _ (by omega)]
  · exact e 1 _ rfl
  · exact e 2 _ rfl
  · exact e 3 _ rfl
  · exact e 4 _ rfl
  · exact e 5 _ rfl
  · exact e 6 _ rfl
/-- Every value's cells are seven. -/
theorem Rd.cells {w : World} {v : Vs.V} {cs : Array Value} (h : Rd w v cs) : ∃ A ca B cb, cs = cellsV v.x (.slice A v.l.length ca) (.slice B v.m.length cb) := by
  cases h
  exact ⟨_, _, _, _, rfl⟩

/-- What Same owes at a value: in every later world, against every value. -/
def SameAt (w : World) (v : Vs.V) (cs : Array Value) : Prop := ∀ w', Below w.heap.size w w' → ∀ (u : Vs.V) (ds : Array Value), Rd w' u ds →
  Calls Tryd.prog 18 #[.agg cs, .agg ds] w' fun e w'' => e = .returned (.bool (Vs.same v u)) ∧ Below w'.heap.size w' w''

set_option maxHeartbeats 2000000 in
set_option maxRecDepth 100000 in
theorem equal_calls (l l' : List Vs.V) (A B : Option Addr) (c d : Nat) (w : World) (Cs : Nat → Array Value) (hl1 : l.length * 96 ≤ 140737488351232) (hA1 : ∀ i, i < l.length → ∃ a, A = some a ∧ At w (a.add (i * 7)) (Cs i)) (hCs : ∀ i v, l[i]? = some v → Rd w v (Cs i)) (hB : RdL w B l')
    (hS2 : ∀ i v, l[i]? = some v → SameAt w v (Cs i)) :
    Calls Tryd.prog 51 #[.slice A l.length c, .slice B l'.length d, .func (.func 18) #[] #[]] w fun e w' =>
      e = .returned (.bool (Vs.sameL l l')) ∧ Below w.heap.size w w' := by
  obtain ⟨Ds, hl2, hB1, hDs⟩ := hB
  have hu := Tryd.underlying27
  obtain ⟨res, hres⟩ : ∃ r, r = Vs.sameL l l' := ⟨_, rfl⟩
  rw [← hres]
  have HR := Lib.hid hres
  have HA := Lib.hid hA1
  have HB := Lib.hid hB1
  have HC := Lib.hid hCs
  have HD := Lib.hid hDs
  have HS := Lib.hid hS2
  have hm1 : l.length ≤ 9223372036854775807 := by omega
  have hm2 : l'.length ≤ 9223372036854775807 := by omega
  clear hres hA1 hB1 hCs hDs hS2 hl1 hl2
  by_cases hle : l.length = l'.length
  · have hle1 : ((l.length : Int) != (l'.length : Int)) = false := by rw [bne_eq_false_iff_eq]; omega
    have HE := Lib.hid hle
    clear hle
    go_enter Tryd.func51, Tryd.ntmps51
    go_wp2
    go_loopw [7, 8, 9, 17] (fun i7 i8 i9 i wr => ∃ k : Nat, k ≤ l.length ∧ i = .int .i64 k ∧ Hid (Vs.sameL (l.take k) (l'.take k) = true) ∧ Hid (Below w.heap.size w wr)) (fun _ _ _ i _ => l.length - (intOf i).toNat)
    case atStart => exact ⟨0, Nat.zero_le _, rfl, Lib.hid (by simp [Vs.sameL]), Lib.hid (Below.refl _ _)⟩
    case round =>
      obtain ⟨k, hk, rfl, HT, HW⟩ := hrel
      by_cases hkn : k < l.length
      · have hkm : k < l'.length := by have := HE.out; omega
        obtain ⟨x, hx⟩ : ∃ x, l[k]? = some x := ⟨l[k], List.getElem?_eq_getElem hkn⟩
        obtain ⟨y, hy⟩ : ∃ y, l'[k]? = some y := ⟨l'[k], List.getElem?_eq_getElem hkm⟩
        obtain ⟨ad, hAd, hat⟩ := HA.out k hkn
        obtain ⟨bd, hBd, hbt⟩ := HB.out k hkm
        obtain ⟨A1, ca1, B1, cb1, hcs⟩ := (HC.out k x hx).cells
        obtain ⟨A2, ca2, B2, cb2, hds⟩ := (HD.out k y hy).cells
        have hs := HS.out k x hx
        have hry := HD.out k y hy
        have ht := Vs.sameL_take l l' k x y hx hy HT.out
        have HTT := Lib.hid ht
        rw [hcs] at hat hs
        rw [hds] at hbt hry
        have HSS := Lib.hid hs
        have HRY := Lib.hid hry
        obtain ⟨c0, c1, c2, c3, c4, c5, c6⟩ := at_cells _ (hat.below HW.out)
        obtain ⟨d0, d1, d2, d3, d4, d5, d6⟩ := at_cells _ (hbt.below (HW.out.alloc HW.out.size (.cells (cellsV x.x (.slice A1 x.l.length ca1) (.slice B1 x.m.length cb1)) 27)))
        unfold cellsV at d0 d1 d2 d3 d4 d5 d6
        clear hx hy hat hbt hcs hds hs hry ht
        subst hAd hBd
        have HW2 := Lib.hid (show Below w.heap.size w ((wr.alloc (.cells (cellsV x.x (.slice A1 x.l.length ca1) (.slice B1 x.m.length cb1)) 27)).alloc (.cells (cellsV y.x (.slice A2 y.l.length ca2) (.slice B2 y.m.length cb2)) 27)) from (HW.out.alloc HW.out.size _).alloc (Nat.le_trans HW.out.size (by simp)) _)
        go_wp2_with fail
        refine (HSS.out _ HW2.out y _ (HRY.out.lower HW2.out)).mono ?_
        rintro e w2 ⟨rfl, hb⟩
        have HW3 := Lib.hid (HW2.out.trans (hb.mono HW2.out.size))
        clear hb c0 c1 c2 c3 c4 c5 c6 d0 d1 d2 d3 d4 d5 d6 HW2
        cases hsame : Vs.same x y
        · have hr : res = false := by rw [HR.out]; exact HTT.out.2 hsame
          have hnot : (!Vs.same x y) = true := by rw [hsame]; rfl
          go_wp2
          go_ret
          rw [hr]
          exact ⟨rfl, HW3.out⟩
        · go_wp2
          go_roundw
          case measure => simp [intOf]; omega
          case rel => exact ⟨k + 1, hkn, rfl, Lib.hid (by rw [HTT.out.1]; exact hsame), HW3⟩
      · have hke : k = l.length := by omega
        have hr : res = true := by
          rw [HR.out]
          have h1 := HT.out
          rw [hke, List.take_length, HE.out, List.take_length] at h1
          exact h1
        go_wp2
        go_ret
        rw [hr]
        exact ⟨rfl, HW.out⟩
  · have hle1 : ((l.length : Int) != (l'.length : Int)) = true := by rw [bne_iff_ne]; omega
    have hr : res = false := by rw [HR.out]; exact Vs.sameL_len _ _ hle
    rw [hr]
    clear hle
    go_enter Tryd.func51, Tryd.ntmps51
    go_wp2
    go_ret
    exact ⟨rfl, Below.refl _ _⟩
end Go.Proofs.YtbgfiflnfndckaaDoor
