/- The walk of ValueOrder. No conditions but the kinds' own. -/
import Derived.Test.YtbgfiflnfndckaaDoorVn
import Derived.Test.YtbgfiflnfndckaaDoorOv
set_option linter.unusedVariables false
set_option linter.unusedSimpArgs false
namespace Go.Proofs.YtbgfiflnfndckaaDoor
open Go.RowKit Go.Proofs.YtbgfiflnfndckaaDoorW.PrintWords

namespace Vs
/-- What a value is held by: a text, a number, nothing. -/
inductive Ky where
  | none
  | t (s : List UInt8)
  | n (v : Int)
def ky (x : Sc) : Ky := if x.k = 1 then .t x.s.toList else if x.k = 3 then .n (x.n * p2 1074) else if x.k = 4 ∧ isNan x.f = false then .n (num x.f) else .none
def kc : Ky → Ky → Int × Bool
  | .t a, .t b => (ss a b, true)
  | .n a, .n b => (sg a b, true)
  | _, _ => (0, false)
theorem compare_ky (x y : Sc) : compare x y = kc (ky x) (ky y) := by
  unfold compare
  split
  · rename_i h
    rcases h with ⟨h1, h2⟩ | ⟨h1, h2⟩
    · have : ky x = .none := by unfold ky; simp [h1, h2]
      rw [this]; rfl
    · have : ky y = .none := by unfold ky; simp [h1, h2]
      rw [this]; cases ky x <;> rfl
  rename_i h0
  split
  · rename_i h
    have h1 : ky x = .t x.s.toList := by unfold ky; rw [if_pos h.1]
    have h2 : ky y = .t y.s.toList := by unfold ky; rw [if_pos h.2]
    rw [h1, h2]; rfl
  split
  · rename_i h
    have h1 : ky x = .n (x.n * p2 1074) := by unfold ky; simp [h.1]
    have h2 : ky y = .n (y.n * p2 1074) := by unfold ky; simp [h.2]
    rw [h1, h2]
    simp only [kc]
    rw [sg_mul (p2_pos _)]
  split
  · rename_i h
    have n1 : isNan x.f = false := by cases hh : isNan x.f; · rfl
                                      · exact absurd (.inl ⟨h.1, hh⟩) h0
    have n2 : isNan y.f = false := by cases hh : isNan y.f; · rfl
                                      · exact absurd (.inr ⟨h.2, hh⟩) h0
    have h1 : ky x = .n (num x.f) := by unfold ky; simp [h.1, n1]
    have h2 : ky y = .n (num y.f) := by unfold ky; simp [h.2, n2]
    rw [h1, h2]; rfl
  split
  · rename_i h
    have n2 : isNan y.f = false := by cases hh : isNan y.f; · rfl
                                      · exact absurd (.inr ⟨h.2, hh⟩) h0
    have h1 : ky x = .n (x.n * p2 1074) := by unfold ky; simp [h.1]
    have h2 : ky y = .n (num y.f) := by unfold ky; simp [h.2, n2]
    rw [h1, h2]; rfl
  split
  · rename_i h
    have n1 : isNan x.f = false := by cases hh : isNan x.f; · rfl
                                      · exact absurd (.inl ⟨h.1, hh⟩) h0
    have h1 : ky x = .n (num x.f) := by unfold ky; simp [h.1, n1]
    have h2 : ky y = .n (y.n * p2 1074) := by unfold ky; simp [h.2]
    rw [h1, h2]
    simp only [kc]
    rw [← sg_neg]
  · rename_i h1 h2 h3 h4 h5
    unfold ky
    by_cases a1 : x.k = 1
    · have b1 : y.k ≠ 1 := fun b => h1 ⟨a1, b⟩
      rw [if_pos a1, if_neg b1]
      by_cases b3 : y.k = 3
      · rw [if_pos b3]; rfl
      · rw [if_neg b3]; split <;> rfl
    · rw [if_neg a1]
      by_cases a3 : x.k = 3
      · have b3 : y.k ≠ 3 := fun b => h2 ⟨a3, b⟩
        have b4 : y.k ≠ 4 := fun b => h4 ⟨a3, b⟩
        have c4 : ¬ (y.k = 4 ∧ isNan y.f = false) := fun h => b4 h.1
        rw [if_pos a3, if_neg b3, if_neg c4]
        split <;> rfl
      · rw [if_neg a3]
        by_cases a4 : x.k = 4
        · have b3 : y.k ≠ 3 := fun b => h5 ⟨a4, b⟩
          have b4 : y.k ≠ 4 := fun b => h3 ⟨a4, b⟩
          have c4 : ¬ (y.k = 4 ∧ isNan y.f = false) := fun h => b4 h.1
          rw [if_neg b3, if_neg c4]
          by_cases b1 : y.k = 1
          · rw [if_pos b1]; split <;> rfl
          · rw [if_neg b1]; split <;> rfl
        · have c4 : ¬ (x.k = 4 ∧ isNan x.f = false) := fun h => a4 h.1
          rw [if_neg c4]
          rfl
theorem kc_flip (a b : Ky) : kc b a = (-(kc a b).1, (kc a b).2) := by
  cases a <;> cases b <;> simp [kc]
  · exact ss_neg _ _
  · exact sg_neg _ _
theorem kc_self (a : Ky) : (kc a a).1 = 0 ∧ ((kc a a).2 = match a with | .none => false | _ => true) := by
  cases a <;> simp [kc]
  · exact ss_self _
  · exact sg_self _
theorem kc_range (a b : Ky) : -1 ≤ (kc a b).1 ∧ (kc a b).1 ≤ 1 := by
  cases a <;> cases b <;> simp [kc]
  · rename_i x y
    rcases ss_cases x y with ⟨h, _⟩ | ⟨h, _⟩ | ⟨h, _⟩ <;> rw [h] <;> decide
  · exact sg_range _ _
theorem sg_le {a b : Int} : sg a b ≤ 0 ↔ a ≤ b := by unfold sg; split; · omega
                                                     · split <;> omega
theorem sg_lt {a b : Int} : sg a b < 0 ↔ a < b := by unfold sg; split; · omega
                                                     · split <;> omega
theorem sg_zero {a b : Int} : sg a b = 0 ↔ a = b := by unfold sg; split; · omega
                                                       · split <;> omega
theorem kc_trans (a b c : Ky) (h1 : (kc a b).2 = true) (h2 : (kc b c).2 = true) (h3 : (kc a b).1 ≤ 0) (h4 : (kc b c).1 ≤ 0) :
    (kc a c).2 = true ∧ (kc a c).1 ≤ 0 ∧ ((kc a c).1 < 0 ∨ (kc a b).1 = 0 ∧ (kc b c).1 = 0) := by
  cases a <;> cases b <;> simp [kc] at h1 <;> cases c <;> simp [kc] at h2
  · rename_i x y z
    simp only [kc] at *
    refine ⟨trivial, ?_⟩
    rcases ss_cases x y with ⟨e1, l1⟩ | ⟨e1, l1⟩ | ⟨e1, l1⟩
    · rcases ss_cases y z with ⟨e2, l2⟩ | ⟨e2, l2⟩ | ⟨e2, l2⟩
      · have := less_trans x y z l1 l2
        have e3 : ss x z = -1 := by unfold ss; rw [if_pos this]
        rw [e3]; exact ⟨by decide, .inl (by decide)⟩
      · omega
      · subst l2; rw [e1]; exact ⟨by decide, .inl (by decide)⟩
    · omega
    · subst l1
      rcases ss_cases x z with ⟨e2, l2⟩ | ⟨e2, l2⟩ | ⟨e2, l2⟩
      · rw [e2]; exact ⟨by decide, .inl (by decide)⟩
      · omega
      · rw [e2, e1]; exact ⟨by decide, .inr ⟨rfl, rfl⟩⟩
  · rename_i x y z
    simp only [kc] at *
    rw [sg_le] at h3 h4
    refine ⟨trivial, sg_le.2 (by omega), ?_⟩
    by_cases h : x < z
    · exact .inl (sg_lt.2 h)
    · exact .inr ⟨sg_zero.2 (by omega), sg_zero.2 (by omega)⟩
end Vs

-- THE WALK
/-- What is left to be told, way by way. -/
def OrderEnds (x v w : Int) (ab bc ac : Bool) : Prop :=
  ab = false ∨ (ab = true ∧ bc = false) ∨ (ab = true ∧ bc = true ∧ 0 < x) ∨ (ab = true ∧ bc = true ∧ ¬ 0 < x ∧ 0 < v) ∨
    (ab = true ∧ bc = true ∧ ¬ 0 < x ∧ ¬ 0 < v ∧ ac = true ∧ w ≤ 0 ∧ w < 0) ∨ (ab = true ∧ bc = true ∧ ac = true ∧ w = 0 ∧ x = 0 ∧ v = 0)
theorem order_ends (a b c : Vs.Sc) : OrderEnds (Vs.compare a b).1 (Vs.compare b c).1 (Vs.compare a c).1 (Vs.compare a b).2 (Vs.compare b c).2 (Vs.compare a c).2 := by
  simp only [Vs.compare_ky]
  have ht := Vs.kc_trans (Vs.ky a) (Vs.ky b) (Vs.ky c)
  unfold OrderEnds
  generalize Vs.kc (Vs.ky a) (Vs.ky b) = r at *
  generalize Vs.kc (Vs.ky b) (Vs.ky c) = s at *
  generalize Vs.kc (Vs.ky a) (Vs.ky c) = u at *
  obtain ⟨x, ab⟩ := r
  obtain ⟨v, bc⟩ := s
  obtain ⟨w, ac⟩ := u
  simp only at *
  cases ab
  · exact .inl rfl
  cases bc
  · exact .inr (.inl ⟨rfl, rfl⟩)
  by_cases h1 : 0 < x
  · exact .inr (.inr (.inl ⟨rfl, rfl, h1⟩))
  by_cases h2 : 0 < v
  · exact .inr (.inr (.inr (.inl ⟨rfl, rfl, h1, h2⟩)))
  obtain ⟨h3, h4, h5⟩ := ht rfl rfl (by omega) (by omega)
  by_cases h6 : w < 0
  · exact .inr (.inr (.inr (.inr (.inl ⟨rfl, rfl, h1, h2, h3, h4, h6⟩))))
  · obtain ⟨h7, h8⟩ := h5.resolve_left h6
    exact .inr (.inr (.inr (.inr (.inr ⟨rfl, rfl, h3, by omega, h7, h8⟩))))

/-- Three boxes. -/
def Boxes (N : Nat) (x y z : Vs.Sc) (l m l' m' l'' m'' : Value) (W : World) : Prop := W.heap[N]? = some (boxV x l m) ∧ W.heap[N + 1]? = some (boxV y l' m') ∧ W.heap[N + 2]? = some (boxV z l'' m'')
theorem Boxes.below {N : Nat} {x y z : Vs.Sc} {l m l' m' l'' m'' : Value} {W W' : World} (h : Boxes N x y z l m l' m' l'' m'' W) (hb : Below W.heap.size W W') : Boxes N x y z l m l' m' l'' m'' W' :=
  ⟨blk_below h.1 hb, blk_below h.2.1 hb, blk_below h.2.2 hb⟩
theorem three_below (w : World) (a b c : Obj) : Below w.heap.size w (((w.alloc a).alloc b).alloc c) := (((Below.refl w.heap.size w).alloc (Nat.le_refl _) _).alloc (by simp) _).alloc (by simp; omega) _
theorem three_size (w : World) (a b c : Obj) : w.heap.size ≤ (((w.alloc a).alloc b).alloc c).heap.size := by simp; omega
theorem three_boxes (w : World) (x y z : Vs.Sc) (l m l' m' l'' m'' : Value) : Boxes w.heap.size x y z l m l' m' l'' m'' (((w.alloc (boxV x l m)).alloc (boxV y l' m')).alloc (boxV z l'' m'')) := by
  refine ⟨blk_alloc (blk_alloc (blk_new _ _) _) _, ?_, ?_⟩
  · have := blk_alloc (blk_new (w.alloc (boxV x l m)) (boxV y l' m')) (boxV z l'' m'')
    simpa using this
  · have := blk_new ((w.alloc (boxV x l m)).alloc (boxV y l' m')) (boxV z l'' m'')
    simpa using this

set_option maxHeartbeats 8000000 in
set_option maxRecDepth 100000 in
theorem order_calls (a b c : Vs.Sc) (l m l' m' l'' m'' : Value) (w : World) (ha : FitsS a) (hb : FitsS b) (hc : FitsS c) :
    Calls Tryd.prog 3 #[.agg (cellsV a l m), .agg (cellsV b l' m'), .agg (cellsV c l'' m'')] w fun e w' => e = .returned (.bool true) ∧ Below w.heap.size w w' := by
  have hends := order_ends a b c
  have hflip : Vs.compare b a = (-(Vs.compare a b).1, (Vs.compare a b).2) := by rw [Vs.compare_ky, Vs.compare_ky]; exact Vs.kc_flip _ _
  have hrng : -1 ≤ (Vs.compare a b).1 ∧ (Vs.compare a b).1 ≤ 1 := by rw [Vs.compare_ky]; exact Vs.kc_range _ _
  have hself : (Vs.compare a a).1 = 0 ∧ ((Vs.compare a a).2 = match Vs.ky a with | .none => false | _ => true) := by rw [Vs.compare_ky]; exact Vs.kc_self _
  have cab := fun w => compare_calls a b l m l' m' w ha.lo ha.hi hb.lo hb.hi
  have cba := fun w => compare_calls b a l' m' l m w hb.lo hb.hi ha.lo ha.hi
  have caa := fun w => compare_calls a a l m l m w ha.lo ha.hi ha.lo ha.hi
  have cbc := fun w => compare_calls b c l' m' l'' m'' w hb.lo hb.hi hc.lo hc.hi
  have cac := fun w => compare_calls a c l m l'' m'' w ha.lo ha.hi hc.lo hc.hi
  rw [hflip] at cba
  rw [hself.1] at caa
  obtain ⟨aa, haa⟩ : ∃ aa, (Vs.compare a a).2 = aa := ⟨_, rfl⟩
  rw [haa] at caa hself
  generalize Vs.compare a b = r at *
  generalize Vs.compare b c = s at *
  generalize Vs.compare a c = u at *
  clear haa hflip ha hb hc
  obtain ⟨x, ab⟩ := r
  obtain ⟨v, bc⟩ := s
  obtain ⟨z, ac⟩ := u
  simp only at *
  have hw1 : Go.RowKit.wrap64 x = x := by unfold Go.RowKit.wrap64; omega
  have HE := Lib.hid hends
  have CAB := Lib.hid cab
  have CBA := Lib.hid cba
  have CAA := Lib.hid caa
  have CBC := Lib.hid cbc
  have CAC := Lib.hid cac
  have hs2 := hself.2
  clear hends cab cba caa cbc cac hself hrng
  obtain ⟨k, s, b0, n, f⟩ := a
  have kinds : k = 1 ∨ k = 3 ∨ k = 4 ∨ ((((k : Int) == 1) = false ∧ ((k : Int) == 3) = false ∧ ((k : Int) == 4) = false) ∧ k ≠ 1 ∧ k ≠ 3 ∧ k ≠ 4) := by
    by_cases h1 : k = 1; · exact .inl h1
    by_cases h2 : k = 3; · exact .inr (.inl h2)
    by_cases h3 : k = 4; · exact .inr (.inr (.inl h3))
    refine .inr (.inr (.inr ⟨⟨?_, ?_, ?_⟩, h1, h2, h3⟩)) <;> (rw [beq_eq_false_iff_ne]; omega)
  obtain ⟨y1, y2, y3, y4, y5⟩ := b
  obtain ⟨z1, z2, z3, z4, z5⟩ := c
  unfold cellsV at *
  rcases kinds with rfl | rfl | rfl | ⟨⟨q1, q2, q3⟩, g1, g2, g3⟩

  · simp [Vs.ky] at hs2
    subst hs2
    go_enter Tryd.func3, Tryd.ntmps3
    go_wp2_with fail
    refine (vlives_calls _).mono ?_
    rintro e w1 ⟨rfl, hb1⟩
    have HB1 := Lib.hid ((three_below w _ _ _).trans (hb1.mono (three_size w _ _ _)))
    have BX1 := Lib.hid (Boxes.below (three_boxes w ⟨1, s, b0, n, f⟩ ⟨y1, y2, y3, y4, y5⟩ ⟨z1, z2, z3, z4, z5⟩ l m l' m' l'' m'') hb1)
    clear hb1
    obtain ⟨c0, c1, c2, c3, c4, c5, c6⟩ := box_cells BX1.out.1
    obtain ⟨d0, d1, d2, d3, d4, d5, d6⟩ := box_cells BX1.out.2.1
    go_wp2_with fail
    refine (CAB.out _).mono ?_
    rintro e w2 ⟨rfl, hb⟩
    have BX2 := Lib.hid (Boxes.below BX1.out hb)
    have HB2 := Lib.hid (HB1.out.trans (hb.mono HB1.out.size))
    clear hb BX1 HB1 c0 c1 c2 c3 c4 c5 c6 d0 d1 d2 d3 d4 d5 d6
    obtain ⟨c0, c1, c2, c3, c4, c5, c6⟩ := box_cells BX2.out.2.1
    obtain ⟨d0, d1, d2, d3, d4, d5, d6⟩ := box_cells BX2.out.1
    go_wp2_with fail
    refine (CBA.out _).mono ?_
    rintro e w3 ⟨rfl, hb⟩
    have BX3 := Lib.hid (Boxes.below BX2.out hb)
    have HB3 := Lib.hid (HB2.out.trans (hb.mono HB2.out.size))
    clear hb BX2 HB2 c0 c1 c2 c3 c4 c5 c6 d0 d1 d2 d3 d4 d5 d6
    obtain ⟨c0, c1, c2, c3, c4, c5, c6⟩ := box_cells BX3.out.1
    go_wp2_with fail
    refine (CAA.out _).mono ?_
    rintro e w4 ⟨rfl, hb⟩
    have BX4 := Lib.hid (Boxes.below BX3.out hb)
    have HB4 := Lib.hid (HB3.out.trans (hb.mono HB3.out.size))
    clear hb BX3 HB3 c0 c1 c2 c3 c4 c5 c6
    obtain ⟨c0, c1, c2, c3, c4, c5, c6⟩ := box_cells BX4.out.1
    obtain ⟨d0, d1, d2, d3, d4, d5, d6⟩ := box_cells BX4.out.2.1
    obtain ⟨e0, e1, e2, e3, e4, e5, e6⟩ := box_cells BX4.out.2.2
    go_wp2_with fail
    refine (CBC.out _).mono ?_
    rintro e w5 ⟨rfl, hb⟩
    have BX5 := Lib.hid (Boxes.below BX4.out hb)
    have HB5 := Lib.hid (HB4.out.trans (hb.mono HB4.out.size))
    clear hb BX4 HB4 c0 c1 c2 c3 c4 c5 c6 d0 d1 d2 d3 d4 d5 d6 e0 e1 e2 e3 e4 e5 e6
    obtain ⟨c0, c1, c2, c3, c4, c5, c6⟩ := box_cells BX5.out.1
    obtain ⟨d0, d1, d2, d3, d4, d5, d6⟩ := box_cells BX5.out.2.2
    go_wp2_with fail
    refine (CAC.out _).mono ?_
    rintro e w6 ⟨rfl, hb⟩
    have BX6 := Lib.hid (Boxes.below BX5.out hb)
    have HB6 := Lib.hid (HB5.out.trans (hb.mono HB5.out.size))
    clear hb BX5 HB5 c0 c1 c2 c3 c4 c5 c6 d0 d1 d2 d3 d4 d5 d6
    rcases HE.out with rfl | ⟨rfl, rfl⟩ | ⟨rfl, rfl, h1⟩ | ⟨rfl, rfl, h1, h2⟩ | ⟨rfl, rfl, h1, h2, rfl, h4, h5⟩ | ⟨rfl, rfl, rfl, rfl, rfl, rfl⟩
    · go_wp2
      go_ret
      exact ⟨rfl, HB6.out⟩
    · go_wp2
      go_ret
      exact ⟨rfl, HB6.out⟩
    · go_wp2
      go_ret
      exact ⟨rfl, HB6.out⟩
    · go_wp2
      go_ret
      exact ⟨rfl, HB6.out⟩
    · go_wp2
      go_ret
      exact ⟨rfl, HB6.out⟩
    · go_wp2
      go_ret
      exact ⟨rfl, HB6.out⟩
  · simp [Vs.ky] at hs2
    subst hs2
    go_enter Tryd.func3, Tryd.ntmps3
    go_wp2_with fail
    refine (vlives_calls _).mono ?_
    rintro e w1 ⟨rfl, hb1⟩
    have HB1 := Lib.hid ((three_below w _ _ _).trans (hb1.mono (three_size w _ _ _)))
    have BX1 := Lib.hid (Boxes.below (three_boxes w ⟨3, s, b0, n, f⟩ ⟨y1, y2, y3, y4, y5⟩ ⟨z1, z2, z3, z4, z5⟩ l m l' m' l'' m'') hb1)
    clear hb1
    obtain ⟨c0, c1, c2, c3, c4, c5, c6⟩ := box_cells BX1.out.1
    obtain ⟨d0, d1, d2, d3, d4, d5, d6⟩ := box_cells BX1.out.2.1
    go_wp2_with fail
    refine (CAB.out _).mono ?_
    rintro e w2 ⟨rfl, hb⟩
    have BX2 := Lib.hid (Boxes.below BX1.out hb)
    have HB2 := Lib.hid (HB1.out.trans (hb.mono HB1.out.size))
    clear hb BX1 HB1 c0 c1 c2 c3 c4 c5 c6 d0 d1 d2 d3 d4 d5 d6
    obtain ⟨c0, c1, c2, c3, c4, c5, c6⟩ := box_cells BX2.out.2.1
    obtain ⟨d0, d1, d2, d3, d4, d5, d6⟩ := box_cells BX2.out.1
    go_wp2_with fail
    refine (CBA.out _).mono ?_
    rintro e w3 ⟨rfl, hb⟩
    have BX3 := Lib.hid (Boxes.below BX2.out hb)
    have HB3 := Lib.hid (HB2.out.trans (hb.mono HB2.out.size))
    clear hb BX2 HB2 c0 c1 c2 c3 c4 c5 c6 d0 d1 d2 d3 d4 d5 d6
    obtain ⟨c0, c1, c2, c3, c4, c5, c6⟩ := box_cells BX3.out.1
    go_wp2_with fail
    refine (CAA.out _).mono ?_
    rintro e w4 ⟨rfl, hb⟩
    have BX4 := Lib.hid (Boxes.below BX3.out hb)
    have HB4 := Lib.hid (HB3.out.trans (hb.mono HB3.out.size))
    clear hb BX3 HB3 c0 c1 c2 c3 c4 c5 c6
    obtain ⟨c0, c1, c2, c3, c4, c5, c6⟩ := box_cells BX4.out.1
    obtain ⟨d0, d1, d2, d3, d4, d5, d6⟩ := box_cells BX4.out.2.1
    obtain ⟨e0, e1, e2, e3, e4, e5, e6⟩ := box_cells BX4.out.2.2
    go_wp2_with fail
    refine (CBC.out _).mono ?_
    rintro e w5 ⟨rfl, hb⟩
    have BX5 := Lib.hid (Boxes.below BX4.out hb)
    have HB5 := Lib.hid (HB4.out.trans (hb.mono HB4.out.size))
    clear hb BX4 HB4 c0 c1 c2 c3 c4 c5 c6 d0 d1 d2 d3 d4 d5 d6 e0 e1 e2 e3 e4 e5 e6
    obtain ⟨c0, c1, c2, c3, c4, c5, c6⟩ := box_cells BX5.out.1
    obtain ⟨d0, d1, d2, d3, d4, d5, d6⟩ := box_cells BX5.out.2.2
    go_wp2_with fail
    refine (CAC.out _).mono ?_
    rintro e w6 ⟨rfl, hb⟩
    have BX6 := Lib.hid (Boxes.below BX5.out hb)
    have HB6 := Lib.hid (HB5.out.trans (hb.mono HB5.out.size))
    clear hb BX5 HB5 c0 c1 c2 c3 c4 c5 c6 d0 d1 d2 d3 d4 d5 d6
    rcases HE.out with rfl | ⟨rfl, rfl⟩ | ⟨rfl, rfl, h1⟩ | ⟨rfl, rfl, h1, h2⟩ | ⟨rfl, rfl, h1, h2, rfl, h4, h5⟩ | ⟨rfl, rfl, rfl, rfl, rfl, rfl⟩
    · go_wp2
      go_ret
      exact ⟨rfl, HB6.out⟩
    · go_wp2
      go_ret
      exact ⟨rfl, HB6.out⟩
    · go_wp2
      go_ret
      exact ⟨rfl, HB6.out⟩
    · go_wp2
      go_ret
      exact ⟨rfl, HB6.out⟩
    · go_wp2
      go_ret
      exact ⟨rfl, HB6.out⟩
    · go_wp2
      go_ret
      exact ⟨rfl, HB6.out⟩
  · cases nf : Vs.isNan f
    · have hse : (FloatKind.f64.format.order f f == some .eq) = true := (Vs.eq_iff nf nf).trans (decide_eq_true rfl)
      simp [Vs.ky, nf] at hs2
      subst hs2
      go_enter Tryd.func3, Tryd.ntmps3
      go_wp2_with fail
      refine (vlives_calls _).mono ?_
      rintro e w1 ⟨rfl, hb1⟩
      have HB1 := Lib.hid ((three_below w _ _ _).trans (hb1.mono (three_size w _ _ _)))
      have BX1 := Lib.hid (Boxes.below (three_boxes w ⟨4, s, b0, n, f⟩ ⟨y1, y2, y3, y4, y5⟩ ⟨z1, z2, z3, z4, z5⟩ l m l' m' l'' m'') hb1)
      clear hb1
      obtain ⟨c0, c1, c2, c3, c4, c5, c6⟩ := box_cells BX1.out.1
      obtain ⟨d0, d1, d2, d3, d4, d5, d6⟩ := box_cells BX1.out.2.1
      go_wp2_with fail
      refine (CAB.out _).mono ?_
      rintro e w2 ⟨rfl, hb⟩
      have BX2 := Lib.hid (Boxes.below BX1.out hb)
      have HB2 := Lib.hid (HB1.out.trans (hb.mono HB1.out.size))
      clear hb BX1 HB1 c0 c1 c2 c3 c4 c5 c6 d0 d1 d2 d3 d4 d5 d6
      obtain ⟨c0, c1, c2, c3, c4, c5, c6⟩ := box_cells BX2.out.2.1
      obtain ⟨d0, d1, d2, d3, d4, d5, d6⟩ := box_cells BX2.out.1
      go_wp2_with fail
      refine (CBA.out _).mono ?_
      rintro e w3 ⟨rfl, hb⟩
      have BX3 := Lib.hid (Boxes.below BX2.out hb)
      have HB3 := Lib.hid (HB2.out.trans (hb.mono HB2.out.size))
      clear hb BX2 HB2 c0 c1 c2 c3 c4 c5 c6 d0 d1 d2 d3 d4 d5 d6
      obtain ⟨c0, c1, c2, c3, c4, c5, c6⟩ := box_cells BX3.out.1
      go_wp2_with fail
      refine (CAA.out _).mono ?_
      rintro e w4 ⟨rfl, hb⟩
      have BX4 := Lib.hid (Boxes.below BX3.out hb)
      have HB4 := Lib.hid (HB3.out.trans (hb.mono HB3.out.size))
      clear hb BX3 HB3 c0 c1 c2 c3 c4 c5 c6
      obtain ⟨c0, c1, c2, c3, c4, c5, c6⟩ := box_cells BX4.out.1
      obtain ⟨d0, d1, d2, d3, d4, d5, d6⟩ := box_cells BX4.out.2.1
      obtain ⟨e0, e1, e2, e3, e4, e5, e6⟩ := box_cells BX4.out.2.2
      go_wp2_with fail
      refine (CBC.out _).mono ?_
      rintro e w5 ⟨rfl, hb⟩
      have BX5 := Lib.hid (Boxes.below BX4.out hb)
      have HB5 := Lib.hid (HB4.out.trans (hb.mono HB4.out.size))
      clear hb BX4 HB4 c0 c1 c2 c3 c4 c5 c6 d0 d1 d2 d3 d4 d5 d6 e0 e1 e2 e3 e4 e5 e6
      obtain ⟨c0, c1, c2, c3, c4, c5, c6⟩ := box_cells BX5.out.1
      obtain ⟨d0, d1, d2, d3, d4, d5, d6⟩ := box_cells BX5.out.2.2
      go_wp2_with fail
      refine (CAC.out _).mono ?_
      rintro e w6 ⟨rfl, hb⟩
      have BX6 := Lib.hid (Boxes.below BX5.out hb)
      have HB6 := Lib.hid (HB5.out.trans (hb.mono HB5.out.size))
      clear hb BX5 HB5 c0 c1 c2 c3 c4 c5 c6 d0 d1 d2 d3 d4 d5 d6
      rcases HE.out with rfl | ⟨rfl, rfl⟩ | ⟨rfl, rfl, h1⟩ | ⟨rfl, rfl, h1, h2⟩ | ⟨rfl, rfl, h1, h2, rfl, h4, h5⟩ | ⟨rfl, rfl, rfl, rfl, rfl, rfl⟩
      · go_wp2
        go_ret
        exact ⟨rfl, HB6.out⟩
      · go_wp2
        go_ret
        exact ⟨rfl, HB6.out⟩
      · go_wp2
        go_ret
        exact ⟨rfl, HB6.out⟩
      · go_wp2
        go_ret
        exact ⟨rfl, HB6.out⟩
      · go_wp2
        go_ret
        exact ⟨rfl, HB6.out⟩
      · go_wp2
        go_ret
        exact ⟨rfl, HB6.out⟩
    · have hse : (FloatKind.f64.format.order f f == some .eq) = false := by rw [show FloatKind.f64.format.order f f = none from Vs.order_nan (.inl nf)]; rfl
      simp [Vs.ky, nf] at hs2
      subst hs2
      go_enter Tryd.func3, Tryd.ntmps3
      go_wp2_with fail
      refine (vlives_calls _).mono ?_
      rintro e w1 ⟨rfl, hb1⟩
      have HB1 := Lib.hid ((three_below w _ _ _).trans (hb1.mono (three_size w _ _ _)))
      have BX1 := Lib.hid (Boxes.below (three_boxes w ⟨4, s, b0, n, f⟩ ⟨y1, y2, y3, y4, y5⟩ ⟨z1, z2, z3, z4, z5⟩ l m l' m' l'' m'') hb1)
      clear hb1
      obtain ⟨c0, c1, c2, c3, c4, c5, c6⟩ := box_cells BX1.out.1
      obtain ⟨d0, d1, d2, d3, d4, d5, d6⟩ := box_cells BX1.out.2.1
      go_wp2_with fail
      refine (CAB.out _).mono ?_
      rintro e w2 ⟨rfl, hb⟩
      have BX2 := Lib.hid (Boxes.below BX1.out hb)
      have HB2 := Lib.hid (HB1.out.trans (hb.mono HB1.out.size))
      clear hb BX1 HB1 c0 c1 c2 c3 c4 c5 c6 d0 d1 d2 d3 d4 d5 d6
      obtain ⟨c0, c1, c2, c3, c4, c5, c6⟩ := box_cells BX2.out.2.1
      obtain ⟨d0, d1, d2, d3, d4, d5, d6⟩ := box_cells BX2.out.1
      go_wp2_with fail
      refine (CBA.out _).mono ?_
      rintro e w3 ⟨rfl, hb⟩
      have BX3 := Lib.hid (Boxes.below BX2.out hb)
      have HB3 := Lib.hid (HB2.out.trans (hb.mono HB2.out.size))
      clear hb BX2 HB2 c0 c1 c2 c3 c4 c5 c6 d0 d1 d2 d3 d4 d5 d6
      obtain ⟨c0, c1, c2, c3, c4, c5, c6⟩ := box_cells BX3.out.1
      go_wp2_with fail
      refine (CAA.out _).mono ?_
      rintro e w4 ⟨rfl, hb⟩
      have BX4 := Lib.hid (Boxes.below BX3.out hb)
      have HB4 := Lib.hid (HB3.out.trans (hb.mono HB3.out.size))
      clear hb BX3 HB3 c0 c1 c2 c3 c4 c5 c6
      obtain ⟨c0, c1, c2, c3, c4, c5, c6⟩ := box_cells BX4.out.1
      obtain ⟨d0, d1, d2, d3, d4, d5, d6⟩ := box_cells BX4.out.2.1
      obtain ⟨e0, e1, e2, e3, e4, e5, e6⟩ := box_cells BX4.out.2.2
      go_wp2_with fail
      refine (CBC.out _).mono ?_
      rintro e w5 ⟨rfl, hb⟩
      have BX5 := Lib.hid (Boxes.below BX4.out hb)
      have HB5 := Lib.hid (HB4.out.trans (hb.mono HB4.out.size))
      clear hb BX4 HB4 c0 c1 c2 c3 c4 c5 c6 d0 d1 d2 d3 d4 d5 d6 e0 e1 e2 e3 e4 e5 e6
      obtain ⟨c0, c1, c2, c3, c4, c5, c6⟩ := box_cells BX5.out.1
      obtain ⟨d0, d1, d2, d3, d4, d5, d6⟩ := box_cells BX5.out.2.2
      go_wp2_with fail
      refine (CAC.out _).mono ?_
      rintro e w6 ⟨rfl, hb⟩
      have BX6 := Lib.hid (Boxes.below BX5.out hb)
      have HB6 := Lib.hid (HB5.out.trans (hb.mono HB5.out.size))
      clear hb BX5 HB5 c0 c1 c2 c3 c4 c5 c6 d0 d1 d2 d3 d4 d5 d6
      rcases HE.out with rfl | ⟨rfl, rfl⟩ | ⟨rfl, rfl, h1⟩ | ⟨rfl, rfl, h1, h2⟩ | ⟨rfl, rfl, h1, h2, rfl, h4, h5⟩ | ⟨rfl, rfl, rfl, rfl, rfl, rfl⟩
      · go_wp2
        go_ret
        exact ⟨rfl, HB6.out⟩
      · go_wp2
        go_ret
        exact ⟨rfl, HB6.out⟩
      · go_wp2
        go_ret
        exact ⟨rfl, HB6.out⟩
      · go_wp2
        go_ret
        exact ⟨rfl, HB6.out⟩
      · go_wp2
        go_ret
        exact ⟨rfl, HB6.out⟩
      · go_wp2
        go_ret
        exact ⟨rfl, HB6.out⟩
  · simp [Vs.ky, g1, g2, g3] at hs2
    subst hs2
    go_enter Tryd.func3, Tryd.ntmps3
    go_wp2_with fail
    refine (vlives_calls _).mono ?_
    rintro e w1 ⟨rfl, hb1⟩
    have HB1 := Lib.hid ((three_below w _ _ _).trans (hb1.mono (three_size w _ _ _)))
    have BX1 := Lib.hid (Boxes.below (three_boxes w ⟨k, s, b0, n, f⟩ ⟨y1, y2, y3, y4, y5⟩ ⟨z1, z2, z3, z4, z5⟩ l m l' m' l'' m'') hb1)
    clear hb1
    obtain ⟨c0, c1, c2, c3, c4, c5, c6⟩ := box_cells BX1.out.1
    obtain ⟨d0, d1, d2, d3, d4, d5, d6⟩ := box_cells BX1.out.2.1
    go_wp2_with fail
    refine (CAB.out _).mono ?_
    rintro e w2 ⟨rfl, hb⟩
    have BX2 := Lib.hid (Boxes.below BX1.out hb)
    have HB2 := Lib.hid (HB1.out.trans (hb.mono HB1.out.size))
    clear hb BX1 HB1 c0 c1 c2 c3 c4 c5 c6 d0 d1 d2 d3 d4 d5 d6
    obtain ⟨c0, c1, c2, c3, c4, c5, c6⟩ := box_cells BX2.out.2.1
    obtain ⟨d0, d1, d2, d3, d4, d5, d6⟩ := box_cells BX2.out.1
    go_wp2_with fail
    refine (CBA.out _).mono ?_
    rintro e w3 ⟨rfl, hb⟩
    have BX3 := Lib.hid (Boxes.below BX2.out hb)
    have HB3 := Lib.hid (HB2.out.trans (hb.mono HB2.out.size))
    clear hb BX2 HB2 c0 c1 c2 c3 c4 c5 c6 d0 d1 d2 d3 d4 d5 d6
    obtain ⟨c0, c1, c2, c3, c4, c5, c6⟩ := box_cells BX3.out.1
    go_wp2_with fail
    refine (CAA.out _).mono ?_
    rintro e w4 ⟨rfl, hb⟩
    have BX4 := Lib.hid (Boxes.below BX3.out hb)
    have HB4 := Lib.hid (HB3.out.trans (hb.mono HB3.out.size))
    clear hb BX3 HB3 c0 c1 c2 c3 c4 c5 c6
    obtain ⟨c0, c1, c2, c3, c4, c5, c6⟩ := box_cells BX4.out.1
    obtain ⟨d0, d1, d2, d3, d4, d5, d6⟩ := box_cells BX4.out.2.1
    obtain ⟨e0, e1, e2, e3, e4, e5, e6⟩ := box_cells BX4.out.2.2
    go_wp2_with fail
    refine (CBC.out _).mono ?_
    rintro e w5 ⟨rfl, hb⟩
    have BX5 := Lib.hid (Boxes.below BX4.out hb)
    have HB5 := Lib.hid (HB4.out.trans (hb.mono HB4.out.size))
    clear hb BX4 HB4 c0 c1 c2 c3 c4 c5 c6 d0 d1 d2 d3 d4 d5 d6 e0 e1 e2 e3 e4 e5 e6
    obtain ⟨c0, c1, c2, c3, c4, c5, c6⟩ := box_cells BX5.out.1
    obtain ⟨d0, d1, d2, d3, d4, d5, d6⟩ := box_cells BX5.out.2.2
    go_wp2_with fail
    refine (CAC.out _).mono ?_
    rintro e w6 ⟨rfl, hb⟩
    have BX6 := Lib.hid (Boxes.below BX5.out hb)
    have HB6 := Lib.hid (HB5.out.trans (hb.mono HB5.out.size))
    clear hb BX5 HB5 c0 c1 c2 c3 c4 c5 c6 d0 d1 d2 d3 d4 d5 d6
    rcases HE.out with rfl | ⟨rfl, rfl⟩ | ⟨rfl, rfl, h1⟩ | ⟨rfl, rfl, h1, h2⟩ | ⟨rfl, rfl, h1, h2, rfl, h4, h5⟩ | ⟨rfl, rfl, rfl, rfl, rfl, rfl⟩
    · go_wp2
      go_ret
      exact ⟨rfl, HB6.out⟩
    · go_wp2
      go_ret
      exact ⟨rfl, HB6.out⟩
    · go_wp2
      go_ret
      exact ⟨rfl, HB6.out⟩
    · go_wp2
      go_ret
      exact ⟨rfl, HB6.out⟩
    · go_wp2
      go_ret
      exact ⟨rfl, HB6.out⟩
    · go_wp2
      go_ret
      exact ⟨rfl, HB6.out⟩
end Go.Proofs.YtbgfiflnfndckaaDoor
