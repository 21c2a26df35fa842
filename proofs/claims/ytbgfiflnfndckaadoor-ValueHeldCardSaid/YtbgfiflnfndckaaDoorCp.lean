/- The walk of checkPairs, out of check's. No conditions but the kinds' own. -/
import Derived.Test.YtbgfiflnfndckaaDoorTb
import Derived.Test.YtbgfiflnfndckaaDoorSc
import Derived.Maps.Own
import Derived.Maps.OwnOps
import Derived.Maps.Views
set_option linter.unusedVariables false
set_option linter.unusedSimpArgs false
namespace Go.Proofs.YtbgfiflnfndckaaDoor
open Go.RowKit Go.Proofs.YtbgfiflnfndckaaDoorW.PrintWords Go.Maps Go.WideMaps Go.WideShapes
attribute [local go_sem] run_store_float

theorem ends_zero : ends 0 = .returned (.tuple #[]) := rfl
theorem ends_ne {c : Nat} (h : c ≠ 0) : ends c = vdies c := if_neg h
/-- What check owes at a value. -/
def CheckAt (w : World) (v : Vs.V) (cs : Array Value) : Prop := ∀ w', Below w.heap.size w w' → Tabs w' → ∀ d : Nat, d ≤ 8 →
  Calls Tryd.prog 48 #[.agg cs, .int .i64 d] w' fun e w'' => e = ends (Vs.chk v d) ∧ Below w'.heap.size w' w''
theorem CheckAt.lower {w w' : World} {v : Vs.V} {cs : Array Value} (h : CheckAt w v cs) (hb : Below w.heap.size w w') : CheckAt w' v cs := fun w2 hb2 => h w2 (hb.trans (hb2.mono hb.size))

theorem keyed9 : Keyed Tryd.prog 9 := string_keyed Tryd.underlying9
theorem zero3 (w : World) : (zeroValue 3).run Tryd.prog w = .ok (.int .i64 0) w := by kernel_rfl
theorem owns_below {w w' : World} {b n : Nat} {D : DataW Unit} (h : w.ownsMap Tryd.prog 9 (plainElem Tryd.prog 3) b n D) (hb : Below w.heap.size w w') : w'.ownsMap Tryd.prog 9 (plainElem Tryd.prog 3) b n D := by
  obtain ⟨es, clock, h1, h2⟩ := h
  exact ⟨es, clock, blk_below h1 hb, h2⟩
/-- The map tells how often each text stands on a list. -/
def Cnt (D : DataW Unit) (ks : List (List UInt8)) : Prop := IsMap D ∧ ∀ s : List UInt8, D.atKey (.string s) (.lit (.int .i64 0)) = .lit (.int .i64 ((ks.count s : Nat) : Int))
theorem cnt_nil : Cnt (.map []) [] := ⟨isMap_empty, fun s => by simp; rfl⟩
theorem cnt_put {D : DataW Unit} {ks : List (List UInt8)} (h : Cnt D ks) (s : List UInt8) : Cnt (D.put (.string s) (.lit (.int .i64 (((ks.count s : Nat) : Int) + 1)))) (ks ++ [s]) := by
  refine ⟨h.1.put _ _, fun t => ?_⟩
  by_cases e : t = s
  · subst e
    rw [atKey_put_same h.1 (by simp [WideAt.IsKeyLit])]
    simp
  · rw [atKey_put_other (by intro hh; apply e; simpa using hh), h.2 t, List.count_append]
    have : [s].count t = 0 := by rw [List.count_eq_zero]; simpa using e
    rw [this]; simp

namespace Vs
theorem chkP_at (m : List (ByteArray × V)) (k d : Nat) (ks : List (List UInt8)) (x : ByteArray × V) (h : m[k]? = some x) :
    chkP (m.drop k) ks d = if keyE x.1 ≠ 0 then keyE x.1 else if chk x.2 d ≠ 0 then chk x.2 d else chkP (m.drop (k + 1)) (ks ++ [x.1.data.toList]) d := by
  have hk : k < m.length := (List.getElem?_eq_some_iff.1 h).1
  have he : m[k] = x := (List.getElem?_eq_some_iff.1 h).2
  rw [List.drop_eq_getElem_cons hk, he]
  obtain ⟨a, b⟩ := x
  rw [chkP]
theorem keys_take (m : List (ByteArray × V)) (k : Nat) (x : ByteArray × V) (h : m[k]? = some x) : (m.take (k + 1)).map (·.1.data.toList) = (m.take k).map (·.1.data.toList) ++ [x.1.data.toList] := by
  rw [List.take_add_one, h]; simp
theorem nodup_more (ks : List (List UInt8)) (s : List UInt8) : decide (ks ++ [s]).Nodup = (decide ks.Nodup && decide (s ∉ ks)) := by
  rw [Bool.eq_iff_iff]
  simp [List.nodup_append]
  intro _
  constructor
  · intro h hs; exact h s hs rfl
  · intro h a ha e; subst e; exact h ha
end Vs

set_option maxHeartbeats 4000000 in
set_option maxRecDepth 100000 in
theorem checkpairs_of (m : List (ByteArray × Vs.V)) (B : Option Addr) (c d : Nat) (w : World) (Ds : Nat → Array Value) (hm : m.length * 112 ≤ 140737488351232)
    (hB : ∀ i p, m[i]? = some p → ∃ b, B = some b ∧ w.cell? (b.add (i * 8)) = some (.string p.1) ∧ p.1.size ≤ 140737488351232 ∧ At w ((b.add (i * 8)).add 1) (Ds i)) (hDs : ∀ i p, m[i]? = some p → Rd w p.2 (Ds i))
    (hS : ∀ i v, m[i]? = some v → CheckAt w v.2 (Ds i)) (hT : Tabs w) (hd : d ≤ 9) (hd2 : m ≠ [] → d ≤ 8) :
    Calls Tryd.prog 57 #[.slice B m.length c, .int .i64 d] w fun e w' => e = ends (Vs.chkP m [] d) ∧ Below w.heap.size w w' := by
  have hmm := @run_makeMap Tryd.prog
  have hu := Tryd.underlying50
  have hu2 := Tryd.underlying27
  have hm1 : m.length ≤ 9223372036854775807 := by omega
  have HB := Lib.hid hB
  have HD := Lib.hid hDs
  have HS := Lib.hid hS
  have HT := Lib.hid hT
  have HD2 := Lib.hid hd2
  clear hB hDs hS hT hm hd2
  obtain ⟨res, hres⟩ : ∃ r, r = Vs.chkP m [] d := ⟨_, rfl⟩
  rw [← hres]
  have HR := Lib.hid hres
  clear hres
  go_enter Tryd.func57, Tryd.ntmps57
  go_wp2
  go_loopw [5, 7, 11] (fun tw i7 i wr => ∃ (k : Nat) (t : Bool), k ≤ m.length ∧ i = .int .i64 k ∧ tw = .bool t ∧ Hid (t = !decide ((m.take k).map (·.1.data.toList)).Nodup) ∧ Hid (res = Vs.chkP (m.drop k) ((m.take k).map (·.1.data.toList)) d) ∧
    Hid (∃ D, wr.ownsMap Tryd.prog 9 (plainElem Tryd.prog 3) w.heap.size k D ∧ Cnt D ((m.take k).map (·.1.data.toList))) ∧ Hid (Below w.heap.size w wr)) (fun _ _ i _ => m.length - (intOf i).toNat)
  case atStart => exact ⟨0, false, Nat.zero_le _, rfl, rfl, Lib.hid (by simp), Lib.hid (by rw [HR.out]; simp), Lib.hid ⟨_, World.ownsMap_made _ _ _ _, by simpa using cnt_nil⟩, Lib.hid ((Below.refl _ _).alloc (Nat.le_refl _) _)⟩
  case round =>
    obtain ⟨k, t, hk, rfl, rfl, HTW, HC, HM, HW⟩ := hrel
    by_cases hkn : k < m.length
    · obtain ⟨x, hx⟩ : ∃ x, m[k]? = some x := ⟨m[k], List.getElem?_eq_getElem hkn⟩
      obtain ⟨ad, hAd, hat0, hasz, hat⟩ := HB.out k x hx
      obtain ⟨A1, ca1, B1, cb1, hcs⟩ := (HD.out k x hx).cells
      have hs := HS.out k x hx
      have hd8 : d ≤ 8 := HD2.out (fun h => by rw [h] at hx; simp at hx)
      have hst := Vs.chkP_at m k d ((m.take k).map (·.1.data.toList)) x hx
      have hkt := Vs.keys_take m k x hx
      rw [hcs] at hat hs
      have HSS := Lib.hid hs
      have HST := Lib.hid hst
      have HKT := Lib.hid hkt
      have HASZ := Lib.hid hasz
      obtain ⟨c0, c1, c2, c3, c4, c5, c6, c7⟩ := at_pair _ ((HW.out.cell (cell_lt hat0)).trans hat0) (hat.below HW.out)
      clear hx hat hat0 hcs hs hst hkt hasz
      subst hAd
      have HX0 := Lib.hid (blk_new wr (boxP x.1 x.2.x (.slice A1 x.2.l.length ca1) (.slice B1 x.2.m.length cb1)))
      have HW0 := Lib.hid (HW.out.alloc HW.out.size (boxP x.1 x.2.x (.slice A1 x.2.l.length ca1) (.slice B1 x.2.m.length cb1)))
      have HM0 := Lib.hid (show ∃ D, (wr.alloc (boxP x.1 x.2.x (.slice A1 x.2.l.length ca1) (.slice B1 x.2.m.length cb1))).ownsMap Tryd.prog 9 (plainElem Tryd.prog 3) w.heap.size k D ∧ Cnt D ((m.take k).map (·.1.data.toList)) from by
        obtain ⟨D, h1, h2⟩ := HM.out
        exact ⟨D, h1.alloc _, h2⟩)
      unfold boxP cellsP at HW0 HM0
      by_cases hke : Vs.keyE x.1 = 0
      · by_cases hce : Vs.chk x.2 d = 0
        · have hkey : keyOf Tryd.prog 9 (.string x.1) = some (.string x.1.data.toList) := keyOf_string_mk Tryd.underlying9 (by unfold maxLen; have := HASZ.out; omega)
          have hres2 : res = Vs.chkP (m.drop (k + 1)) ((m.take (k + 1)).map (·.1.data.toList)) d := by rw [HC.out, HST.out, if_neg (by simp [hke]), if_neg (by simp [hce]), HKT.out]
          have HC2 := Lib.hid hres2
          have hlen : ((m.take k).map (·.1.data.toList)).length = k := by rw [List.length_map, List.length_take]; omega
          have HLEN := Lib.hid hlen
          clear hres2 hlen
          go_wp2_with fail
          refine (key_calls x.1 _ HASZ.out (HT.out.below HW0.out)).mono ?_
          rw [hke, ends_zero]
          rintro e w2 ⟨rfl, hb⟩
          have HW1 := Lib.hid (HW0.out.trans (hb.mono HW0.out.size))
          have HX1 := Lib.hid (blk_below HX0.out hb)
          have HM1 := Lib.hid (show ∃ D, w2.ownsMap Tryd.prog 9 (plainElem Tryd.prog 3) w.heap.size k D ∧ Cnt D ((m.take k).map (·.1.data.toList)) from by
            obtain ⟨D, h1, h2⟩ := HM0.out
            exact ⟨D, owns_below h1 hb, h2⟩)
          obtain ⟨p0, p1, p2, p3, p4, p5, p6, p7⟩ := boxp_cells HX1.out
          clear hb c0 c1 c2 c3 c4 c5 c6 c7
          go_wp2_with fail
          refine (HSS.out _ HW1.out (HT.out.below HW1.out) d hd8).mono ?_
          rw [hce, ends_zero]
          rintro e w3 ⟨rfl, hb⟩
          have HW2 := Lib.hid (HW1.out.trans (hb.mono HW1.out.size))
          obtain ⟨D, h1, hcnt⟩ := HM1.out
          have hown := owns_below h1 hb
          clear p0 p1 p2 p3 p4 p5 p6 p7 h1
          obtain ⟨p0, p1, p2, p3, p4, p5, p6, p7⟩ := boxp_cells (blk_below HX1.out hb)
          have HX2 := Lib.hid (blk_below HX1.out hb)
          clear hb p1 p2 p3 p4 p5 p6 p7
          have HCN := Lib.hid hcnt
          clear hcnt
          have HNE := Lib.hid (show some wr.heap.size ≠ some w.heap.size from by
            obtain ⟨D0, h0, _⟩ := HM.out
            have := h0.lt
            intro hh
            rw [Option.some.injEq] at hh
            omega)
          cases t
          · go_wp2_with (first
              | (at_lookup; refine wpList_lookup_own_int _ rfl _ _ 101 rfl 9 3 .i64 keyed9 Tryd.underlying101 Tryd.underlying3 (zero3 _) w.heap.size k _ rfl hown _ _ rfl hkey ?_; intro c1 hat hwc)
              | (at_mapUpdate; refine wpList_mapUpdate_own _ rfl _ _ _ 101 rfl 9 3 keyed9 Tryd.underlying101 _ w.heap.size k _ rfl hown (by unfold maxLen; omega) _ _ _ rfl rfl hkey _ [] (plainElem_int Tryd.underlying3 (wrap64_wf _)) ?_; intro w4 hown1 hgrow1; have p9 := (boxp_cells (blk_grown HX2.out hgrow1 HNE.out)).1; obtain ⟨c2, hrun2, hat2, hwc2⟩ := hown1.lookup_int keyed9 Tryd.underlying101 Tryd.underlying3 (zero3 _) hkey))
            all_goals
              have hc1 : c1 = ((((m.take k).map (·.1.data.toList)).count x.1.data.toList : Nat) : Int) := by
                have h9 := hat.symm.trans (HCN.out.2 x.1.data.toList)
                simpa using h9
              have hcl := List.count_le_length (a := x.1.data.toList) (l := (m.take k).map (·.1.data.toList))
              rw [HLEN.out] at hcl
              have hwr : Go.RowKit.wrap64 (c1 + 1) = ((((m.take k).map (·.1.data.toList)).count x.1.data.toList : Nat) : Int) + 1 := by unfold Go.RowKit.wrap64; omega
              rw [hwr] at hown1
              have hcn2 := cnt_put HCN.out x.1.data.toList
              rw [← HKT.out] at hcn2
              have hbel : Below w.heap.size w w4 := HW2.out.grown hgrow1 HW2.out.size (fun j hj => by cases hj; exact Nat.le_refl _)
              have htw := HTW.out
              have hmore := Vs.nodup_more ((m.take k).map (·.1.data.toList)) x.1.data.toList
              rw [← HKT.out] at hmore
              have hc2 : c2 = ((((m.take k).map (·.1.data.toList)).count x.1.data.toList : Nat) : Int) + 1 := by
                have h9 := hcn2.2 x.1.data.toList
                rw [hwr, h9, HKT.out, List.count_append] at hat2
                simpa using hat2.symm
            go_roundw
            case measure => simp [intOf]; omega
            case rel => exact ⟨k + 1, decide (1 < c2), by omega, by go_num, rfl, Lib.hid (by
              rw [hmore]
              have h8 : decide ((m.take k).map (·.1.data.toList)).Nodup = true := by simpa using htw
              rw [h8, hc2]
              have h7 := List.count_pos_iff (a := x.1.data.toList) (l := (m.take k).map (·.1.data.toList))
              by_cases hin : x.1.data.toList ∈ (m.take k).map (·.1.data.toList)
              · have := h7.2 hin
                rw [decide_eq_true (by omega : 1 < ((((m.take k).map (·.1.data.toList)).count x.1.data.toList : Nat) : Int) + 1), decide_eq_false (by simpa using hin)]
                rfl
              · have h6 : ¬ 0 < List.count x.1.data.toList ((m.take k).map (·.1.data.toList)) := fun h => hin (h7.1 h)
                rw [decide_eq_false (by omega : ¬ 1 < ((((m.take k).map (·.1.data.toList)).count x.1.data.toList : Nat) : Int) + 1), decide_eq_true (by simpa using hin)]
                rfl), HC2, Lib.hid ⟨_, hown1, hcn2⟩, Lib.hid hbel⟩
          · go_wp2_with (first
              | (at_lookup; refine wpList_lookup_own_int _ rfl _ _ 101 rfl 9 3 .i64 keyed9 Tryd.underlying101 Tryd.underlying3 (zero3 _) w.heap.size (k + 1) _ rfl hown1 _ _ rfl hkey ?_; intro c2 hat2 hwc2)
              | (at_lookup; refine wpList_lookup_own_int _ rfl _ _ 101 rfl 9 3 .i64 keyed9 Tryd.underlying101 Tryd.underlying3 (zero3 _) w.heap.size k _ rfl hown _ _ rfl hkey ?_; intro c1 hat hwc)
              | (at_mapUpdate; refine wpList_mapUpdate_own _ rfl _ _ _ 101 rfl 9 3 keyed9 Tryd.underlying101 _ w.heap.size k _ rfl hown (by unfold maxLen; omega) _ _ _ rfl rfl hkey _ [] (plainElem_int Tryd.underlying3 (wrap64_wf _)) ?_; intro w4 hown1 hgrow1; have p9 := (boxp_cells (blk_grown HX2.out hgrow1 HNE.out)).1))
            all_goals
              have hc1 : c1 = ((((m.take k).map (·.1.data.toList)).count x.1.data.toList : Nat) : Int) := by
                have h9 := hat.symm.trans (HCN.out.2 x.1.data.toList)
                simpa using h9
              have hcl := List.count_le_length (a := x.1.data.toList) (l := (m.take k).map (·.1.data.toList))
              rw [HLEN.out] at hcl
              have hwr : Go.RowKit.wrap64 (c1 + 1) = ((((m.take k).map (·.1.data.toList)).count x.1.data.toList : Nat) : Int) + 1 := by unfold Go.RowKit.wrap64; omega
              rw [hwr] at hown1
              have hcn2 := cnt_put HCN.out x.1.data.toList
              rw [← HKT.out] at hcn2
              have hbel : Below w.heap.size w w4 := HW2.out.grown hgrow1 HW2.out.size (fun j hj => by cases hj; exact Nat.le_refl _)
              have htw := HTW.out
              have hmore := Vs.nodup_more ((m.take k).map (·.1.data.toList)) x.1.data.toList
              rw [← HKT.out] at hmore
            go_roundw
            case measure => simp [intOf]; omega
            case rel => exact ⟨k + 1, true, by omega, by go_num, rfl, Lib.hid (by
              rw [hmore]
              have : decide ((m.take k).map (·.1.data.toList)).Nodup = false := by simpa using htw
              rw [this]; rfl), HC2, Lib.hid ⟨_, hown1, hcn2⟩, Lib.hid hbel⟩
        · have hr : ends res = vdies (Vs.chk x.2 d) := by rw [HC.out, HST.out, if_neg (by simp [hke]), if_pos hce, ends_ne hce]
          go_wp2_with fail
          refine (key_calls x.1 _ HASZ.out (HT.out.below HW0.out)).mono ?_
          rw [hke, ends_zero]
          rintro e w2 ⟨rfl, hb⟩
          have HW1 := Lib.hid (HW0.out.trans (hb.mono HW0.out.size))
          obtain ⟨p0, p1, p2, p3, p4, p5, p6, p7⟩ := boxp_cells (blk_below HX0.out hb)
          clear hb c0 c1 c2 c3 c4 c5 c6 c7
          go_wp2_with fail
          refine (HSS.out _ HW1.out (HT.out.below HW1.out) d hd8).mono ?_
          rw [ends_ne hce]
          unfold vdies
          rintro e w3 ⟨rfl, hb⟩
          exact ⟨rfl, by rw [hr]; rfl, HW1.out.trans (hb.mono HW1.out.size)⟩
      · have hr : ends res = vdies (Vs.keyE x.1) := by rw [HC.out, HST.out, if_pos hke, ends_ne hke]
        go_wp2_with fail
        refine (key_calls x.1 _ HASZ.out (HT.out.below HW0.out)).mono ?_
        rw [ends_ne hke]
        unfold vdies
        rintro e w2 ⟨rfl, hb⟩
        exact ⟨rfl, by rw [hr]; rfl, HW0.out.trans (hb.mono HW0.out.size)⟩
    · have hkl : k = m.length := by omega
      have hke : m.take k = m := by rw [hkl, List.take_length]
      have hr : res = if (m.map (·.1.data.toList)).Nodup then 0 else 6 := by rw [HC.out, hke, hkl, List.drop_length, Vs.chkP]
      have ht := HTW.out
      rw [hke] at ht
      by_cases hnd : (m.map (·.1.data.toList)).Nodup
      · rw [decide_eq_true hnd] at ht
        subst ht
        rw [if_pos hnd] at hr
        go_wp2_with fail
        refine (must_ok 6 _).mono ?_
        rintro e w1 ⟨rfl, rfl⟩
        go_wp2
        go_end0
        exact ⟨by rw [hr]; rfl, HW.out⟩
      · rw [decide_eq_false hnd] at ht
        subst ht
        rw [if_neg hnd] at hr
        go_wp2_with fail
        refine (must_dies 6 _).mono ?_
        rintro e w1 ⟨rfl, rfl⟩
        exact ⟨rfl, by rw [hr]; rfl, HW.out⟩
end Go.Proofs.YtbgfiflnfndckaaDoor
