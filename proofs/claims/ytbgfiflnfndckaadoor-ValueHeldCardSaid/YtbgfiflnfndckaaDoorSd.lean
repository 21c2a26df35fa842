/- The walks of the document's Same and SamePairs. No conditions but the kinds' own. -/
import Derived.Test.YtbgfiflnfndckaaDoorSc
import Derived.Test.YtbgfiflnfndckaaDoorRj
set_option linter.unusedVariables false
set_option linter.unusedSimpArgs false
namespace Go.Proofs.YtbgfiflnfndckaaDoor
open Go.RowKit Go.Proofs.YtbgfiflnfndckaaDoorW.PrintWords
attribute [local go_sem] run_store_float

theorem below_drewed {B : Nat} {w W : World} (h : Below B w W) : Below B w W.drew := h.drew
namespace Vs
/-- The same but for the lists' parts, as the document asks it. -/
def rflat (x y : Sc) (la lb : Nat) : Bool := x.k == y.k && (x.s.toList == y.s.toList && (x.b == y.b && (x.n == y.n && (x.f == y.f && la == lb))))
theorem flat_r (x y : Sc) (la lb pa pb : Nat) : flat x y la lb pa pb = (rflat x y la lb && pa == pb) := by
  unfold flat rflat
  simp only [Bool.and_assoc]
theorem same_r (x y : Sc) (l l' : List V) (m m' : List (ByteArray × V)) : same (.mk x l m) (.mk y l' m') = (rflat x y l.length l'.length && (sameL l l' && sameP m m')) := by
  rw [same, flat_r]
  by_cases h : m.length = m'.length
  · simp [h]
  · rw [sameP_len _ _ h]; simp
end Vs

/-- What the document's Same owes at a value. -/
def RSameAt (w : World) (v : Vs.V) (cs : Array Value) : Prop := ∀ w', Below w.heap.size w w' → ∀ (u : Vs.V) (ds : Array Value), Rd w' u ds →
  Calls Tryd.prog 24 #[.agg cs, .agg ds] w' fun e w'' => e = .returned (.bool (Vs.same v u)) ∧ Below w'.heap.size w' w''
theorem RSameAt.lower {w w' : World} {v : Vs.V} {cs : Array Value} (h : RSameAt w v cs) (hb : Below w.heap.size w w') : RSameAt w' v cs := fun w2 hb2 => h w2 (hb.trans (hb2.mono hb.size))


set_option maxHeartbeats 4000000 in
set_option maxRecDepth 100000 in
theorem rsamep_calls (l l' : List (ByteArray × Vs.V)) (A B : Option Addr) (c d : Nat) (w : World) (Cs : Nat → Array Value) (hl1 : l.length * 112 ≤ 140737488351232) (hA1 : ∀ i p, l[i]? = some p → ∃ b, A = some b ∧ w.cell? (b.add (i * 8)) = some (.string p.1) ∧ p.1.size ≤ 140737488351232 ∧ At w ((b.add (i * 8)).add 1) (Cs i)) (hCs : ∀ i p, l[i]? = some p → Rd w p.2 (Cs i)) (hB : RdP w B l')
    (hS2 : ∀ i v, l[i]? = some v → RSameAt w v.2 (Cs i)) :
    Calls Tryd.prog 26 #[.slice A l.length c, .slice B l'.length d] w fun e w' => e = .returned (.bool (Vs.sameP l l')) ∧ Below w.heap.size w w' := by
  obtain ⟨Ds, hl2, hB1, hDs⟩ := hB
  have hu := Tryd.underlying50
  have hu2 := Tryd.underlying27
  obtain ⟨res, hres⟩ : ∃ r, r = Vs.sameP l l' := ⟨_, rfl⟩
  rw [← hres]
  have HR := Lib.hid hres
  have HA := Lib.hid hA1
  have HB := Lib.hid hB1
  have HC := Lib.hid hCs
  have HD := Lib.hid hDs
  have HS := Lib.hid hS2
  have hm1 : l.length ≤ 9223372036854775807 := by omega
  have hm2 : l'.length ≤ 9223372036854775807 := by omega
  clear hres hA1 hB1 hCs hDs hS2 hl1 hl2
  by_cases hle : l.length = l'.length
  · have hle1 : ((l.length : Int) != (l'.length : Int)) = false := by rw [bne_eq_false_iff_eq]; omega
    have HE := Lib.hid hle
    clear hle
    go_enter Tryd.func26, Tryd.ntmps26
    go_wp2
    go_loopw [5, 13] (fun i5 i wr => ∃ k : Nat, k ≤ l.length ∧ i = .int .i64 k ∧ Hid (Vs.sameP (l.take k) (l'.take k) = true) ∧ Hid (Below w.heap.size w wr)) (fun _ i _ => l.length - (intOf i).toNat)
    case atStart => exact ⟨0, Nat.zero_le _, rfl, Lib.hid (by simp [Vs.sameP]), Lib.hid (Below.refl _ _)⟩
    case round =>
      obtain ⟨k, hk, rfl, HT, HW⟩ := hrel
      by_cases hkn : k < l.length
      · have hkm : k < l'.length := by have := HE.out; omega
        obtain ⟨x, hx⟩ : ∃ x, l[k]? = some x := ⟨l[k], List.getElem?_eq_getElem hkn⟩
        obtain ⟨y, hy⟩ : ∃ y, l'[k]? = some y := ⟨l'[k], List.getElem?_eq_getElem hkm⟩
        obtain ⟨ad, hAd, hat0, hasz, hat⟩ := HA.out k x hx
        obtain ⟨bd, hBd, hbt0, hbsz, hbt⟩ := HB.out k y hy
        obtain ⟨A1, ca1, B1, cb1, hcs⟩ := (HC.out k x hx).cells
        obtain ⟨A2, ca2, B2, cb2, hds⟩ := (HD.out k y hy).cells
        have hs := HS.out k x hx
        have hry := HD.out k y hy
        have ht := Vs.sameP_take l l' k x y hx hy HT.out
        have HTT := Lib.hid ht
        rw [hcs] at hat hs
        rw [hds] at hbt hry
        have HSS := Lib.hid hs
        have HRY := Lib.hid hry
        obtain ⟨c0, c1, c2, c3, c4, c5, c6, c7⟩ := at_pair _ ((HW.out.cell (cell_lt hat0)).trans hat0) (hat.below HW.out)
        obtain ⟨d0, d1, d2, d3, d4, d5, d6, d7⟩ := at_pair _ ((HW.out.cell (cell_lt hbt0)).trans hbt0) (hbt.below HW.out)
        clear hx hy hat hbt hat0 hbt0 hasz hbsz hcs hds hs hry ht
        subst hAd hBd
        cases hkk : (x.1.toList == y.1.toList)
        · have hr : res = false := by rw [HR.out]; exact HTT.out.2 (by rw [hkk]; rfl)
          go_wp2
          repeat (go_quiet (fail); try go_wp2)
          go_ret
          rw [hr]
          exact ⟨rfl, by first | exact HW.out | exact pw_below_drewN HW.out _⟩
        · go_wp2
          refine Rg.begin_calm [0, 1, 2, 3, 4, 5, 6, 7, 8, 9, 10, 11, 12, 13, 14, 15, 16, 17, 18, 19, 20, 21] (fun W => Below wr.heap.size wr W) (by kernel_rfl) ?_
          refine Rg.take_ (i := 0) (oi := ⟨some 16, _, _, _, _, _⟩) (v := .slice (some ad) l.length c) rfl (by simp) (by kernel_rfl) (fun _ _ _ h => h) (.inl ⟨by simp [Region.wanted, yielded], ?_⟩) ?_ ?_
          · intro W hW
            go_simp
          · exact (Below.refl wr.heap.size wr).drew
          simp only [Act.put, List.setIfInBounds_toArray, List.set_cons_zero, List.set_cons_succ]
          refine Rg.take_ (i := 1) (oi := ⟨some 17, _, _, _, _, _⟩) (v := .int .i64 k) rfl (by simp) (by kernel_rfl) (fun _ _ _ h => h) (.inl ⟨by simp [Region.wanted, yielded], ?_⟩) ?_ ?_
          · intro W hW
            go_simp
          · exact (Below.refl wr.heap.size wr).drew
          simp only [Act.put, List.setIfInBounds_toArray, List.set_cons_zero, List.set_cons_succ]
          refine Rg.take_ (i := 2) (oi := ⟨some 18, _, _, _, _, _⟩) (v := .pointer (some (ad.add (k * 8)))) rfl (by simp) (by kernel_rfl) (fun _ _ _ h => h) (.inl ⟨by simp [Region.wanted, yielded], ?_⟩) ?_ ?_
          · intro W hW
            go_simp
          · exact (Below.refl wr.heap.size wr).drew
          simp only [Act.put, List.setIfInBounds_toArray, List.set_cons_zero, List.set_cons_succ]
          refine Rg.take_ (i := 3) (oi := ⟨some 19, _, _, _, _, _⟩) (v := .pointer (some (ad.add (k * 8)))) rfl (by simp) (by kernel_rfl) (fun _ _ _ h => h) (.inl ⟨by simp [Region.wanted, yielded], ?_⟩) ?_ ?_
          · intro W hW
            go_simp
          · exact (Below.refl wr.heap.size wr).drew
          simp only [Act.put, List.setIfInBounds_toArray, List.set_cons_zero, List.set_cons_succ]
          refine Rg.take_ (i := 4) (oi := ⟨some 20, _, _, _, _, _⟩) (v := .string x.1) rfl (by simp) (by kernel_rfl) (fun _ _ _ h => h) (.inl ⟨by simp [Region.wanted, yielded], ?_⟩) ?_ ?_
          · intro W hW
            have ec0 := (hW.cell (cell_lt c0)).trans c0
            go_simp
          · exact (Below.refl wr.heap.size wr).drew
          simp only [Act.put, List.setIfInBounds_toArray, List.set_cons_zero, List.set_cons_succ]
          refine Rg.take_ (i := 5) (oi := ⟨some 21, _, _, _, _, _⟩) (v := .slice (some bd) l'.length d) rfl (by simp) (by kernel_rfl) (fun _ _ _ h => h) (.inl ⟨by simp [Region.wanted, yielded], ?_⟩) ?_ ?_
          · intro W hW
            go_simp
          · exact (Below.refl wr.heap.size wr).drew
          simp only [Act.put, List.setIfInBounds_toArray, List.set_cons_zero, List.set_cons_succ]
          refine Rg.take_ (i := 6) (oi := ⟨some 22, _, _, _, _, _⟩) (v := .int .i64 k) rfl (by simp) (by kernel_rfl) (fun _ _ _ h => h) (.inl ⟨by simp [Region.wanted, yielded], ?_⟩) ?_ ?_
          · intro W hW
            go_simp
          · exact (Below.refl wr.heap.size wr).drew
          simp only [Act.put, List.setIfInBounds_toArray, List.set_cons_zero, List.set_cons_succ]
          refine Rg.take_ (i := 7) (oi := ⟨some 23, _, _, _, _, _⟩) (v := .pointer (some (bd.add (k * 8)))) rfl (by simp) (by kernel_rfl) (fun _ _ _ h => h) (.inl ⟨by simp [Region.wanted, yielded], ?_⟩) ?_ ?_
          · intro W hW
            go_simp
          · exact (Below.refl wr.heap.size wr).drew
          simp only [Act.put, List.setIfInBounds_toArray, List.set_cons_zero, List.set_cons_succ]
          refine Rg.take_ (i := 8) (oi := ⟨some 24, _, _, _, _, _⟩) (v := .pointer (some (bd.add (k * 8)))) rfl (by simp) (by kernel_rfl) (fun _ _ _ h => h) (.inl ⟨by simp [Region.wanted, yielded], ?_⟩) ?_ ?_
          · intro W hW
            go_simp
          · exact (Below.refl wr.heap.size wr).drew
          simp only [Act.put, List.setIfInBounds_toArray, List.set_cons_zero, List.set_cons_succ]
          refine Rg.take_ (i := 9) (oi := ⟨some 25, _, _, _, _, _⟩) (v := .string y.1) rfl (by simp) (by kernel_rfl) (fun _ _ _ h => h) (.inl ⟨by simp [Region.wanted, yielded], ?_⟩) ?_ ?_
          · intro W hW
            have ed0 := (hW.cell (cell_lt d0)).trans d0
            go_simp
          · exact (Below.refl wr.heap.size wr).drew
          simp only [Act.put, List.setIfInBounds_toArray, List.set_cons_zero, List.set_cons_succ]
          refine Rg.take_ (i := 10) (oi := ⟨some 26, _, _, _, _, _⟩) (v := .bool false) rfl (by simp) (by kernel_rfl) (fun _ _ _ h => h) (.inl ⟨by simp [Region.wanted, yielded], ?_⟩) ?_ ?_
          · intro W hW
            go_simp
          · exact (Below.refl wr.heap.size wr).drew
          simp only [Act.put, List.setIfInBounds_toArray, List.set_cons_zero, List.set_cons_succ]
          refine Rg.take_ (i := 11) (oi := ⟨some 27, _, _, _, _, _⟩) (v := .bool false) rfl (by simp) (by kernel_rfl) (fun _ _ _ h => h) (.inl ⟨by simp [Region.wanted, yielded], ?_⟩) ?_ ?_
          · intro W hW
            go_simp
          · exact (Below.refl wr.heap.size wr).drew
          simp only [Act.put, List.setIfInBounds_toArray, List.set_cons_zero, List.set_cons_succ]
          refine Rg.take_ (i := 12) (oi := ⟨some 28, _, _, _, _, _⟩) (v := .slice (some ad) l.length c) rfl (by simp) (by kernel_rfl) (fun _ _ _ h => h) (.inl ⟨by simp [Region.wanted, yielded], ?_⟩) ?_ ?_
          · intro W hW
            go_simp
          · exact (Below.refl wr.heap.size wr).drew
          simp only [Act.put, List.setIfInBounds_toArray, List.set_cons_zero, List.set_cons_succ]
          refine Rg.take_ (i := 13) (oi := ⟨some 29, _, _, _, _, _⟩) (v := .int .i64 k) rfl (by simp) (by kernel_rfl) (fun _ _ _ h => h) (.inl ⟨by simp [Region.wanted, yielded], ?_⟩) ?_ ?_
          · intro W hW
            go_simp
          · exact (Below.refl wr.heap.size wr).drew
          simp only [Act.put, List.setIfInBounds_toArray, List.set_cons_zero, List.set_cons_succ]
          refine Rg.take_ (i := 14) (oi := ⟨some 30, _, _, _, _, _⟩) (v := .pointer (some (ad.add (k * 8)))) rfl (by simp) (by kernel_rfl) (fun _ _ _ h => h) (.inl ⟨by simp [Region.wanted, yielded], ?_⟩) ?_ ?_
          · intro W hW
            go_simp
          · exact (Below.refl wr.heap.size wr).drew
          simp only [Act.put, List.setIfInBounds_toArray, List.set_cons_zero, List.set_cons_succ]
          refine Rg.take_ (i := 15) (oi := ⟨some 31, _, _, _, _, _⟩) (v := .pointer (some ⟨(ad.add (k * 8)).block, (ad.add (k * 8)).off + 1, none⟩)) rfl (by simp) (by kernel_rfl) (fun _ _ _ h => h) (.inl ⟨by simp [Region.wanted, yielded], ?_⟩) ?_ ?_
          · intro W hW
            go_simp
          · exact (Below.refl wr.heap.size wr).drew
          simp only [Act.put, List.setIfInBounds_toArray, List.set_cons_zero, List.set_cons_succ]
          refine Rg.take_ (i := 16) (oi := ⟨some 32, _, _, _, _, _⟩) (v := .agg #[.int .u8 x.2.x.k, .string x.2.x.s, .bool x.2.x.b, .int .i64 x.2.x.n, .float .f64 x.2.x.f, .slice A1 x.2.l.length ca1, .slice B1 x.2.m.length cb1]) rfl (by simp) (by kernel_rfl) (fun _ _ _ h => h) (.inl ⟨by simp [Region.wanted, yielded], ?_⟩) ?_ ?_
          · intro W hW
            have ec1 := (hW.cell (cell_lt c1)).trans c1
            have ec2 := (hW.cell (cell_lt c2)).trans c2
            have ec3 := (hW.cell (cell_lt c3)).trans c3
            have ec4 := (hW.cell (cell_lt c4)).trans c4
            have ec5 := (hW.cell (cell_lt c5)).trans c5
            have ec6 := (hW.cell (cell_lt c6)).trans c6
            have ec7 := (hW.cell (cell_lt c7)).trans c7
            go_simp
          · exact (Below.refl wr.heap.size wr).drew
          simp only [Act.put, List.setIfInBounds_toArray, List.set_cons_zero, List.set_cons_succ]
          refine Rg.take_ (i := 17) (oi := ⟨some 33, _, _, _, _, _⟩) (v := .slice (some bd) l'.length d) rfl (by simp) (by kernel_rfl) (fun _ _ _ h => h) (.inl ⟨by simp [Region.wanted, yielded], ?_⟩) ?_ ?_
          · intro W hW
            go_simp
          · exact (Below.refl wr.heap.size wr).drew
          simp only [Act.put, List.setIfInBounds_toArray, List.set_cons_zero, List.set_cons_succ]
          refine Rg.take_ (i := 18) (oi := ⟨some 34, _, _, _, _, _⟩) (v := .int .i64 k) rfl (by simp) (by kernel_rfl) (fun _ _ _ h => h) (.inl ⟨by simp [Region.wanted, yielded], ?_⟩) ?_ ?_
          · intro W hW
            go_simp
          · exact (Below.refl wr.heap.size wr).drew
          simp only [Act.put, List.setIfInBounds_toArray, List.set_cons_zero, List.set_cons_succ]
          refine Rg.take_ (i := 19) (oi := ⟨some 35, _, _, _, _, _⟩) (v := .pointer (some (bd.add (k * 8)))) rfl (by simp) (by kernel_rfl) (fun _ _ _ h => h) (.inl ⟨by simp [Region.wanted, yielded], ?_⟩) ?_ ?_
          · intro W hW
            go_simp
          · exact (Below.refl wr.heap.size wr).drew
          simp only [Act.put, List.setIfInBounds_toArray, List.set_cons_zero, List.set_cons_succ]
          refine Rg.take_ (i := 20) (oi := ⟨some 36, _, _, _, _, _⟩) (v := .pointer (some ⟨(bd.add (k * 8)).block, (bd.add (k * 8)).off + 1, none⟩)) rfl (by simp) (by kernel_rfl) (fun _ _ _ h => h) (.inl ⟨by simp [Region.wanted, yielded], ?_⟩) ?_ ?_
          · intro W hW
            go_simp
          · exact (Below.refl wr.heap.size wr).drew
          simp only [Act.put, List.setIfInBounds_toArray, List.set_cons_zero, List.set_cons_succ]
          refine Rg.take_ (i := 21) (oi := ⟨some 37, _, _, _, _, _⟩) (v := .agg #[.int .u8 y.2.x.k, .string y.2.x.s, .bool y.2.x.b, .int .i64 y.2.x.n, .float .f64 y.2.x.f, .slice A2 y.2.l.length ca2, .slice B2 y.2.m.length cb2]) rfl (by simp) (by kernel_rfl) (fun _ _ _ h => h) (.inl ⟨by simp [Region.wanted, yielded], ?_⟩) ?_ ?_
          · intro W hW
            have ed1 := (hW.cell (cell_lt d1)).trans d1
            have ed2 := (hW.cell (cell_lt d2)).trans d2
            have ed3 := (hW.cell (cell_lt d3)).trans d3
            have ed4 := (hW.cell (cell_lt d4)).trans d4
            have ed5 := (hW.cell (cell_lt d5)).trans d5
            have ed6 := (hW.cell (cell_lt d6)).trans d6
            have ed7 := (hW.cell (cell_lt d7)).trans d7
            go_simp
          · exact (Below.refl wr.heap.size wr).drew
          simp only [Act.put, List.setIfInBounds_toArray, List.set_cons_zero, List.set_cons_succ]
          have hsm0 : Vs.same x.2 y.2 = false ∨ Vs.same x.2 y.2 = true := by cases Vs.same x.2 y.2 <;> simp
          rcases hsm0 with hsm | hsm
          · have hcall := HSS.out wr.drew (below_drewed HW.out) y.2 _ (HRY.out.lower (below_drewed HW.out))
            rw [hsm] at hcall
            refine Rg.step_call1 (j := 22) (o := { dst := some 38, op := .call { callee := .value (.func 24), args := #[.tmp 32, .tmp 37], argTypes := #[27, 27] }, type := 4, pos := _, after := _, guard := some (11, false) }) (f := 24) rfl (by kernel_rfl) (by simp [Region.wanted, yielded]) (by unfold cellsV; go_simp) hcall ?_
            intro w2 hb
            have HW3 := Lib.hid (HW.out.trans ((below_undrew hb).mono HW.out.size))
            have HW4 := Lib.hid (below_undrew hb)
            clear hb hcall c0 c1 c2 c3 c4 c5 c6 c7 d0 d1 d2 d3 d4 d5 d6 d7
            simp only [Act.put, List.setIfInBounds_toArray, List.set_cons_zero, List.set_cons_succ]
            refine And.intro HW4.out ?_
            refine Rg.step_val (j := 23) (v := .bool true) (o := { dst := some 39, op := .unOp .not 4 (.tmp 38), type := 4, pos := _, after := _, guard := some (11, false) }) rfl (by kernel_rfl) (by simp [Region.wanted, yielded]) (by go_simp) HW4.out ?_
            simp only [Act.put, List.setIfInBounds_toArray, List.set_cons_zero, List.set_cons_succ]
            refine Rg.step_val (j := 24) (v := .bool true) (o := { dst := some 40, op := .pick (.tmp 27) (.const (.bool true)) (.tmp 39), type := 4, pos := _, after := _, guard := none }) rfl (by kernel_rfl) (by simp [Region.wanted, yielded]) (by go_simp) HW4.out ?_
            simp only [Act.put, List.setIfInBounds_toArray, List.set_cons_zero, List.set_cons_succ]
            refine Rg.done_ (by kernel_rfl) ?_ _
            refine Rg.Calm.normal ?_
            have hr : res = false := by rw [HR.out]; exact HTT.out.2 (by rw [hkk, hsm]; rfl)
            go_wp2
            go_ret
            rw [hr]
            exact ⟨rfl, HW3.out⟩
          · have hcall := HSS.out wr.drew (below_drewed HW.out) y.2 _ (HRY.out.lower (below_drewed HW.out))
            rw [hsm] at hcall
            refine Rg.step_call1 (j := 22) (o := { dst := some 38, op := .call { callee := .value (.func 24), args := #[.tmp 32, .tmp 37], argTypes := #[27, 27] }, type := 4, pos := _, after := _, guard := some (11, false) }) (f := 24) rfl (by kernel_rfl) (by simp [Region.wanted, yielded]) (by unfold cellsV; go_simp) hcall ?_
            intro w2 hb
            have HW3 := Lib.hid (HW.out.trans ((below_undrew hb).mono HW.out.size))
            have HW4 := Lib.hid (below_undrew hb)
            clear hb hcall c0 c1 c2 c3 c4 c5 c6 c7 d0 d1 d2 d3 d4 d5 d6 d7
            simp only [Act.put, List.setIfInBounds_toArray, List.set_cons_zero, List.set_cons_succ]
            refine And.intro HW4.out ?_
            refine Rg.step_val (j := 23) (v := .bool false) (o := { dst := some 39, op := .unOp .not 4 (.tmp 38), type := 4, pos := _, after := _, guard := some (11, false) }) rfl (by kernel_rfl) (by simp [Region.wanted, yielded]) (by go_simp) HW4.out ?_
            simp only [Act.put, List.setIfInBounds_toArray, List.set_cons_zero, List.set_cons_succ]
            refine Rg.step_val (j := 24) (v := .bool false) (o := { dst := some 40, op := .pick (.tmp 27) (.const (.bool true)) (.tmp 39), type := 4, pos := _, after := _, guard := none }) rfl (by kernel_rfl) (by simp [Region.wanted, yielded]) (by go_simp) HW4.out ?_
            simp only [Act.put, List.setIfInBounds_toArray, List.set_cons_zero, List.set_cons_succ]
            refine Rg.done_ (by kernel_rfl) ?_ _
            refine Rg.Calm.normal ?_
            go_wp2
            go_roundw
            case measure => simp [intOf]; omega
            case rel => exact ⟨k + 1, hkn, rfl, Lib.hid (by rw [HTT.out.1, hkk, hsm]; rfl), HW3⟩
      · have hke : k = l.length := by omega
        have hr : res = true := by
          rw [HR.out]
          have h1 := HT.out
          rw [hke, List.take_length, HE.out, List.take_length] at h1
          exact h1
        go_wp2
        go_ret
        rw [hr]
        exact ⟨rfl, HW.out⟩
  · have hle1 : ((l.length : Int) != (l'.length : Int)) = true := by rw [bne_iff_ne]; omega
    have hr : res = false := by rw [HR.out]; exact Vs.sameP_len _ _ hle
    rw [hr]
    clear hle
    go_enter Tryd.func26, Tryd.ntmps26
    go_wp2
    go_ret
    exact ⟨rfl, Below.refl _ _⟩
end Go.Proofs.YtbgfiflnfndckaaDoor
