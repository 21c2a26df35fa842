/- The walk of the document's Same. No conditions but the kinds' own. -/
import Derived.Test.YtbgfiflnfndckaaDoorSd
set_option linter.unusedVariables false
set_option linter.unusedSimpArgs false
namespace Go.Proofs.YtbgfiflnfndckaaDoor
open Go.RowKit Go.Proofs.YtbgfiflnfndckaaDoorW.PrintWords
attribute [local go_sem] run_store_float

/-- Two boxes of the call's own. -/
def Two (N : Nat) (x y : Vs.Sc) (l m l' m' : Value) (W : World) : Prop := W.heap[N]? = some (boxV x l m) ∧ W.heap[N + 1]? = some (boxV y l' m')
theorem Two.below {N : Nat} {x y : Vs.Sc} {l m l' m' : Value} {W W' : World} (h : Two N x y l m l' m' W) (hb : Below W.heap.size W W') : Two N x y l m l' m' W' := ⟨blk_below h.1 hb, blk_below h.2 hb⟩
theorem two_made (w : World) (x y : Vs.Sc) (l m l' m' : Value) : Two w.heap.size x y l m l' m' ((w.alloc (boxV x l m)).alloc (boxV y l' m')) := by
  refine ⟨blk_alloc (blk_new _ _) _, ?_⟩
  have := blk_new (w.alloc (boxV x l m)) (boxV y l' m')
  simpa using this
theorem two_below (w : World) (a b : Obj) : Below w.heap.size w ((w.alloc a).alloc b) := ((Below.refl w.heap.size w).alloc (Nat.le_refl _) _).alloc (by simp) _

set_option maxHeartbeats 4000000 in
set_option maxRecDepth 100000 in
theorem rsame_at {w : World} {v : Vs.V} {cs : Array Value} (h : Rd w v cs) : RSameAt w v cs := by
  induction h with
  | mk x l m A ca B cb Cs Ds hx hl hm hA hCs hB hDs ih1 ih2 =>
    intro w' hb u ds hu
    obtain ⟨y, l', m', A', ca', B', cb', Cs', Ds', hx', hl', hm', hA', hCs', hB', hDs'⟩ := hu
    have hu1 := Tryd.underlying27
    have hep : ∀ W, Below w'.heap.size w' W → Calls Tryd.prog 26 #[.slice B m.length cb, .slice B' m'.length cb'] W fun e w'' =>
        e = .returned (.bool (Vs.sameP m m')) ∧ Below W.heap.size W w'' := fun W hW => by
      have hWW : Below w.heap.size w W := hb.trans (hW.mono hb.size)
      refine rsamep_calls m m' B B' cb cb' W Ds hm (fun i p hp => ?_) (fun i v hv => (hDs i v hv).lower hWW) ⟨Ds', hm', fun i p hp => ?_, fun i v hv => (hDs' i v hv).lower hW⟩ (fun i v hv => (ih2 i v hv).lower hWW)
      · obtain ⟨b, h1, h2, h3, h4⟩ := hB i p hp
        exact ⟨b, h1, (hWW.cell (cell_lt h2)).trans h2, h3, h4.below hWW⟩
      · obtain ⟨b, h1, h2, h3, h4⟩ := hB' i p hp
        exact ⟨b, h1, (hW.cell (cell_lt h2)).trans h2, h3, h4.below hW⟩
    have HEP := Lib.hid hep
    have HA := Lib.hid hA
    have HA2 := Lib.hid hA'
    have HC := Lib.hid hCs
    have HC2 := Lib.hid hCs'
    have HI := Lib.hid ih1
    have HBW := Lib.hid hb
    rw [Vs.same_r]
    obtain ⟨rf, hrf⟩ : ∃ rf, rf = Vs.rflat x y l.length l'.length := ⟨_, rfl⟩
    obtain ⟨rl, hrl⟩ : ∃ rl, rl = Vs.sameL l l' := ⟨_, rfl⟩
    obtain ⟨rp, hrp⟩ : ∃ rp, rp = Vs.sameP m m' := ⟨_, rfl⟩
    rw [← hrf, ← hrl, ← hrp]
    rw [← hrp] at HEP
    have HRL := Lib.hid hrl
    have hm1 : l.length ≤ 9223372036854775807 := by omega
    have hm2 : l'.length ≤ 9223372036854775807 := by omega
    clear hA hCs hB hDs ih1 ih2 hA' hCs' hB' hDs' hep hx hx' hb hl hm hl' hm' hrl hrp
    obtain ⟨k, s, b, n, f⟩ := x
    obtain ⟨k', s', b', n', f'⟩ := y
    unfold Vs.rflat at hrf
    simp only at hrf
    have HT := Lib.hid (two_made w' ⟨k, s, b, n, f⟩ ⟨k', s', b', n', f'⟩ (.slice A l.length ca) (.slice B m.length cb) (.slice A' l'.length ca') (.slice B' m'.length cb'))
    have HW0 := Lib.hid (two_below w' (boxV ⟨k, s, b, n, f⟩ (.slice A l.length ca) (.slice B m.length cb)) (boxV ⟨k', s', b', n', f'⟩ (.slice A' l'.length ca') (.slice B' m'.length cb')))
    unfold boxV cellsV at HW0
    unfold cellsV
    simp only
    have hf := run_f64bits
    have c1 : ((k : Int) != (k' : Int)) = !(k == k') := by rw [Bool.eq_iff_iff]; simp only [bne_iff_ne, Bool.not_eq_true', beq_eq_false_iff_ne, ne_eq]; omega
    have c3 : (b != b') = !(b == b') := rfl
    have c4 : (n != n') = !(n == n') := rfl
    have c5 : ((f : Int) != (f' : Int)) = !(f == f') := by rw [Bool.eq_iff_iff]; simp only [bne_iff_ne, Bool.not_eq_true', beq_eq_false_iff_ne, ne_eq]; omega
    have c6 : ((l.length : Int) != (l'.length : Int)) = !(l.length == l'.length) := by rw [Bool.eq_iff_iff]; simp only [bne_iff_ne, Bool.not_eq_true', beq_eq_false_iff_ne, ne_eq]; omega
    cases h1 : (k == k')
    · skip
      rw [h1, Bool.not_false] at c1
      simp only [h1, Bool.true_and, Bool.false_and, Bool.and_false, Bool.and_true] at hrf
      clear c3
      clear c4
      clear c5
      clear c6
      subst hrf
      rw [Bool.false_and]
      go_enter Tryd.func24, Tryd.ntmps24
      go_wp2
      repeat (go_quiet (fail); try go_wp2)
      go_ret
      exact ⟨rfl, by first | exact HW0.out | exact pw_below_drewN HW0.out _⟩
    cases h2 : (s.toList == s'.toList)
    · skip
      rw [h1, Bool.not_true] at c1
      simp only [h1, h2, Bool.true_and, Bool.false_and, Bool.and_false, Bool.and_true] at hrf
      clear c3
      clear c4
      clear c5
      clear c6
      subst hrf
      rw [Bool.false_and]
      go_enter Tryd.func24, Tryd.ntmps24
      go_wp2
      repeat (go_quiet (fail); try go_wp2)
      go_ret
      exact ⟨rfl, by first | exact HW0.out | exact pw_below_drewN HW0.out _⟩
    cases h3 : (b == b')
    · skip
      rw [h1, Bool.not_true] at c1
      rw [h3, Bool.not_false] at c3
      simp only [h1, h2, h3, Bool.true_and, Bool.false_and, Bool.and_false, Bool.and_true] at hrf
      clear c4
      clear c5
      clear c6
      subst hrf
      rw [Bool.false_and]
      go_enter Tryd.func24, Tryd.ntmps24
      go_wp2
      repeat (go_quiet (fail); try go_wp2)
      go_ret
      exact ⟨rfl, by first | exact HW0.out | exact pw_below_drewN HW0.out _⟩
    cases h4 : (n == n')
    · skip
      rw [h1, Bool.not_true] at c1
      rw [h3, Bool.not_true] at c3
      rw [h4, Bool.not_false] at c4
      simp only [h1, h2, h3, h4, Bool.true_and, Bool.false_and, Bool.and_false, Bool.and_true] at hrf
      clear c5
      clear c6
      subst hrf
      rw [Bool.false_and]
      go_enter Tryd.func24, Tryd.ntmps24
      go_wp2
      repeat (go_quiet (fail); try go_wp2)
      go_ret
      exact ⟨rfl, by first | exact HW0.out | exact pw_below_drewN HW0.out _⟩
    cases h5 : (f == f')
    · skip
      rw [h1, Bool.not_true] at c1
      rw [h3, Bool.not_true] at c3
      rw [h4, Bool.not_true] at c4
      rw [h5, Bool.not_false] at c5
      simp only [h1, h2, h3, h4, h5, Bool.true_and, Bool.false_and, Bool.and_false, Bool.and_true] at hrf
      clear c6
      subst hrf
      rw [Bool.false_and]
      go_enter Tryd.func24, Tryd.ntmps24
      go_wp2
      repeat (go_quiet (fail); try go_wp2)
      go_ret
      exact ⟨rfl, by first | exact HW0.out | exact pw_below_drewN HW0.out _⟩
    cases h6 : (l.length == l'.length)
    · skip
      rw [h1, Bool.not_true] at c1
      rw [h3, Bool.not_true] at c3
      rw [h4, Bool.not_true] at c4
      rw [h5, Bool.not_true] at c5
      rw [h6, Bool.not_false] at c6
      simp only [h1, h2, h3, h4, h5, h6, Bool.true_and, Bool.false_and, Bool.and_false, Bool.and_true] at hrf
      subst hrf
      rw [Bool.false_and]
      go_enter Tryd.func24, Tryd.ntmps24
      go_wp2
      repeat (go_quiet (fail); try go_wp2)
      go_ret
      exact ⟨rfl, by first | exact HW0.out | exact pw_below_drewN HW0.out _⟩
    · skip
      rw [h1, Bool.not_true] at c1
      rw [h3, Bool.not_true] at c3
      rw [h4, Bool.not_true] at c4
      rw [h5, Bool.not_true] at c5
      rw [h6, Bool.not_true] at c6
      simp only [h1, h2, h3, h4, h5, h6, Bool.true_and] at hrf
      subst hrf
      rw [Bool.true_and]
      have hle : l.length = l'.length := by simpa using h6
      have HE := Lib.hid hle
      clear hle h6
      go_enter Tryd.func24, Tryd.ntmps24
      go_wp2
      repeat (go_quiet (fail); try go_wp2)
      go_loopw [5, 53] (fun i5 i wr => ∃ j : Nat, j ≤ l.length ∧ i = .int .i64 j ∧ Hid (Vs.sameL (l.take j) (l'.take j) = true) ∧ Hid (Two w'.heap.size ⟨k, s, b, n, f⟩ ⟨k', s', b', n', f'⟩ (.slice A l.length ca) (.slice B m.length cb) (.slice A' l'.length ca') (.slice B' m'.length cb') wr) ∧ Hid (Below w'.heap.size w' wr)) (fun _ i _ => l.length - (intOf i).toNat)
      case atStart => exact ⟨0, Nat.zero_le _, rfl, Lib.hid (by simp [Vs.sameL]), Lib.hid ⟨HT.out.1, HT.out.2⟩, Lib.hid (by first | exact HW0.out | exact pw_below_drewN HW0.out _)⟩
      case round =>
        obtain ⟨j, hj, rfl, HTK, HTW, HW⟩ := hrel
        obtain ⟨p0, p1, p2, p3, p4, p5, p6⟩ := box_cells HTW.out.1
        obtain ⟨r0, r1, r2, r3, r4, r5, r6⟩ := box_cells HTW.out.2
        clear p0 p1 p2 p3 p4 r0 r1 r2 r3 r4
        by_cases hjn : j < l.length
        · have hjm : j < l'.length := by have := HE.out; omega
          obtain ⟨x, hx⟩ : ∃ x, l[j]? = some x := ⟨l[j], List.getElem?_eq_getElem hjn⟩
          obtain ⟨y, hy⟩ : ∃ y, l'[j]? = some y := ⟨l'[j], List.getElem?_eq_getElem hjm⟩
          obtain ⟨ad, hAd, hat⟩ := HA.out j hjn
          obtain ⟨bd, hBd, hbt⟩ := HA2.out j hjm
          obtain ⟨A1, ca1, B1, cb1, hcs⟩ := (HC.out j x hx).cells
          obtain ⟨A2, ca2, B2, cb2, hds⟩ := (HC2.out j y hy).cells
          have hs := HI.out j x hx
          have hry := HC2.out j y hy
          have ht := Vs.sameL_take l l' j x y hx hy HTK.out
          have HTT := Lib.hid ht
          rw [hcs] at hat hs
          rw [hds] at hbt hry
          have HSS := Lib.hid hs
          have HRY := Lib.hid hry
          obtain ⟨c0, c1', c2, c3', c4', c5', c6'⟩ := at_cells _ (hat.below (HBW.out.trans (HW.out.mono HBW.out.size)))
          obtain ⟨d0, d1, d2, d3, d4, d5, d6⟩ := at_cells _ (hbt.below HW.out)
          clear hx hy hat hbt hcs hds hs hry ht
          subst hAd hBd
          go_wp2
          refine Rg.begin_calm [0, 1, 2, 3, 4, 5, 6, 7, 8, 9] (fun W => Below wr.heap.size wr W) (by kernel_rfl) ?_
          refine Rg.take_ (i := 0) (oi := ⟨some 56, _, _, _, _, _⟩) (v := .pointer (some ⟨w'.heap.size, 5, none⟩)) rfl (by simp) (by kernel_rfl) (fun _ _ _ h => h) (.inl ⟨by simp [Region.wanted, yielded], ?_⟩) ?_ ?_
          · intro W hW
            go_simp
          · exact (Below.refl wr.heap.size wr).drew
          simp only [Act.put, List.setIfInBounds_toArray, List.set_cons_zero, List.set_cons_succ]
          refine Rg.take_ (i := 1) (oi := ⟨some 57, _, _, _, _, _⟩) (v := .slice (some ad) l.length ca) rfl (by simp) (by kernel_rfl) (fun _ _ _ h => h) (.inl ⟨by simp [Region.wanted, yielded], ?_⟩) ?_ ?_
          · intro W hW
            have ep5 := (hW.cell (cell_lt p5)).trans p5
            go_simp
          · exact (Below.refl wr.heap.size wr).drew
          simp only [Act.put, List.setIfInBounds_toArray, List.set_cons_zero, List.set_cons_succ]
          refine Rg.take_ (i := 2) (oi := ⟨some 58, _, _, _, _, _⟩) (v := .int .i64 j) rfl (by simp) (by kernel_rfl) (fun _ _ _ h => h) (.inl ⟨by simp [Region.wanted, yielded], ?_⟩) ?_ ?_
          · intro W hW
            go_simp
          · exact (Below.refl wr.heap.size wr).drew
          simp only [Act.put, List.setIfInBounds_toArray, List.set_cons_zero, List.set_cons_succ]
          refine Rg.take_ (i := 3) (oi := ⟨some 59, _, _, _, _, _⟩) (v := .pointer (some (ad.add (j * 7)))) rfl (by simp) (by kernel_rfl) (fun _ _ _ h => h) (.inl ⟨by simp [Region.wanted, yielded], ?_⟩) ?_ ?_
          · intro W hW
            go_simp
          · exact (Below.refl wr.heap.size wr).drew
          simp only [Act.put, List.setIfInBounds_toArray, List.set_cons_zero, List.set_cons_succ]
          refine Rg.take_ (i := 4) (oi := ⟨some 60, _, _, _, _, _⟩) (v := .agg #[.int .u8 x.x.k, .string x.x.s, .bool x.x.b, .int .i64 x.x.n, .float .f64 x.x.f, .slice A1 x.l.length ca1, .slice B1 x.m.length cb1]) rfl (by simp) (by kernel_rfl) (fun _ _ _ h => h) (.inl ⟨by simp [Region.wanted, yielded], ?_⟩) ?_ ?_
          · intro W hW
            have ec0 := (hW.cell (cell_lt c0)).trans c0
            have ec1' := (hW.cell (cell_lt c1')).trans c1'
            have ec2 := (hW.cell (cell_lt c2)).trans c2
            have ec3' := (hW.cell (cell_lt c3')).trans c3'
            have ec4' := (hW.cell (cell_lt c4')).trans c4'
            have ec5' := (hW.cell (cell_lt c5')).trans c5'
            have ec6' := (hW.cell (cell_lt c6')).trans c6'
            go_simp
          · exact (Below.refl wr.heap.size wr).drew
          simp only [Act.put, List.setIfInBounds_toArray, List.set_cons_zero, List.set_cons_succ]
          refine Rg.take_ (i := 5) (oi := ⟨some 61, _, _, _, _, _⟩) (v := .pointer (some ⟨w'.heap.size + 1, 5, none⟩)) rfl (by simp) (by kernel_rfl) (fun _ _ _ h => h) (.inl ⟨by simp [Region.wanted, yielded], ?_⟩) ?_ ?_
          · intro W hW
            go_simp
          · exact (Below.refl wr.heap.size wr).drew
          simp only [Act.put, List.setIfInBounds_toArray, List.set_cons_zero, List.set_cons_succ]
          refine Rg.take_ (i := 6) (oi := ⟨some 62, _, _, _, _, _⟩) (v := .slice (some bd) l'.length ca') rfl (by simp) (by kernel_rfl) (fun _ _ _ h => h) (.inl ⟨by simp [Region.wanted, yielded], ?_⟩) ?_ ?_
          · intro W hW
            have er5 := (hW.cell (cell_lt r5)).trans r5
            go_simp
          · exact (Below.refl wr.heap.size wr).drew
          simp only [Act.put, List.setIfInBounds_toArray, List.set_cons_zero, List.set_cons_succ]
          refine Rg.take_ (i := 7) (oi := ⟨some 63, _, _, _, _, _⟩) (v := .int .i64 j) rfl (by simp) (by kernel_rfl) (fun _ _ _ h => h) (.inl ⟨by simp [Region.wanted, yielded], ?_⟩) ?_ ?_
          · intro W hW
            go_simp
          · exact (Below.refl wr.heap.size wr).drew
          simp only [Act.put, List.setIfInBounds_toArray, List.set_cons_zero, List.set_cons_succ]
          refine Rg.take_ (i := 8) (oi := ⟨some 64, _, _, _, _, _⟩) (v := .pointer (some (bd.add (j * 7)))) rfl (by simp) (by kernel_rfl) (fun _ _ _ h => h) (.inl ⟨by simp [Region.wanted, yielded], ?_⟩) ?_ ?_
          · intro W hW
            go_simp
          · exact (Below.refl wr.heap.size wr).drew
          simp only [Act.put, List.setIfInBounds_toArray, List.set_cons_zero, List.set_cons_succ]
          refine Rg.take_ (i := 9) (oi := ⟨some 65, _, _, _, _, _⟩) (v := .agg #[.int .u8 y.x.k, .string y.x.s, .bool y.x.b, .int .i64 y.x.n, .float .f64 y.x.f, .slice A2 y.l.length ca2, .slice B2 y.m.length cb2]) rfl (by simp) (by kernel_rfl) (fun _ _ _ h => h) (.inl ⟨by simp [Region.wanted, yielded], ?_⟩) ?_ ?_
          · intro W hW
            have ed0 := (hW.cell (cell_lt d0)).trans d0
            have ed1 := (hW.cell (cell_lt d1)).trans d1
            have ed2 := (hW.cell (cell_lt d2)).trans d2
            have ed3 := (hW.cell (cell_lt d3)).trans d3
            have ed4 := (hW.cell (cell_lt d4)).trans d4
            have ed5 := (hW.cell (cell_lt d5)).trans d5
            have ed6 := (hW.cell (cell_lt d6)).trans d6
            go_simp
          · exact (Below.refl wr.heap.size wr).drew
          simp only [Act.put, List.setIfInBounds_toArray, List.set_cons_zero, List.set_cons_succ]
          have hsm0 : Vs.same x y = false ∨ Vs.same x y = true := by cases Vs.same x y <;> simp
          rcases hsm0 with hsm | hsm
          · have hcall := HSS.out wr.drew (below_drewed (HBW.out.trans (HW.out.mono HBW.out.size))) y _ (HRY.out.lower (below_drewed HW.out))
            rw [hsm] at hcall
            refine Rg.step_call1 (j := 10) (o := { dst := some 66, op := .call { callee := .value (.func 24), args := #[.tmp 60, .tmp 65], argTypes := #[27, 27] }, type := 4, pos := _, after := _, guard := none }) (f := 24) rfl (by kernel_rfl) (by simp [Region.wanted, yielded]) (by unfold cellsV; go_simp) hcall ?_
            intro w2 hb
            have HW3 := Lib.hid (HW.out.trans ((below_undrew hb).mono HW.out.size))
            have HW4 := Lib.hid (below_undrew hb)
            have HTW2 := Lib.hid (HTW.out.below (below_undrew hb))
            clear hb hcall c0 c1' c2 c3' c4' c5' c6' d0 d1 d2 d3 d4 d5 d6 p5 p6 r5 r6 HTW
            simp only [Act.put, List.setIfInBounds_toArray, List.set_cons_zero, List.set_cons_succ]
            refine And.intro HW4.out ?_
            refine Rg.step_val (j := 11) (v := .bool true) (o := { dst := some 67, op := .unOp .not 4 (.tmp 66), type := 4, pos := _, after := _, guard := none }) rfl (by kernel_rfl) (by simp [Region.wanted, yielded]) (by go_simp) HW4.out ?_
            simp only [Act.put, List.setIfInBounds_toArray, List.set_cons_zero, List.set_cons_succ]
            refine Rg.done_ (by kernel_rfl) ?_ _
            refine Rg.Calm.normal ?_
            have hr : rl = false := by rw [HRL.out]; exact HTT.out.2 hsm
            go_wp2
            go_ret
            rw [hr, Bool.false_and]
            exact ⟨rfl, HW3.out⟩
          · have hcall := HSS.out wr.drew (below_drewed (HBW.out.trans (HW.out.mono HBW.out.size))) y _ (HRY.out.lower (below_drewed HW.out))
            rw [hsm] at hcall
            refine Rg.step_call1 (j := 10) (o := { dst := some 66, op := .call { callee := .value (.func 24), args := #[.tmp 60, .tmp 65], argTypes := #[27, 27] }, type := 4, pos := _, after := _, guard := none }) (f := 24) rfl (by kernel_rfl) (by simp [Region.wanted, yielded]) (by unfold cellsV; go_simp) hcall ?_
            intro w2 hb
            have HW3 := Lib.hid (HW.out.trans ((below_undrew hb).mono HW.out.size))
            have HW4 := Lib.hid (below_undrew hb)
            have HTW2 := Lib.hid (HTW.out.below (below_undrew hb))
            clear hb hcall c0 c1' c2 c3' c4' c5' c6' d0 d1 d2 d3 d4 d5 d6 p5 p6 r5 r6 HTW
            simp only [Act.put, List.setIfInBounds_toArray, List.set_cons_zero, List.set_cons_succ]
            refine And.intro HW4.out ?_
            refine Rg.step_val (j := 11) (v := .bool false) (o := { dst := some 67, op := .unOp .not 4 (.tmp 66), type := 4, pos := _, after := _, guard := none }) rfl (by kernel_rfl) (by simp [Region.wanted, yielded]) (by go_simp) HW4.out ?_
            simp only [Act.put, List.setIfInBounds_toArray, List.set_cons_zero, List.set_cons_succ]
            refine Rg.done_ (by kernel_rfl) ?_ _
            refine Rg.Calm.normal ?_
            go_wp2
            go_roundw
            case measure => simp [intOf]; omega
            case rel => exact ⟨j + 1, hjn, rfl, Lib.hid (by rw [HTT.out.1]; exact hsm), HTW2, HW3⟩
        · have hje : j = l.length := by omega
          have hr : rl = true := by
            rw [HRL.out]
            have h1 := HTK.out
            rw [hje, List.take_length, HE.out, List.take_length] at h1
            exact h1
          go_wp2_with fail
          refine (HEP.out _ HW.out).mono ?_
          rintro e w2 ⟨rfl, hb⟩
          have HW3 := Lib.hid (HW.out.trans (hb.mono HW.out.size))
          clear hb
          go_wp2
          go_ret
          rw [hr, Bool.true_and]
          exact ⟨rfl, HW3.out⟩
end Go.Proofs.YtbgfiflnfndckaaDoor
