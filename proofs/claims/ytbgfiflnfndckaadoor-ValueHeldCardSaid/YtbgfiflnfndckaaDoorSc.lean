/- The walks of Same and SamePairs themselves. No conditions but the kinds' own. -/
import Derived.Test.YtbgfiflnfndckaaDoorSb
import Derived.Test.YtbgfiflnfndckaaDoorVm
set_option linter.unusedVariables false
set_option linter.unusedSimpArgs false
namespace Go.Proofs.YtbgfiflnfndckaaDoor
open Go.RowKit Go.Proofs.YtbgfiflnfndckaaDoorW.PrintWords
attribute [local go_sem] run_store_float

theorem SameAt.lower {w w' : World} {v : Vs.V} {cs : Array Value} (h : SameAt w v cs) (hb : Below w.heap.size w w') : SameAt w' v cs := fun w2 hb2 => h w2 (hb.trans (hb2.mono hb.size))

set_option maxHeartbeats 1000000 in
set_option maxRecDepth 100000 in
theorem samepairs_of (m m' : List (ByteArray × Vs.V)) (B B' : Option Addr) (c d : Nat) (w : World) (Ds : Nat → Array Value) (hm : m.length * 112 ≤ 140737488351232)
    (hB : ∀ i p, m[i]? = some p → ∃ b, B = some b ∧ w.cell? (b.add (i * 8)) = some (.string p.1) ∧ p.1.size ≤ 140737488351232 ∧ At w ((b.add (i * 8)).add 1) (Ds i)) (hDs : ∀ i p, m[i]? = some p → Rd w p.2 (Ds i)) (hB2 : RdP w B' m')
    (hS : ∀ i v, m[i]? = some v → SameAt w v.2 (Ds i)) :
    Calls Tryd.prog 25 #[.slice B m.length c, .slice B' m'.length d] w fun e w' => e = .returned (.bool (Vs.sameP m m')) ∧ Below w.heap.size w w' := by
  have hq := equalp_calls m m' B B' c d w Ds hm hB hDs hB2 hS
  have HQ := Lib.hid hq
  clear hq hB hDs hB2 hS
  go_enter Tryd.func25, Tryd.ntmps25
  go_wp2_with fail
  refine HQ.out.mono ?_
  rintro e w1 ⟨rfl, hb⟩
  go_wp2
  go_ret
  exact ⟨rfl, hb⟩

set_option maxHeartbeats 2000000 in
set_option maxRecDepth 100000 in
theorem same_at {w : World} {v : Vs.V} {cs : Array Value} (h : Rd w v cs) : SameAt w v cs := by
  induction h with
  | mk x l m A ca B cb Cs Ds hx hl hm hA hCs hB hDs ih1 ih2 =>
    intro w' hb u ds hu
    obtain ⟨y, l', m', A', ca', B', cb', Cs', Ds', hx', hl', hm', hA', hCs', hB', hDs'⟩ := hu
    have hfl := flat_calls x y A B A' B' l.length ca m.length cb l'.length ca' m'.length cb'
    have hel : ∀ W, Below w'.heap.size w' W → Calls Tryd.prog 51 #[.slice A l.length ca, .slice A' l'.length ca', .func (.func 18) #[] #[]] W fun e w'' =>
        e = .returned (.bool (Vs.sameL l l')) ∧ Below W.heap.size W w'' := fun W hW => by
      have hWW : Below w.heap.size w W := hb.trans (hW.mono hb.size)
      refine equal_calls l l' A A' ca ca' W Cs hl (fun i hi => ?_) (fun i v hv => (hCs i v hv).lower hWW) ⟨Cs', hl', fun i hi => ?_, fun i v hv => (hCs' i v hv).lower hW⟩ (fun i v hv => (ih1 i v hv).lower hWW)
      · obtain ⟨a, h1, h2⟩ := hA i hi
        exact ⟨a, h1, h2.below hWW⟩
      · obtain ⟨a, h1, h2⟩ := hA' i hi
        exact ⟨a, h1, h2.below hW⟩
    have hep : ∀ W, Below w'.heap.size w' W → Calls Tryd.prog 25 #[.slice B m.length cb, .slice B' m'.length cb'] W fun e w'' =>
        e = .returned (.bool (Vs.sameP m m')) ∧ Below W.heap.size W w'' := fun W hW => by
      have hWW : Below w.heap.size w W := hb.trans (hW.mono hb.size)
      refine samepairs_of m m' B B' cb cb' W Ds hm (fun i p hp => ?_) (fun i v hv => (hDs i v hv).lower hWW) ⟨Ds', hm', fun i p hp => ?_, fun i v hv => (hDs' i v hv).lower hW⟩ (fun i v hv => (ih2 i v hv).lower hWW)
      · obtain ⟨b, h1, h2, h3, h4⟩ := hB i p hp
        exact ⟨b, h1, (hWW.cell (cell_lt h2)).trans h2, h3, h4.below hWW⟩
      · obtain ⟨b, h1, h2, h3, h4⟩ := hB' i p hp
        exact ⟨b, h1, (hW.cell (cell_lt h2)).trans h2, h3, h4.below hW⟩
    have HFL := Lib.hid hfl
    have HEL := Lib.hid hel
    have HEP := Lib.hid hep
    rw [Vs.same]
    generalize hrl : Vs.sameL l l' = rl at *
    generalize hrp : Vs.sameP m m' = rp at *
    generalize hrf : Vs.flat x y l.length l'.length m.length m'.length = rf at *
    clear hA hCs hB hDs ih1 ih2 hA' hCs' hB' hDs' hfl hel hep hrl hrp hrf hx hx' hb hl hm hl' hm'
    have HB0 := Lib.hid (show Below w'.heap.size w' ((w'.alloc (boxV x (.slice A l.length ca) (.slice B m.length cb))).alloc (boxV y (.slice A' l'.length ca') (.slice B' m'.length cb'))) from ((Below.refl _ _).alloc (Nat.le_refl _) _).alloc (by simp) _)
    have HX0 := Lib.hid (show ((w'.alloc (boxV x (.slice A l.length ca) (.slice B m.length cb))).alloc (boxV y (.slice A' l'.length ca') (.slice B' m'.length cb'))).heap[w'.heap.size]? = some (boxV x (.slice A l.length ca) (.slice B m.length cb)) from blk_alloc (blk_new _ _) _)
    have HY0 := Lib.hid (show ((w'.alloc (boxV x (.slice A l.length ca) (.slice B m.length cb))).alloc (boxV y (.slice A' l'.length ca') (.slice B' m'.length cb'))).heap[w'.heap.size + 1]? = some (boxV y (.slice A' l'.length ca') (.slice B' m'.length cb')) from by
      have := blk_new (w'.alloc (boxV x (.slice A l.length ca) (.slice B m.length cb))) (boxV y (.slice A' l'.length ca') (.slice B' m'.length cb'))
      simpa using this)
    unfold boxV cellsV at HB0
    unfold cellsV at *
    go_enter Tryd.func18, Tryd.ntmps18
    go_wp2_with fail
    refine (HFL.out _).mono ?_
    rintro e w1 ⟨rfl, hb⟩
    have HB1 := Lib.hid (HB0.out.trans (hb.mono HB0.out.size))
    obtain ⟨c0, c1, c2, c3, c4, c5, c6⟩ := box_cells (blk_below HX0.out hb)
    obtain ⟨d0, d1, d2, d3, d4, d5, d6⟩ := box_cells (blk_below HY0.out hb)
    have HX1 := Lib.hid (blk_below HX0.out hb)
    have HY1 := Lib.hid (blk_below HY0.out hb)
    clear hb HB0 HX0 HY0
    cases rf
    · go_wp2
      go_ret
      exact ⟨by simp, HB1.out⟩
    · go_wp2_with fail
      refine (HEL.out _ HB1.out).mono ?_
      rintro e w2 ⟨rfl, hb⟩
      have HB2 := Lib.hid (HB1.out.trans (hb.mono HB1.out.size))
      clear c0 c1 c2 c3 c4 c5 c6 d0 d1 d2 d3 d4 d5 d6
      obtain ⟨c0, c1, c2, c3, c4, c5, c6⟩ := box_cells (blk_below HX1.out hb)
      obtain ⟨d0, d1, d2, d3, d4, d5, d6⟩ := box_cells (blk_below HY1.out hb)
      clear hb HB1 HX1 HY1
      cases rl
      · go_wp2
        go_ret
        exact ⟨by simp, HB2.out⟩
      · go_wp2_with fail
        refine (HEP.out _ HB2.out).mono ?_
        rintro e w3 ⟨rfl, hb⟩
        have HB3 := Lib.hid (HB2.out.trans (hb.mono HB2.out.size))
        go_wp2
        go_ret
        exact ⟨by simp, HB3.out⟩
end Go.Proofs.YtbgfiflnfndckaaDoor
