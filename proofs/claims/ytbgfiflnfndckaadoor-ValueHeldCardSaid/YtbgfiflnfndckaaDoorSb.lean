/- The walk of SamePairs' parts; of Same and SamePairs themselves. No conditions but the kinds' own. -/
import Derived.Test.YtbgfiflnfndckaaDoorSa
set_option linter.unusedVariables false
set_option linter.unusedSimpArgs false
namespace Go.Proofs.YtbgfiflnfndckaaDoor
open Go.RowKit Go.Proofs.YtbgfiflnfndckaaDoorW.PrintWords
attribute [local go_sem] run_store_float

/-- A pair, as the program has it. -/
def cellsP (k : ByteArray) (x : Vs.Sc) (l m : Value) : Array Value := #[.string k, .int .u8 x.k, .string x.s, .bool x.b, .int .i64 x.n, .float .f64 x.f, l, m]
def boxP (k : ByteArray) (x : Vs.Sc) (l m : Value) : Obj := .cells (cellsP k x l m) 50 (0, 0)
theorem boxp_cells {w : World} {b : Nat} {k : ByteArray} {x : Vs.Sc} {l m : Value} (h : w.heap[b]? = some (boxP k x l m)) :
    w.cell? ⟨b, 0, none⟩ = some (.string k) ∧ w.cell? ⟨b, 1, none⟩ = some (.int .u8 x.k) ∧ w.cell? ⟨b, 2, none⟩ = some (.string x.s) ∧ w.cell? ⟨b, 3, none⟩ = some (.bool x.b) ∧ w.cell? ⟨b, 4, none⟩ = some (.int .i64 x.n) ∧
      w.cell? ⟨b, 5, none⟩ = some (.float .f64 x.f) ∧ w.cell? ⟨b, 6, none⟩ = some l ∧ w.cell? ⟨b, 7, none⟩ = some m :=
  ⟨blk_cell h 0, blk_cell h 1, blk_cell h 2, blk_cell h 3, blk_cell h 4, blk_cell h 5, blk_cell h 6, blk_cell h 7⟩
/-- The eight cells of a pair at a place, as a walk comes to them. -/
theorem at_pair {w : World} {a : Addr} {s : ByteArray} {x : Vs.Sc} {l m : Value} (k : Nat) (h0 : w.cell? (a.add k) = some (.string s)) (h : At w ((a.add k).add 1) (cellsV x l m)) :
    w.cell? (a.add k) = some (.string s) ∧ w.cell? ⟨(a.add k).block, (a.add k).off + 1, none⟩ = some (.int .u8 x.k) ∧ w.cell? ⟨(a.add k).block, (a.add k).off + 2, none⟩ = some (.string x.s) ∧ w.cell? ⟨(a.add k).block, (a.add k).off + 3, none⟩ = some (.bool x.b) ∧
      w.cell? ⟨(a.add k).block, (a.add k).off + 4, none⟩ = some (.int .i64 x.n) ∧ w.cell? ⟨(a.add k).block, (a.add k).off + 5, none⟩ = some (.float .f64 x.f) ∧ w.cell? ⟨(a.add k).block, (a.add k).off + 6, none⟩ = some l ∧ w.cell? ⟨(a.add k).block, (a.add k).off + 7, none⟩ = some m := by
  have e : ∀ j u, (cellsV x l m)[j]? = some u → w.cell? (a.add (k + (1 + j))) = some u := fun j u hj => by
    have := h j u hj
    rw [Go.Deep.add_add, Go.Deep.add_add] at this
    exact this
  refine ⟨h0, ?_, ?_, ?_, ?_, ?_, ?_, ?_⟩
  all_goals rw [← add_field _ _ _ (by omega)]
  · exact e 0 _ rfl
  · exact e 1 _ rfl
  · exact e 2 _ rfl
  · exact e 3 _ rfl
  · exact e 4 _ rfl
  · exact e 5 _ rfl
  · exact e 6 _ rfl

set_option maxHeartbeats 2000000 in
set_option maxRecDepth 100000 in
theorem pairsame_calls (k k' : ByteArray) (v u : Vs.V) (A B A' B' : Option Addr) (ca cb ca' cb' : Nat) (w0 w : World) (hb : Below w0.heap.size w0 w)
    (hS : SameAt w0 v (cellsV v.x (.slice A v.l.length ca) (.slice B v.m.length cb))) (hu : Rd w u (cellsV u.x (.slice A' u.l.length ca') (.slice B' u.m.length cb'))) :
    Calls Tryd.prog 61 #[.agg (cellsP k v.x (.slice A v.l.length ca) (.slice B v.m.length cb)), .agg (cellsP k' u.x (.slice A' u.l.length ca') (.slice B' u.m.length cb'))] w fun e w' =>
      e = .returned (.bool (k.toList == k'.toList && Vs.same v u)) ∧ Below w.heap.size w w' := by
  have HS := Lib.hid hS
  have HU := Lib.hid hu
  have HB := Lib.hid hb
  clear hS hu hb
  have HB2 := Lib.hid (show Below w.heap.size w ((w.alloc (.cells (cellsP k v.x (.slice A v.l.length ca) (.slice B v.m.length cb)) 50)).alloc (.cells (cellsP k' u.x (.slice A' u.l.length ca') (.slice B' u.m.length cb')) 50)) from ((Below.refl _ _).alloc (Nat.le_refl _) _).alloc (by simp) _)
  unfold cellsP at *
  cases hk : (k.toList == k'.toList)
  · rw [Bool.false_and]
    go_enter Tryd.func61, Tryd.ntmps61
    go_wp2
    go_ret
    exact ⟨rfl, HB2.out⟩
  · rw [Bool.true_and]
    go_enter Tryd.func61, Tryd.ntmps61
    go_wp2_with fail
    refine (HS.out _ (HB.out.trans (HB2.out.mono HB.out.size)) u _ (HU.out.lower HB2.out)).mono ?_
    rintro e w2 ⟨rfl, hb⟩
    have HB3 := Lib.hid (HB2.out.trans (hb.mono HB2.out.size))
    clear hb HB2
    go_wp2
    go_ret
    exact ⟨rfl, HB3.out⟩

set_option maxHeartbeats 2000000 in
set_option maxRecDepth 100000 in
theorem equalp_calls (l l' : List (ByteArray × Vs.V)) (A B : Option Addr) (c d : Nat) (w : World) (Cs : Nat → Array Value) (hl1 : l.length * 112 ≤ 140737488351232) (hA1 : ∀ i p, l[i]? = some p → ∃ b, A = some b ∧ w.cell? (b.add (i * 8)) = some (.string p.1) ∧ p.1.size ≤ 140737488351232 ∧ At w ((b.add (i * 8)).add 1) (Cs i)) (hCs : ∀ i p, l[i]? = some p → Rd w p.2 (Cs i)) (hB : RdP w B l')
    (hS2 : ∀ i v, l[i]? = some v → SameAt w v.2 (Cs i)) :
    Calls Tryd.prog 60 #[.slice A l.length c, .slice B l'.length d, .func (.func 61) #[] #[]] w fun e w' =>
      e = .returned (.bool (Vs.sameP l l')) ∧ Below w.heap.size w w' := by
  obtain ⟨Ds, hl2, hB1, hDs⟩ := hB
  have hu := Tryd.underlying50
  have hu2 := Tryd.underlying27
  obtain ⟨res, hres⟩ : ∃ r, r = Vs.sameP l l' := ⟨_, rfl⟩
  rw [← hres]
  have HR := Lib.hid hres
  have HA := Lib.hid hA1
  have HB := Lib.hid hB1
  have HC := Lib.hid hCs
  have HD := Lib.hid hDs
  have HS := Lib.hid hS2
  have hm1 : l.length ≤ 9223372036854775807 := by omega
  have hm2 : l'.length ≤ 9223372036854775807 := by omega
  clear hres hA1 hB1 hCs hDs hS2 hl1 hl2
  by_cases hle : l.length = l'.length
  · have hle1 : ((l.length : Int) != (l'.length : Int)) = false := by rw [bne_eq_false_iff_eq]; omega
    have HE := Lib.hid hle
    clear hle
    go_enter Tryd.func60, Tryd.ntmps60
    go_wp2
    go_loopw [7, 8, 9, 17] (fun i7 i8 i9 i wr => ∃ k : Nat, k ≤ l.length ∧ i = .int .i64 k ∧ Hid (Vs.sameP (l.take k) (l'.take k) = true) ∧ Hid (Below w.heap.size w wr)) (fun _ _ _ i _ => l.length - (intOf i).toNat)
    case atStart => exact ⟨0, Nat.zero_le _, rfl, Lib.hid (by simp [Vs.sameP]), Lib.hid (Below.refl _ _)⟩
    case round =>
      obtain ⟨k, hk, rfl, HT, HW⟩ := hrel
      by_cases hkn : k < l.length
      · have hkm : k < l'.length := by have := HE.out; omega
        obtain ⟨x, hx⟩ : ∃ x, l[k]? = some x := ⟨l[k], List.getElem?_eq_getElem hkn⟩
        obtain ⟨y, hy⟩ : ∃ y, l'[k]? = some y := ⟨l'[k], List.getElem?_eq_getElem hkm⟩
        obtain ⟨ad, hAd, hat0, hasz, hat⟩ := HA.out k x hx
        obtain ⟨bd, hBd, hbt0, hbsz, hbt⟩ := HB.out k y hy
        obtain ⟨A1, ca1, B1, cb1, hcs⟩ := (HC.out k x hx).cells
        obtain ⟨A2, ca2, B2, cb2, hds⟩ := (HD.out k y hy).cells
        have hs := HS.out k x hx
        have hry := HD.out k y hy
        have ht := Vs.sameP_take l l' k x y hx hy HT.out
        have HTT := Lib.hid ht
        rw [hcs] at hat hs
        rw [hds] at hbt hry
        have HSS := Lib.hid hs
        have HRY := Lib.hid hry
        obtain ⟨c0, c1, c2, c3, c4, c5, c6, c7⟩ := at_pair _ ((HW.out.cell (cell_lt hat0)).trans hat0) (hat.below HW.out)
        have hWa : Below w.heap.size w (wr.alloc (.cells (cellsP x.1 x.2.x (.slice A1 x.2.l.length ca1) (.slice B1 x.2.m.length cb1)) 50)) := HW.out.alloc HW.out.size _
        obtain ⟨d0, d1, d2, d3, d4, d5, d6, d7⟩ := at_pair _ ((hWa.cell (cell_lt hbt0)).trans hbt0) (hbt.below hWa)
        unfold cellsP at d0 d1 d2 d3 d4 d5 d6 d7
        clear hx hy hat hbt hat0 hbt0 hasz hbsz hWa hcs hds hs hry ht
        subst hAd hBd
        have HW2 := Lib.hid (show Below w.heap.size w ((wr.alloc (.cells (cellsP x.1 x.2.x (.slice A1 x.2.l.length ca1) (.slice B1 x.2.m.length cb1)) 50)).alloc (.cells (cellsP y.1 y.2.x (.slice A2 y.2.l.length ca2) (.slice B2 y.2.m.length cb2)) 50)) from (HW.out.alloc HW.out.size _).alloc (Nat.le_trans HW.out.size (by simp)) _)
        go_wp2_with fail
        refine (pairsame_calls x.1 y.1 x.2 y.2 A1 B1 A2 B2 ca1 cb1 ca2 cb2 w _ HW2.out HSS.out (HRY.out.lower HW2.out)).mono ?_
        rintro e w2 ⟨rfl, hb⟩
        have HW3 := Lib.hid (HW2.out.trans (hb.mono HW2.out.size))
        clear hb c0 c1 c2 c3 c4 c5 c6 c7 d0 d1 d2 d3 d4 d5 d6 d7 HW2
        cases hsame : (x.1.toList == y.1.toList && Vs.same x.2 y.2)
        · have hr : res = false := by rw [HR.out]; exact HTT.out.2 hsame
          have hnot : (!(x.1.toList == y.1.toList && Vs.same x.2 y.2)) = true := by rw [hsame]; rfl
          go_wp2
          go_ret
          rw [hr]
          exact ⟨rfl, HW3.out⟩
        · go_wp2
          go_roundw
          case measure => simp [intOf]; omega
          case rel => exact ⟨k + 1, hkn, rfl, Lib.hid (by rw [HTT.out.1]; exact hsame), HW3⟩
      · have hke : k = l.length := by omega
        have hr : res = true := by
          rw [HR.out]
          have h1 := HT.out
          rw [hke, List.take_length, HE.out, List.take_length] at h1
          exact h1
        go_wp2
        go_ret
        rw [hr]
        exact ⟨rfl, HW.out⟩
  · have hle1 : ((l.length : Int) != (l'.length : Int)) = true := by rw [bne_iff_ne]; omega
    have hr : res = false := by rw [HR.out]; exact Vs.sameP_len _ _ hle
    rw [hr]
    clear hle
    go_enter Tryd.func60, Tryd.ntmps60
    go_wp2
    go_ret
    exact ⟨rfl, Below.refl _ _⟩
end Go.Proofs.YtbgfiflnfndckaaDoor
