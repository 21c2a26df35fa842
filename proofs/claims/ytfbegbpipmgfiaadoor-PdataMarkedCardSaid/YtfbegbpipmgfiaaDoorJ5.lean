/- Joined from Lla, Llb, Llg, Llc, Llk, Llt, Ltl, Llo. No conditions. -/
import Derived.Test.YtfbegbpipmgfiaaDoorJ4
import Derived.Test.YtfbegbpipmgfiaaDoorJ2
import Derived.Test.YtfbegbpipmgfiaaDoorRows
import Derived.Lib.LaidU8T
import Derived.MakeChecks
section
/- pdata's reference: Alike, Same. No conditions but what types allow. -/
set_option linter.unusedVariables false
set_option linter.unusedSimpArgs false
set_option maxHeartbeats 4000000
set_option maxRecDepth 100000
namespace Go.Proofs.YtfbegbpipmgfiaaDoor.Lift
open Go Go.RowKit

theorem ralike_c {W0 : World} (a b : Gr) : APure Tryd.prog W0 23 [ga a, ga b] (· = .ret (.d (.v (.bool (alikeB a b))))) := by
  have h1 := rsameGP_of (W0 := W0) a.res b.res fun p _ y => rsameG_c p.2 y
  have h2 := rsameGP_of (W0 := W0) a.attrs b.attrs fun p _ y => rsameG_c p.2 y
  simp only [rP] at h1 h2
  have he : alikeB a b = (sameP a.res b.res && (a.scope.toList == b.scope.toList) && (a.ver.toList == b.ver.toList) && sameP a.attrs b.attrs) := by
    unfold alikeB
    cases sameP a.res b.res <;> cases sameP a.attrs b.attrs <;> cases (a.scope.toList == b.scope.toList) <;> cases (a.ver.toList == b.ver.toList) <;> rfl
  rw [he]
  refine A_body Tryd.func23 rfl (Nat.le_of_ble_eq_true rfl) ?_
  simp only [go_sem, Tryd.ntmps23, Tryd.results23, mkEnv]
  repeat (first | refine wS ?_ | refine wB ?_ | (refine wR ?_; simp only [go_sem]) | (refine wT ?_ ?_; focus (simp only [go_sem]; done)) | (refine wF ?_ ?_; focus (simp only [go_sem]; done)) | (refine wK ?_; try simp only [go_sem]) | (refine wE ?_; try simp only [go_sem]) | refine wX ?_)
  refine wC (h1) ?_
  simp only [go_sem]
  repeat (first | refine wS ?_ | refine wB ?_ | (refine wR ?_; simp only [go_sem]) | (refine wT ?_ ?_; focus (simp only [go_sem]; done)) | (refine wF ?_ ?_; focus (simp only [go_sem]; done)) | (refine wK ?_; try simp only [go_sem]) | (refine wE ?_; try simp only [go_sem]) | refine wX ?_)
  refine wCG (fun hh => h2) ?_
  simp only [go_sem]
  repeat (first | refine wS ?_ | refine wB ?_ | (refine wR ?_; simp only [go_sem]) | (refine wT ?_ ?_; focus (simp only [go_sem]; done)) | (refine wF ?_ ?_; focus (simp only [go_sem]; done)) | (refine wK ?_; try simp only [go_sem]) | (refine wE ?_; try simp only [go_sem]) | refine wX ?_)
  exact wRq
def sameGB (a b : Gr) : Bool := alikeB a b && eqL sameI a.items b.items
def sameDa (a b : Da) : Bool := ((a.sig : Int) == (b.sig : Int)) && eqL sameGB a.gs b.gs
theorem rsameD_c {W0 : World} (a b : Da) (ha : okD a) : APure Tryd.prog W0 18 [xa a, xa b] (· = .ret (.d (.v (.bool (sameDa a b))))) := by
  have hg8 := ha.gs.1
  refine A_body Tryd.func18 rfl (Nat.le_of_ble_eq_true rfl) ?_
  simp only [go_sem, Tryd.ntmps18, Tryd.results18, mkEnv]
  repeat (first | refine wS ?_ | refine wB ?_ | (refine wR ?_; simp only [go_sem]) | (refine wT ?_ ?_; focus (simp only [go_sem]; done)) | (refine wF ?_ ?_; focus (simp only [go_sem]; done)) | (refine wK ?_; try simp only [go_sem]) | (refine wE ?_; try simp only [go_sem]) | refine wX ?_)
  refine wI (fun h => ?_) (fun h => ?_)
  · have he : sameDa a b = false := by
      cases hs : sameDa a b with
      | false => rfl
      | true =>
        exfalso
        simp only [sameDa, Bool.and_eq_true, beq_iff_eq] at hs
        have hl : a.gs.length = b.gs.length := Decidable.byContradiction fun e => by
          have := eqL_len sameGB a.gs b.gs e
          rw [this] at hs
          cases hs.2
        simp [hs.1, hl] at h
    repeat (first | refine wS ?_ | refine wB ?_ | (refine wR ?_; simp only [go_sem]) | (refine wT ?_ ?_; focus (simp only [go_sem]; done)) | (refine wF ?_ ?_; focus (simp only [go_sem]; done)) | (refine wK ?_; try simp only [go_sem]) | (refine wE ?_; try simp only [go_sem]) | refine wX ?_)
    simp only [Thn, InB]
    rw [he]
    exact wRq
  · have hs : ((a.sig : Int) == (b.sig : Int)) = true ∧ a.gs.length = b.gs.length := by
      simp only [Bool.or_eq_false_iff, bne_eq_false_iff_eq] at h
      exact ⟨by rw [h.1]; exact beq_self_eq_true _, by omega⟩
    have hl := hs.2
    unfold sameDa
    rw [hs.1, Bool.true_and]
    repeat (first | refine wS ?_ | refine wB ?_ | (refine wR ?_; simp only [go_sem]) | (refine wT ?_ ?_; focus (simp only [go_sem]; done)) | (refine wF ?_ ?_; focus (simp only [go_sem]; done)) | (refine wK ?_; try simp only [go_sem]) | (refine wE ?_; try simp only [go_sem]) | refine wX ?_)
    refine wL (fun i => ⟨69, ofL [(2, .ptr 0 0), (3, .ptr 1 0), (24, rG a.gs), (25, .d (.v (.int .i64 a.gs.length))), (26, .d (.v (.int .i64 (i : Nat))))], [.var ((daD a).map .d), .var ((daD b).map .d)]⟩) (a.gs.length) (fun i => eqL sameGB (a.gs.take i) (b.gs.take i) = true) wSb (rfl) ?_
    intro i hi hinv R hR
    simp only [go_sem]
    repeat (first | refine wS ?_ | refine wB ?_ | (refine wR ?_; simp only [go_sem]) | (refine wT ?_ ?_; focus (simp only [go_sem]; done)) | (refine wF ?_ ?_; focus (simp only [go_sem]; done)) | (refine wK ?_; try simp only [go_sem]) | (refine wE ?_; try simp only [go_sem]) | refine wX ?_)
    refine wI (fun h => ?_) (fun h => ?_)
    · have hlt : i < a.gs.length := by simpa using h
      have hlt2 : ((i : Int) < ((a.gs.length : Nat) : Int)) = True := eq_true (by omega)
      have hw := wrap_succ (i := i) (by omega)
      have hlt' : i < b.gs.length := by omega
      have hx : (a.gs.map grD)[i]? = some (grD a.gs[i]) := by rw [List.getElem?_map, List.getElem?_eq_getElem hlt]; rfl
      have hy : (b.gs.map grD)[i]? = some (grD b.gs[i]) := by rw [List.getElem?_map, List.getElem?_eq_getElem hlt']; rfl
      obtain ⟨h1, h2⟩ := eqL_take sameGB a.gs b.gs i a.gs[i] b.gs[i] (List.getElem?_eq_getElem hlt) (List.getElem?_eq_getElem hlt') hinv
      have hgo := ha.gs.2 a.gs[i] (List.getElem_mem hlt)
      generalize a.gs[i] = x at hx h1 h2 hgo
      generalize b.gs[i] = y at hy h1 h2
      have hal := ralike_c (W0 := W0) x y
      have hi8 := hgo.items.1
      have hR0 := hR
      have hlt0 := hlt
      have hw0 := hw
      repeat (first | refine wS ?_ | refine wB ?_ | (refine wR ?_; simp only [go_sem, hx, hy]) | (refine wT ?_ ?_; focus (simp only [go_sem]; done)) | (refine wF ?_ ?_; focus (simp only [go_sem]; done)) | (refine wK ?_; try simp only [go_sem, hx, hy]) | (refine wE ?_; try simp only [go_sem, hx, hy]) | refine wX ?_)
      refine wC (hal) ?_
      simp only [go_sem]
      repeat (first | refine wS ?_ | refine wB ?_ | (refine wR ?_; simp only [go_sem]) | (refine wT ?_ ?_; focus (simp only [go_sem]; done)) | (refine wF ?_ ?_; focus (simp only [go_sem]; done)) | (refine wK ?_; try simp only [go_sem]) | (refine wE ?_; try simp only [go_sem]) | refine wX ?_)
      refine wI (fun h => ?_) (fun h => ?_)
      · have he : sameGB x y = false := by
          cases hs : sameGB x y with
          | false => rfl
          | true =>
            exfalso
            simp only [sameGB, Bool.and_eq_true] at hs
            have hl : x.items.length = y.items.length := Decidable.byContradiction fun e => by
              have := eqL_len sameI x.items y.items e
              rw [this] at hs
              cases hs.2
            simp [hs.1, hl] at h
        repeat (first | refine wS ?_ | refine wB ?_ | (refine wR ?_; simp only [go_sem]) | (refine wT ?_ ?_; focus (simp only [go_sem]; done)) | (refine wF ?_ ?_; focus (simp only [go_sem]; done)) | (refine wK ?_; try simp only [go_sem]) | (refine wE ?_; try simp only [go_sem]) | refine wX ?_)
        simp only [Thn, InB]
        rw [h2 he]
        exact wRq
      · have hs : alikeB x y = true ∧ x.items.length = y.items.length := by
          simp only [Bool.or_eq_false_iff, bne_eq_false_iff_eq, Bool.not_eq_false'] at h
          exact ⟨h.1, by omega⟩
        have hg0 : sameGB x y = eqL sameI x.items y.items := by rw [sameGB, hs.1, Bool.true_and]
        have hli := hs.2
        rw [hg0] at h1 h2
        repeat (first | refine wS ?_ | refine wB ?_ | (refine wR ?_; simp only [go_sem]) | (refine wT ?_ ?_; focus (simp only [go_sem]; done)) | (refine wF ?_ ?_; focus (simp only [go_sem]; done)) | (refine wK ?_; try simp only [go_sem]) | (refine wE ?_; try simp only [go_sem]) | refine wX ?_)
        refine wL (fun j => ⟨69, ofL [(2, .ptr 0 0), (3, .ptr 1 0), (24, rG a.gs), (25, .d (.v (.int .i64 a.gs.length))), (26, .d (.v (.int .i64 (i : Nat)))), (6, .ptr 2 0), (7, .ptr 3 0), (51, .d (.v (.int .i64 x.items.length))), (52, .d (.v (.int .i64 (j : Nat))))], [.var ((daD a).map .d), .var ((daD b).map .d), .var ((grD x).map .d), .var ((grD y).map .d)]⟩) (x.items.length) (fun j => eqL sameI (x.items.take j) (y.items.take j) = true) wSb (rfl) ?_
        intro j hi hinv R hR
        simp only [go_sem]
        repeat (first | refine wS ?_ | refine wB ?_ | (refine wR ?_; simp only [go_sem]) | (refine wT ?_ ?_; focus (simp only [go_sem]; done)) | (refine wF ?_ ?_; focus (simp only [go_sem]; done)) | (refine wK ?_; try simp only [go_sem]) | (refine wE ?_; try simp only [go_sem]) | refine wX ?_)
        refine wI (fun h => ?_) (fun h => ?_)
        · have hlt : j < x.items.length := by simpa using h
          have hlt2 : ((j : Int) < ((x.items.length : Nat) : Int)) = True := eq_true (by omega)
          have hw := wrap_succ (i := j) (by omega)
          have hlt' : j < y.items.length := by omega
          have hu : (x.items.map itD)[j]? = some (itD x.items[j]) := by rw [List.getElem?_map, List.getElem?_eq_getElem hlt]; rfl
          have hv : (y.items.map itD)[j]? = some (itD y.items[j]) := by rw [List.getElem?_map, List.getElem?_eq_getElem hlt']; rfl
          obtain ⟨h3, h4⟩ := eqL_take sameI x.items y.items j x.items[j] y.items[j] (List.getElem?_eq_getElem hlt) (List.getElem?_eq_getElem hlt') hinv
          have hc := rsameI_c (W0 := W0) x.items[j] y.items[j] (hgo.items.2 _ (List.getElem_mem hlt))
          generalize x.items[j] = u at hu h3 h4 hc
          generalize y.items[j] = v at hv h3 h4 hc
          simp only [ia, itD, List.map_cons, List.map_nil] at hc
          repeat (first | refine wS ?_ | refine wB ?_ | (refine wR ?_; simp only [go_sem, hu, hv]) | (refine wT ?_ ?_; focus (simp only [go_sem]; done)) | (refine wF ?_ ?_; focus (simp only [go_sem]; done)) | (refine wK ?_; try simp only [go_sem, hu, hv]) | (refine wE ?_; try simp only [go_sem, hu, hv]) | refine wX ?_)
          refine wQ ?_ mixedO (by kernel_rfl)
          simp only [go_sem, hu, hv]
          repeat (first | refine wS ?_ | refine wB ?_ | (refine wR ?_; simp only [go_sem, hu, hv]) | (refine wT ?_ ?_; focus (simp only [go_sem]; done)) | (refine wF ?_ ?_; focus (simp only [go_sem]; done)) | (refine wK ?_; try simp only [go_sem, hu, hv]) | (refine wE ?_; try simp only [go_sem, hu, hv]) | refine wX ?_)
          refine wQC (hc) ?_
          simp only [go_sem, hu, hv]
          repeat (first | refine wS ?_ | refine wB ?_ | (refine wR ?_; simp only [go_sem, hu, hv]) | (refine wT ?_ ?_; focus (simp only [go_sem]; done)) | (refine wF ?_ ?_; focus (simp only [go_sem]; done)) | (refine wK ?_; try simp only [go_sem, hu, hv]) | (refine wE ?_; try simp only [go_sem, hu, hv]) | refine wX ?_)
          cases hs : sameI u v with
          | false =>
            repeat (first | refine wS ?_ | refine wB ?_ | (refine wR ?_; simp only [go_sem, hs]) | (refine wT ?_ ?_; focus (simp only [go_sem]; done)) | (refine wF ?_ ?_; focus (simp only [go_sem]; done)) | (refine wK ?_; try simp only [go_sem, hs]) | (refine wE ?_; try simp only [go_sem, hs]) | refine wX ?_)
            simp only [Thn, InB]
            rw [h2 (h4 hs)]
            exact wRq
          | true =>
            repeat (first | refine wS ?_ | refine wB ?_ | (refine wR ?_; simp only [go_sem, hs, hw]) | (refine wT ?_ ?_; focus (simp only [go_sem]; done)) | (refine wF ?_ ?_; focus (simp only [go_sem]; done)) | (refine wK ?_; try simp only [go_sem, hs, hw]) | (refine wE ?_; try simp only [go_sem, hs, hw]) | refine wX ?_)
            exact hR hlt (by rw [h3, hs]) _ wSb
        · obtain rfl : j = x.items.length := by simp at h; omega
          have he : eqL sameI x.items y.items = true := by
            have := hinv
            rwa [List.take_of_length_le (Nat.le_refl _), List.take_of_length_le (by omega)] at this
          repeat (first | refine wS ?_ | refine wB ?_ | (refine wR ?_; simp only [go_sem, hw0]) | (refine wT ?_ ?_; focus (simp only [go_sem]; done)) | (refine wF ?_ ?_; focus (simp only [go_sem]; done)) | (refine wK ?_; try simp only [go_sem, hw0]) | (refine wE ?_; try simp only [go_sem, hw0]) | refine wX ?_)
          exact hR0 hlt0 (by rw [h1, he]) _ wSb
    · obtain rfl : i = a.gs.length := by simp at h; omega
      repeat (first | refine wS ?_ | refine wB ?_ | (refine wR ?_; simp only [go_sem]) | (refine wT ?_ ?_; focus (simp only [go_sem]; done)) | (refine wF ?_ ?_; focus (simp only [go_sem]; done)) | (refine wK ?_; try simp only [go_sem]) | (refine wE ?_; try simp only [go_sem]) | refine wX ?_)
      have he : eqL sameGB a.gs b.gs = true := by
        have := hinv
        rwa [List.take_of_length_le (Nat.le_refl _), List.take_of_length_le (by omega)] at this
      rw [he]
      exact wRq
end Go.Proofs.YtfbegbpipmgfiaaDoor.Lift
end
section
/- pdata: what Split, Keep, Merge, Tidy come to, of right data. Plain laws. No conditions. -/
set_option linter.unusedVariables false
set_option linter.unusedSimpArgs false
set_option maxHeartbeats 4000000
set_option maxRecDepth 100000
namespace Go.Proofs.YtfbegbpipmgfiaaDoor.Lift
open Go Go.RowKit

theorem sameGB_iff {a b : Gr} : sameGB a b = true ↔ a = b := by
  have h1 := eqL_iff (p := sameI) (l := a.items) (l' := b.items) fun x _ y => sameI_iff
  simp only [sameGB, Bool.and_eq_true, alikeB_iff, h1]
  obtain ⟨a1, a2, a3, a4, a5⟩ := a
  obtain ⟨b1, b2, b3, b4, b5⟩ := b
  simp only [withI, Gr.mk.injEq, and_true]
  exact ⟨fun ⟨⟨a, b, c, d⟩, e⟩ => ⟨a, b, c, d, e⟩, fun ⟨a, b, c, d, e⟩ => ⟨⟨a, b, c, d⟩, e⟩⟩
theorem sameDa_iff {a b : Da} : sameDa a b = true ↔ a = b := by
  have h1 := eqL_iff (p := sameGB) (l := a.gs) (l' := b.gs) fun x _ y => sameGB_iff
  simp only [sameDa, Bool.and_eq_true, h1, beq_iff_eq, Int.natCast_inj]
  obtain ⟨a1, a2⟩ := a
  obtain ⟨b1, b2⟩ := b
  simp only [Da.mk.injEq]
/-- Groups that have items. -/
def someG (gs : List Gr) : List Gr := gs.filter fun g => !g.items.isEmpty
theorem rawG_some (n : Int) : ∀ {gs : List Gr} {k : Nat}, ((k + nIt gs : Nat) : Int) ≤ n → rawG (fun i => decide ((i : Int) < n)) k gs = someG gs
  | [], _, _ => rfl
  | g :: gs, k, h => by
    rw [nIt_cons] at h
    rw [rawG, pickT_lt, List.take_of_length_le (by omega), rawG_some n (gs := gs) (by omega), someG, someG, List.filter_cons]
    by_cases hg : g.items = []
    · rw [if_pos hg, hg]
      rfl
    · have : (!g.items.isEmpty) = true := by simpa using hg
      rw [if_neg hg, this, withI_self]
      rfl
theorem someG_mem {gs : List Gr} {g : Gr} (h : g ∈ someG gs) : g ∈ gs ∧ g.items ≠ [] := by
  obtain ⟨h1, h2⟩ := List.mem_filter.1 h
  exact ⟨h1, by simpa using h2⟩
theorem someG_self {gs : List Gr} (h : ∀ g ∈ gs, g.items ≠ []) : someG gs = gs := List.filter_eq_self.2 fun g hg => by simpa using h g hg
theorem allI_some (gs : List Gr) : allI (someG gs) = allI gs := by
  induction gs with
  | nil => rfl
  | cons g gs ih =>
    rw [someG, List.filter_cons]
    split
    · rw [allI_cons, allI_cons, ← ih]; rfl
    · rename_i h
      have : g.items = [] := by simpa using h
      rw [allI_cons, this, List.nil_append, ← ih]
      rfl
theorem ofH_some (h : Gr) (gs : List Gr) : ofH h (someG gs) = ofH h gs := by
  induction gs with
  | nil => rfl
  | cons g gs ih =>
    rw [someG, List.filter_cons]
    split
    · rw [ofH, ofH, ← ih]; rfl
    · rename_i h1
      have : g.items = [] := by simpa using h1
      rw [ofH, this, ← ih]
      simp only [List.nil_append, ite_self]
      rfl
theorem splE_ok {d : Da} {n : Int} (h : daE d = 0) : splE d n = if 0 ≤ n then 0 else 2 := by
  unfold splE
  rw [h]
  by_cases hn : 0 ≤ n
  · rw [if_pos (decide_eq_true hn), if_pos hn]; rfl
  · rw [if_neg (by simpa using hn), if_neg hn]; rfl
theorem splE_no {d : Da} {n : Int} (h : daE d ≠ 0) : splE d n = daE d := by
  unfold splE
  rw [fst0_pos h]
theorem spl_ok {d : Da} {n : Int} (h : daE d = 0) (hn : 0 ≤ n) : splR d n = (⟨d.sig, rawG (fun i => decide ((i : Int) < n)) 0 d.gs⟩, ⟨d.sig, rawG (fun i => decide (n ≤ (i : Int))) 0 d.gs⟩, 0) := by
  unfold splR
  rw [splE_ok h, if_pos hn, if_pos rfl, choD_raw h, choD_raw h]
theorem spl_no {d : Da} {n : Int} (h : splE d n ≠ 0) : splR d n = (d0, d0, splE d n) := by
  unfold splR
  rw [if_neg h]
theorem mg_ok {a b : Da} (ha : daE a = 0) (hb : daE b = 0) (hs : a.sig = b.sig) (hn : nIt a.gs + nIt b.gs ≤ 1024) : mergeR a b = if (putsR a.gs b.gs).length ≤ 64 then (⟨a.sig, putsR a.gs b.gs⟩, 0) else (d0, 3) := by
  have h0 : mgE a b = 0 := by
    unfold mgE
    rw [ha, hb, if_pos hs, if_pos hn]
    rfl
  have h1 : mgOut a b = putsR a.gs b.gs := by
    unfold mgOut
    rw [putAll_true [] (daE_iff.1 ha).2.2.2, putAll_false _ (daE_iff.1 hb).2.2.2, List.nil_append]
  unfold mergeR
  rw [if_pos h0, h1]
theorem putR_le (o : List Gr) (g : Gr) : (putR o g).length ≤ o.length + 1 := by
  unfold putR
  split
  · rw [addAt_len]; omega
  · simp
theorem putsR_le : ∀ (gs o : List Gr), (putsR o gs).length ≤ o.length + gs.length
  | [], o => Nat.le_refl _
  | g :: gs, o => by
    have h1 := putsR_le gs (putR o g)
    have h2 := putR_le o g
    simp only [putsR, List.foldl_cons, List.length_cons] at h1 ⊢
    omega
theorem putR_nIt (o : List Gr) (g : Gr) : nIt (putR o g) = nIt o + g.items.length := by
  unfold putR
  split
  · rename_i i hi
    obtain ⟨x, hx, _⟩ := fI_at hi
    rw [addAt_nIt (List.getElem?_eq_some_iff.1 hx).1]
  · rw [nIt_app]
    simp [nIt]
theorem putsR_nIt : ∀ (gs o : List Gr), nIt (putsR o gs) = nIt o + nIt gs
  | [], o => rfl
  | g :: gs, o => by
    have h1 := putsR_nIt gs (putR o g)
    have h2 := putR_nIt o g
    simp only [putsR, List.foldl_cons] at h1 ⊢
    rw [h1, h2, nIt_cons]
    omega
theorem puts_ok {a b : Da} (ha : daE a = 0) (hb : daE b = 0) (hs : a.sig = b.sig) (hn : nIt a.gs + nIt b.gs ≤ 1024) (hl : (putsR a.gs b.gs).length ≤ 64) : daE ⟨a.sig, putsR a.gs b.gs⟩ = 0 := by
  obtain ⟨h1, h2, h3, h4⟩ := daE_iff.1 ha
  obtain ⟨h5, h6, h7, h8⟩ := daE_iff.1 hb
  refine daE_iff.2 ⟨h1, hl, ?_, putsR_right h4 (by rw [hs]; exact h8)⟩
  rw [putsR_nIt]
  exact hn
/-- What is tidy. -/
def tidyG (d : Da) : List Gr := putsR [] (someG d.gs)
theorem tidy_no {d : Da} (h : daE d ≠ 0) : tidyR d = (d0, daE d) := by
  have h1 := splE_no (n := 1024) h
  unfold tidyR
  rw [spl_no (by rw [h1]; exact h), h1, if_neg h]
theorem nIt_some (gs : List Gr) : nIt (someG gs) = nIt gs := by rw [← allI_len, allI_some, allI_len]
theorem someG_ok {d : Da} (h : daE d = 0) : daE ⟨d.sig, someG d.gs⟩ = 0 := by
  obtain ⟨h1, h2, h3, h4⟩ := daE_iff.1 h
  exact daE_iff.2 ⟨h1, Nat.le_trans (List.length_filter_le _ _) h2, by rw [nIt_some]; exact h3, fun g hg => h4 g (someG_mem hg).1⟩
theorem tidyG_len {d : Da} (h : daE d = 0) : (tidyG d).length ≤ 64 := by
  have h1 := putsR_le (someG d.gs) []
  have h2 := (daE_iff.1 (someG_ok h)).2.1
  simp only [List.length_nil] at h1 h2
  unfold tidyG
  omega
theorem tidy_ok {d : Da} (h : daE d = 0) : tidyR d = (⟨d.sig, tidyG d⟩, 0) := by
  obtain ⟨h1, h2, h3, h4⟩ := daE_iff.1 h
  have hr : rawG (fun i => decide ((i : Int) < 1024)) 0 d.gs = someG d.gs := rawG_some 1024 (by omega)
  have he : daE ⟨d.sig, []⟩ = 0 := daE_iff.2 ⟨h1, by simp, by simp [nIt], fun g hg => by cases hg⟩
  have hl := tidyG_len h
  unfold tidyG at hl ⊢
  unfold tidyR
  rw [spl_ok h (by decide)]
  simp only [hr, if_true]
  rw [mg_ok he (someG_ok h) rfl (by rw [nIt_some]; simp [nIt] at h3 ⊢; omega), if_pos hl]
theorem tidyG_uniq (d : Da) : uniqG (tidyG d) := putsR_uniq List.Pairwise.nil
theorem tidyG_some (d : Da) : ∀ g ∈ tidyG d, g.items ≠ [] := putsR_some (fun g hg => by cases hg) fun g hg => (someG_mem hg).2
theorem tidyG_nIt (d : Da) : nIt (tidyG d) = nIt d.gs := by
  unfold tidyG
  rw [putsR_nIt, nIt_some]
  simp [nIt]
theorem tidyG_ok {d : Da} (h : daE d = 0) : daE ⟨d.sig, tidyG d⟩ = 0 := by
  obtain ⟨h1, h2, h3, h4⟩ := daE_iff.1 (someG_ok h)
  refine daE_iff.2 ⟨h1, tidyG_len h, ?_, putsR_right (fun g hg => by cases hg) h4⟩
  simp only
  rw [tidyG_nIt, ← nIt_some]
  exact h3
theorem tidyG_of (d : Da) : ∀ g ∈ tidyG d, ofH g d.gs = g.items := by
  intro g hg
  rw [← ofH_uniq (tidyG_uniq d) g hg]
  unfold tidyG
  rw [putsR_of g List.Pairwise.nil, List.nil_append, ofH_some]
theorem tidyG_twice {d : Da} (h : daE d = 0) : tidyR ⟨d.sig, tidyG d⟩ = (⟨d.sig, tidyG d⟩, 0) := by
  rw [tidy_ok (tidyG_ok h)]
  have : tidyG ⟨d.sig, tidyG d⟩ = tidyG d := by
    have h1 : someG (tidyG d) = tidyG d := someG_self (tidyG_some d)
    show putsR [] (someG (tidyG d)) = tidyG d
    rw [h1, putsR_uniq_id (by rw [List.nil_append]; exact tidyG_uniq d), List.nil_append]
  rw [this]
/-- Split anywhere and put together. -/
theorem joined {d : Da} (h : daE d = 0) {n : Int} (hn : 0 ≤ n) : mergeR (splR ⟨d.sig, tidyG d⟩ n).1 (splR ⟨d.sig, tidyG d⟩ n).2.1 = (⟨d.sig, tidyG d⟩, 0) := by
  have ht := tidyG_ok h
  have hb := split_back n (gs := tidyG d) (o := []) (k := 0) (by rw [List.nil_append]; exact tidyG_uniq d) (tidyG_some d)
  rw [List.nil_append, List.nil_append] at hb
  rw [spl_ok ht hn]
  simp only
  have h1 := rawG_ok (p := fun i => decide ((i : Int) < n)) ht 0
  have h2 := rawG_ok (p := fun i => decide (n ≤ (i : Int))) ht 0
  have hnI : nIt (rawG (fun i => decide ((i : Int) < n)) 0 (tidyG d)) + nIt (rawG (fun i => decide (n ≤ (i : Int))) 0 (tidyG d)) = nIt (tidyG d) := by
    rw [← allI_len, ← allI_len, ← allI_len, rawG_all, rawG_all, pickT_lt, pickT_ge, List.length_take, List.length_drop]
    omega
  rw [mg_ok h1 h2 rfl (by rw [hnI]; exact (daE_iff.1 ht).2.2.1), hb, if_pos (tidyG_len h)]
end Go.Proofs.YtfbegbpipmgfiaaDoor.Lift
end
section
/- pdata: logs(2, 2). No conditions. -/
set_option linter.unusedVariables false
set_option linter.unusedSimpArgs false
set_option maxHeartbeats 4000000
set_option maxRecDepth 100000
namespace Go.Proofs.YtfbegbpipmgfiaaDoor.Lift
open Go Go.RowKit

/-- A number as a text of its one sign. -/
theorem A_rune {P : Program} {W0 : World} {n : Nat} {Q : Ax → St → Prop} {st : St} {ops : Array Oper} {o : Oper} {rest : List Oper} {y : Operand} {src dst : Nat} {k : IntKind} {c : Int} (hg : o.guard = none) (ho : o.op = .convert src dst y) (hu : isTy P src = true) (hs : isStr P dst = true)
    (hy : evo (lk st.env) y = some (.d (.v (.int k c)))) (hd : dOk st.N o.dst = true) (h : AOps P W0 n ops rest Q (st.put o.dst (.d (.v (.string (Utf8.encode c)))))) : AOps P W0 n ops (o :: rest) Q st := by
  intro E M m a w hE hC
  refine wpList_plain hg fun K hK => ?_
  have hv := (evo_sound hC.env hy).v_inv.1
  unfold isTy at hu
  obtain ⟨d, hd1⟩ := Option.isSome_iff_exists.1 hu
  have hr : (execOp a.eval o).run P w = .ok (.value (.string (Utf8.encode c))) w := by
    simp [execOp, ho, hv, convert, run_underlying (isStr_iff hs), run_underlying hd1, Conv.intToString]
  unfold Oper.wp
  rw [hr]
  exact hK _ _ (h E _ _ _ _ hE (hC.value (dOk_iff hd) (RA.v_mk rfl)))
theorem wRune {P : Program} {W0 : World} {n : Nat} {Q : Ax → St → Prop} {st : St} {ops : Array Oper} {o : Oper} {rest : List Oper} {gs : List (Option (Option Nat × Bool))} {y : Operand} {src dst : Nat} {k : IntKind} {c : Int} (s : ByteArray) (h : run2 P W0 n ops Q rest gs (st.put o.dst (.d (.v (.string s)))))
    (hs0 : Utf8.encode c = s := by kernel_rfl) (ho : o.op = .convert src dst y := by rfl) (hu : isTy P src = true := by simp only [go_sem]) (hs : isStr P dst = true := by simp only [go_sem])
    (hy : evo (lk st.env) y = some (.d (.v (.int k c))) := by rfl) (hd : dOk st.N o.dst = true := by rfl) : AOpsG P W0 n ops (o :: rest) (none :: gs) Q st := fun hG => let ⟨hg, hG⟩ := gsl_none hG; A_rune hg ho hu hs hy hd (run2_ops (hs0 ▸ h) hG)
/-- An item, a group as they are made. -/
def it0D (t : Nat) : List D := [.v (.string ByteArray.empty), .v (.string ByteArray.empty), .v (.int .i32 0), .v (.int .u8 0), .v (.bool false), .v (.int .u64 0), .v (.int .u64 t), .v (.string ByteArray.empty), .v (.string ByteArray.empty), .v (.string ByteArray.empty), .v (.int .u8 0), .v (.string ByteArray.empty), .e,
  .v (.int .u8 0), .v (.string ByteArray.empty), .v (.bool false), .v (.int .i64 0), .v (.float .f64 0), .e, .e,
  .v (.int .u8 0), .v (.int .i64 0), .v (.float .f64 0), .v (.int .u64 0), .v (.float .f64 0), .v (.bool false), .e, .e, .v (.int .i32 0), .v (.int .u64 0), .v (.int .i32 0), .v (.int .i32 0), .e, .e]
def g0D (c : UInt8) : List D := [.e, .v (.string ⟨#[c]⟩), .v (.string ByteArray.empty), .e, .rows 34 416 [it0D 0, it0D 1]]
def chs (g : Nat) : UInt8 := if g = 0 then 97 else 98
theorem it0_le (t : Nat) : LeDs (it0D t) (itD (it0 t)) := by
  simp only [it0D, itD, it0, v0, V.vk, V.vs, V.vb, V.vn, V.vf, V.vl, V.vm, List.map_nil]
  repeat (first | exact .nil | refine .cons (LeD.refl _) ?_ | refine .cons (LeD.nil (by decide)) ?_)
theorem two_le {sz bt : Nat} {a b a' b' : List D} (ha : LeDs a a') (hb : LeDs b b') : LeD (.rows sz bt [a, b]) (.rows sz bt [a', b']) := LeD.rowsL rfl fun i r r' hr hr' => by
  match i with
  | 0 => cases hr; cases hr'; exact ha
  | 1 => cases hr; cases hr'; exact hb
  | i + 2 => simp at hr
theorem g0_le (c : UInt8) : LeDs (g0D c) (grD (lvG c)) := .cons (LeD.nil (by decide)) (.cons (LeD.refl _) (.cons (LeD.refl _) (.cons (LeD.nil (by decide)) (.cons (two_le (it0_le 0) (it0_le 1)) .nil))))
def gsD (g : Nat) : List (List D) := (List.range g).map fun j => g0D (chs j)
theorem gsD_len (g : Nat) : (gsD g).length = g := by simp [gsD]
theorem logs_c {W0 : World} : APure Tryd.prog W0 24 [.d (.v (.int .i64 2)), .d (.v (.int .i64 2))] (· = .ret (xa lv)) := by
  refine A_body Tryd.func24 rfl (Nat.le_of_ble_eq_true rfl) ?_
  simp only [go_sem, Tryd.ntmps24, Tryd.results24, mkEnv]
  repeat (first | refine wS ?_ | refine wB ?_ | (refine wR ?_; simp only [go_sem]) | (refine wT ?_ ?_; focus (simp only [go_sem]; done)) | (refine wF ?_ ?_; focus (simp only [go_sem]; done)) | (refine wK ?_; try simp only [go_sem]) | (refine wE ?_; try simp only [go_sem]) | refine wX ?_)
  refine wOpnC 1 1 5 104 ?_
  simp only [go_sem]
  refine wL (fun g => ⟨40, ofL [(0, .d (.v (.int .i64 2))), (1, .d (.v (.int .i64 2))), (4, .ptr 0 0), (5, .ptr 1 0), (6, .d (.v (.int .i64 (g : Nat))))], [.var [.d (.v (.int .u8 0)), .d .e], .var [.d (.v (.int .u8 2)), .sl 2 5 0 g], .vec 5 104 (gsD g)]⟩) (2) (fun g => True) wSb (trivial) ?_
  intro g hi hinv R hR
  simp only [go_sem]
  repeat (first | refine wS ?_ | refine wB ?_ | (refine wR ?_; simp only [go_sem]) | (refine wT ?_ ?_; focus (simp only [go_sem]; done)) | (refine wF ?_ ?_; focus (simp only [go_sem]; done)) | (refine wK ?_; try simp only [go_sem]) | (refine wE ?_; try simp only [go_sem]) | refine wX ?_)
  refine wI (fun h => ?_) (fun h => ?_)
  · have hlt : g < 2 := by simp at h; omega
    have hw := wrap_succ (i := g) (by omega)
    have hg : g = 0 ∨ g = 1 := by omega
    have hw1 : IntKind.i64.wrap (97 + (g : Int)) = 97 + (g : Int) := by rcases hg with rfl | rfl <;> rfl
    have hw2 : IntKind.i32.wrap (97 + (g : Int)) = 97 + (g : Int) := by rcases hg with rfl | rfl <;> rfl
    have hch : Utf8.encode (97 + (g : Int)) = ⟨#[chs g]⟩ := by rcases hg with rfl | rfl <;> kernel_rfl
    have hgs : gsD g ++ [g0D (chs g)] = gsD (g + 1) := by rw [gsD, gsD, List.range_succ, List.map_append]; rfl
    have hl1 := gsD_len (g + 1)
    generalize chs g = c at hch hgs
    simp only [g0D] at hgs
    repeat (first | refine wS ?_ | refine wB ?_ | (refine wR ?_; simp only [go_sem, hw1, hw2]) | (refine wT ?_ ?_; focus (simp only [go_sem]; done)) | (refine wF ?_ ?_; focus (simp only [go_sem]; done)) | (refine wK ?_; try simp only [go_sem, hw1, hw2]) | (refine wE ?_; try simp only [go_sem, hw1, hw2]) | refine wX ?_)
    refine wRune ⟨#[c]⟩ ?_ (hs0 := hch)
    simp only [go_sem]
    repeat (first | refine wS ?_ | refine wB ?_ | (refine wR ?_; simp only [go_sem]) | (refine wT ?_ ?_; focus (simp only [go_sem]; done)) | (refine wF ?_ ?_; focus (simp only [go_sem]; done)) | (refine wK ?_; try simp only [go_sem]) | (refine wE ?_; try simp only [go_sem]) | refine wX ?_)
    have hR0 := hR
    have hlt0 := hlt
    refine wOpnC 3 4 34 416 ?_
    simp only [go_sem]
    refine wL (fun i => ⟨40, ofL [(0, .d (.v (.int .i64 2))), (1, .d (.v (.int .i64 2))), (4, .ptr 0 0), (5, .ptr 1 0), (7, .ptr 3 0), (6, .d (.v (.int .i64 (g : Nat)))), (8, .d (.v (.int .i64 (i : Nat))))], [.var [.d (.v (.int .u8 0)), .d .e], .var [.d (.v (.int .u8 2)), .sl 2 5 0 g], .vec 5 104 (gsD g), .var [.d .e, .d (.v (.string ⟨#[c]⟩)), .d (.v (.string ByteArray.empty)), .d .e, .sl 4 34 0 i], .vec 34 416 ((List.range i).map it0D)]⟩) (2) (fun i => True) wSb (trivial) ?_
    intro i hi hinv R hR
    simp only [go_sem]
    repeat (first | refine wS ?_ | refine wB ?_ | (refine wR ?_; simp only [go_sem]) | (refine wT ?_ ?_; focus (simp only [go_sem]; done)) | (refine wF ?_ ?_; focus (simp only [go_sem]; done)) | (refine wK ?_; try simp only [go_sem]) | (refine wE ?_; try simp only [go_sem]) | refine wX ?_)
    refine wI (fun h => ?_) (fun h => ?_)
    · have hlti : i < 2 := by simp at h; omega
      have hwi := wrap_succ (i := i) (by omega)
      have hwu : IntKind.u64.wrap (i : Int) = (i : Int) := by
        rcases (by omega : i = 0 ∨ i = 1) with rfl | rfl <;> rfl
      have hrg : (List.range i).map it0D ++ [it0D i] = (List.range (i + 1)).map it0D := by rw [List.range_succ, List.map_append]; rfl
      simp only [it0D] at hrg
      repeat (first | refine wS ?_ | refine wB ?_ | (refine wR ?_; simp only [go_sem, hwu]) | (refine wT ?_ ?_; focus (simp only [go_sem]; done)) | (refine wF ?_ ?_; focus (simp only [go_sem]; done)) | (refine wK ?_; try simp only [go_sem, hwu]) | (refine wE ?_; try simp only [go_sem, hwu]) | refine wX ?_)
      refine wA ((List.range i).map it0D) ([it0D i]) ?_ (hbound := by simp; omega)
      simp only [go_sem, hrg, List.length_map, List.length_range, it0D, hwi]
      repeat (first | refine wS ?_ | refine wB ?_ | (refine wR ?_; simp only [go_sem, hrg, List.length_map, List.length_range, it0D, hwi]) | (refine wT ?_ ?_; focus (simp only [go_sem]; done)) | (refine wF ?_ ?_; focus (simp only [go_sem]; done)) | (refine wK ?_; try simp only [go_sem, hrg, List.length_map, List.length_range, it0D, hwi]) | (refine wE ?_; try simp only [go_sem, hrg, List.length_map, List.length_range, it0D, hwi]) | refine wX ?_)
      try simp only [← List.range_succ, List.length_range]
      exact hR hlti trivial _ wSb
    · obtain rfl : i = 2 := by simp at h; omega
      refine wE ?_
      simp only [go_sem]
      refine wFz 4 ?_
      simp only [go_sem, List.length_map, List.length_range]
      repeat (first | refine wS ?_ | refine wB ?_ | (refine wR ?_; simp only [go_sem, List.length_map, List.length_range]) | (refine wT ?_ ?_; focus (simp only [go_sem]; done)) | (refine wF ?_ ?_; focus (simp only [go_sem]; done)) | (refine wK ?_; try simp only [go_sem, List.length_map, List.length_range]) | (refine wE ?_; try simp only [go_sem, List.length_map, List.length_range]) | refine wX ?_)
      have hr2 : (List.range 2).map it0D = [it0D 0, it0D 1] := rfl
      refine wA (gsD g) [g0D c] ?_ (hbound := by simp [gsD_len]; omega) (hk := by first | exact gsD_len g | exact (gsD_len g).symm)
      simp only [go_sem, hgs, hl1, gsD_len, hr2, g0D, hw]
      repeat (first | refine wS ?_ | refine wB ?_ | (refine wR ?_; simp only [go_sem, hgs, hl1, gsD_len, List.length_map, List.length_range, hr2, g0D, hw]) | (refine wT ?_ ?_; focus (simp only [go_sem]; done)) | (refine wF ?_ ?_; focus (simp only [go_sem]; done)) | (refine wK ?_; try simp only [go_sem, hgs, hl1, gsD_len, List.length_map, List.length_range, hr2, g0D, hw]) | (refine wE ?_; try simp only [go_sem, hgs, hl1, gsD_len, List.length_map, List.length_range, hr2, g0D, hw]) | refine wX ?_)
      try simp only [← List.range_succ, List.length_range]
      exact hR0 hlt0 trivial _ wSb
  · obtain rfl : g = 2 := by simp at h; omega
    refine wE ?_
    simp only [go_sem]
    refine wFz 2 ?_
    simp only [go_sem, gsD_len]
    repeat (first | refine wS ?_ | refine wB ?_ | (refine wR ?_; simp only [go_sem, gsD_len]) | (refine wT ?_ ?_; focus (simp only [go_sem]; done)) | (refine wF ?_ ?_; focus (simp only [go_sem]; done)) | (refine wK ?_; try simp only [go_sem, gsD_len]) | (refine wE ?_; try simp only [go_sem, gsD_len]) | refine wX ?_)
    exact wRet ⟨rfl, rfl⟩ (hle := Le.agg (.cons (Le.refl _) (.cons (Le.d (two_le (g0_le 97) (g0_le 98))) .nil)))
end Go.Proofs.YtfbegbpipmgfiaaDoor.Lift
end
section
/- PdataJoined: the law's walk. No conditions but what types allow, and that utf8's tables lie as they are laid. -/
set_option linter.unusedVariables false
set_option linter.unusedSimpArgs false
set_option maxHeartbeats 4000000
set_option maxRecDepth 100000
namespace Go.Proofs.YtfbegbpipmgfiaaDoor.Lift
open Go Go.RowKit

theorem plives_c {W0 : World} (hT : Tabs W0) : APure Tryd.prog W0 9 [] (· = .ret (.d (.v (.bool true)))) := lives_of hT logs_c
theorem joined_c {W0 : World} (hT : Tabs W0) (d : Da) (hd : okD d) (n : Int) : APure Tryd.prog W0 8 [xa d, .d (.v (.int .i64 n))] (· = .ret (.d (.v (.bool true)))) := by
  have hl := plives_c (W0 := W0) hT
  have ht := Tidy_c (W0 := W0) hT d hd
  by_cases h0 : daE d = 0
  · rw [tidy_ok h0] at ht
    have hy : okD ⟨d.sig, tidyG d⟩ := by
      have h1 : okD ⟨d.sig, []⟩ := ⟨hd.sig, by simp, fun g hg => by cases hg⟩
      have h2 := mergeR_ok h1 (splR_ok (n := 1024) hd).1
      have h3 := tidy_ok h0
      unfold tidyR at h3
      split at h3
      · rw [h3] at h2; exact h2
      · rename_i h4
        exact absurd (congrArg Prod.snd h3) h4
    have hs := Split_c (W0 := W0) hT ⟨d.sig, tidyG d⟩ hy n
    have hj := fun hn => joined h0 (n := n) hn
    have hso := splR_ok (n := n) hy
    have hss := rsameD_c (W0 := W0) ⟨d.sig, tidyG d⟩ ⟨d.sig, tidyG d⟩ hy
    rw [sameDa_iff.2 rfl] at hss
    have hye := tidyG_ok h0
    by_cases hn : 0 ≤ n
    · have hm := Merge_c (W0 := W0) hT (splR ⟨d.sig, tidyG d⟩ n).1 (splR ⟨d.sig, tidyG d⟩ n).2.1 hso.1 hso.2
      rw [hj hn] at hm
      have h2 : (splR ⟨d.sig, tidyG d⟩ n).2.2 = 0 := by rw [spl_ok hye hn]
      rw [h2] at hs
      generalize (splR ⟨d.sig, tidyG d⟩ n).1 = A at hs hm
      generalize (splR ⟨d.sig, tidyG d⟩ n).2.1 = B at hs hm
      generalize (⟨d.sig, tidyG d⟩ : Da) = y at ht hs hm hss
      refine A_body Tryd.func8 rfl (Nat.le_of_ble_eq_true rfl) ?_
      simp only [go_sem, Tryd.ntmps8, Tryd.results8, mkEnv]
      repeat (first | refine wS ?_ | refine wB ?_ | (refine wR ?_; simp only [go_sem]) | (refine wT ?_ ?_; focus (simp only [go_sem]; done)) | (refine wF ?_ ?_; focus (simp only [go_sem]; done)) | (refine wK ?_; try simp only [go_sem]) | (refine wE ?_; try simp only [go_sem]) | refine wX ?_)
      refine wC (hl) ?_
      simp only [go_sem]
      repeat (first | refine wS ?_ | refine wB ?_ | (refine wR ?_; simp only [go_sem]) | (refine wT ?_ ?_; focus (simp only [go_sem]; done)) | (refine wF ?_ ?_; focus (simp only [go_sem]; done)) | (refine wK ?_; try simp only [go_sem]) | (refine wE ?_; try simp only [go_sem]) | refine wX ?_)
      refine wC (ht) ?_
      simp only [go_sem]
      repeat (first | refine wS ?_ | refine wB ?_ | (refine wR ?_; simp only [go_sem]) | (refine wT ?_ ?_; focus (simp only [go_sem]; done)) | (refine wF ?_ ?_; focus (simp only [go_sem]; done)) | (refine wK ?_; try simp only [go_sem]) | (refine wE ?_; try simp only [go_sem]) | refine wX ?_)
      refine wC (hs) ?_
      simp only [go_sem]
      repeat (first | refine wS ?_ | refine wB ?_ | (refine wR ?_; simp only [go_sem]) | (refine wT ?_ ?_; focus (simp only [go_sem]; done)) | (refine wF ?_ ?_; focus (simp only [go_sem]; done)) | (refine wK ?_; try simp only [go_sem]) | (refine wE ?_; try simp only [go_sem]) | refine wX ?_)
      refine wC (hm) ?_
      simp only [go_sem]
      repeat (first | refine wS ?_ | refine wB ?_ | (refine wR ?_; simp only [go_sem]) | (refine wT ?_ ?_; focus (simp only [go_sem]; done)) | (refine wF ?_ ?_; focus (simp only [go_sem]; done)) | (refine wK ?_; try simp only [go_sem]) | (refine wE ?_; try simp only [go_sem]) | refine wX ?_)
      refine wCG (fun hh => hss) ?_
      simp only [go_sem]
      repeat (first | refine wS ?_ | refine wB ?_ | (refine wR ?_; simp only [go_sem]) | (refine wT ?_ ?_; focus (simp only [go_sem]; done)) | (refine wF ?_ ?_; focus (simp only [go_sem]; done)) | (refine wK ?_; try simp only [go_sem]) | (refine wE ?_; try simp only [go_sem]) | refine wX ?_)
      exact wRq
    · have h2 : (splR ⟨d.sig, tidyG d⟩ n).2.2 = 2 := by
        have h3 : splE ⟨d.sig, tidyG d⟩ n = 2 := by rw [splE_ok hye, if_neg hn]
        rw [spl_no (by rw [h3]; decide), h3]
      rw [h2] at hs
      generalize (splR ⟨d.sig, tidyG d⟩ n).1 = A at hs
      generalize (splR ⟨d.sig, tidyG d⟩ n).2.1 = B at hs
      generalize (⟨d.sig, tidyG d⟩ : Da) = y at ht hs
      have hlt : decide (n < 0) = true := decide_eq_true (by omega)
      refine A_body Tryd.func8 rfl (Nat.le_of_ble_eq_true rfl) ?_
      simp only [go_sem, Tryd.ntmps8, Tryd.results8, mkEnv]
      repeat (first | refine wS ?_ | refine wB ?_ | (refine wR ?_; simp only [go_sem]) | (refine wT ?_ ?_; focus (simp only [go_sem]; done)) | (refine wF ?_ ?_; focus (simp only [go_sem]; done)) | (refine wK ?_; try simp only [go_sem]) | (refine wE ?_; try simp only [go_sem]) | refine wX ?_)
      refine wC (hl) ?_
      simp only [go_sem, hlt]
      repeat (first | refine wS ?_ | refine wB ?_ | (refine wR ?_; simp only [go_sem, hlt]) | (refine wT ?_ ?_; focus (simp only [go_sem]; done)) | (refine wF ?_ ?_; focus (simp only [go_sem]; done)) | (refine wK ?_; try simp only [go_sem, hlt]) | (refine wE ?_; try simp only [go_sem, hlt]) | refine wX ?_)
      refine wC (ht) ?_
      simp only [go_sem, hlt]
      repeat (first | refine wS ?_ | refine wB ?_ | (refine wR ?_; simp only [go_sem, hlt]) | (refine wT ?_ ?_; focus (simp only [go_sem]; done)) | (refine wF ?_ ?_; focus (simp only [go_sem]; done)) | (refine wK ?_; try simp only [go_sem, hlt]) | (refine wE ?_; try simp only [go_sem, hlt]) | refine wX ?_)
      refine wC (hs) ?_
      simp only [go_sem, hlt]
      repeat (first | refine wS ?_ | refine wB ?_ | (refine wR ?_; simp only [go_sem, hlt]) | (refine wT ?_ ?_; focus (simp only [go_sem]; done)) | (refine wF ?_ ?_; focus (simp only [go_sem]; done)) | (refine wK ?_; try simp only [go_sem, hlt]) | (refine wE ?_; try simp only [go_sem, hlt]) | refine wX ?_)
      exact wRq
  · rw [tidy_no h0] at ht
    have hc := PCheck_c (W0 := W0) hT d hd
    have hne : (((daE d : Nat) : Int) != 0) = true := by simp [h0]
    have hee : (((daE d : Nat) : Int) == ((daE d : Nat) : Int)) = true := beq_self_eq_true _
    generalize d0 = y at ht
    refine A_body Tryd.func8 rfl (Nat.le_of_ble_eq_true rfl) ?_
    simp only [go_sem, Tryd.ntmps8, Tryd.results8, mkEnv]
    repeat (first | refine wS ?_ | refine wB ?_ | (refine wR ?_; simp only [go_sem]) | (refine wT ?_ ?_; focus (simp only [go_sem]; done)) | (refine wF ?_ ?_; focus (simp only [go_sem]; done)) | (refine wK ?_; try simp only [go_sem]) | (refine wE ?_; try simp only [go_sem]) | refine wX ?_)
    refine wC (hl) ?_
    simp only [go_sem, hne, hee]
    repeat (first | refine wS ?_ | refine wB ?_ | (refine wR ?_; simp only [go_sem, hne, hee]) | (refine wT ?_ ?_; focus (simp only [go_sem]; done)) | (refine wF ?_ ?_; focus (simp only [go_sem]; done)) | (refine wK ?_; try simp only [go_sem, hne, hee]) | (refine wE ?_; try simp only [go_sem, hne, hee]) | refine wX ?_)
    refine wC (ht) ?_
    simp only [go_sem, hne, hee]
    repeat (first | refine wS ?_ | refine wB ?_ | (refine wR ?_; simp only [go_sem, hne, hee]) | (refine wT ?_ ?_; focus (simp only [go_sem]; done)) | (refine wF ?_ ?_; focus (simp only [go_sem]; done)) | (refine wK ?_; try simp only [go_sem, hne, hee]) | (refine wE ?_; try simp only [go_sem, hne, hee]) | refine wX ?_)
    refine wC (hc) ?_
    simp only [go_sem, hne, hee]
    repeat (first | refine wS ?_ | refine wB ?_ | (refine wR ?_; simp only [go_sem, hne, hee]) | (refine wT ?_ ?_; focus (simp only [go_sem]; done)) | (refine wF ?_ ?_; focus (simp only [go_sem]; done)) | (refine wK ?_; try simp only [go_sem, hne, hee]) | (refine wE ?_; try simp only [go_sem, hne, hee]) | refine wX ?_)
    exact wRq
end Go.Proofs.YtfbegbpipmgfiaaDoor.Lift
end
section
/- PdataMarked: the law's walk. No conditions but what types allow, and that utf8's tables lie as they are laid. -/
set_option linter.unusedVariables false
set_option linter.unusedSimpArgs false
set_option maxHeartbeats 4000000
set_option maxRecDepth 100000
namespace Go.Proofs.YtfbegbpipmgfiaaDoor.Lift
open Go Go.RowKit

/-- A function that was handed no box hands back data with a row of its own in it. -/
theorem fin_ownG {W0 : World} {st : St} {x x' : AV} (b : Nat) {sz bt : Nat} {l : List (List D)} (hb : st.bs[b]? = some (.vec sz bt l)) (hx : renA (fun _ => b) x' = x) (hn : x'.names (fun c => decide (c = 0)) = true) : Fin W0 0 st x [.vec sz bt l] x' := by
  intro E M m a w u hE h hu
  refine ⟨M, fun b' => if b' = 0 then m b else .no, { h.bare with mNo := ?_, mIn := ?_, inj := ?_, oldv := ?_, oldr := ?_, new := ?_, len := ?_, box := ?_, env := ?_ }, ?_⟩
  · intro b' hb'
    simp only [List.length_cons, List.length_nil] at hb'
    exact if_neg (by omega)
  · intro b' k hk
    split at hk
    · exact h.mIn b k hk
    · cases hk
  · intro b1 b2 k h1 h2
    split at h1
    · split at h2
      · omega
      · cases h2
    · cases h1
  · intro b' cs hb'
    omega
  · intro b' k hb'
    omega
  · intro b' k _ hk
    split at hk
    · exact h.new b k (by omega) hk
    · cases hk
  · omega
  · intro b' y hy
    match b', hy with
    | 0, hy =>
      simp only [List.getElem?_cons_zero, Option.some.injEq] at hy
      subst hy
      have := h.box b _ hb
      simp only [BoxR, if_true] at this ⊢
      exact this
  · exact fun t x hx => (by simp [lk_nil] at hx)
  · rw [← hx] at hu
    have h1 := RA.ren (m' := fun _ => m b) (σ := fun _ => b) (fun _ _ => rfl) x' u hu
    exact RA.remap (p := fun c => decide (c = 0)) (fun c hc _ => by rw [if_pos (by simpa using hc)]) x' u hn h1
/-- An item whose pairs are a row of one's own. -/
def iaO (b : Nat) (x : It) : AV := .agg (((itD x).map AV.d).set 12 (.sl b 8 0 x.attrs.length))
theorem copyItemO_c {W0 : World} (x : It) (hx : okI x) : ACalls Tryd.prog W0 19 [ia x] [] (fun r L' => r = .ret (iaO 0 x) ∧ L' = [.vec 8 112 (x.attrs.map pD)]) := by
  have h1 := copyPairs_own (W0 := W0) x.attrs fun p _ => copy_c p.2
  have h2 := copy_c (W0 := W0) x.body
  simp only [va, vD_ex, List.map_cons, List.map_nil, rP] at h1 h2
  have b1 := hx.pt.bnd.1
  have b2 := hx.pt.cts.1
  have b3 := hx.pt.neg.1
  have b4 := hx.pt.qts.1
  refine A_body Tryd.func19 rfl (Nat.le_of_ble_eq_true rfl) ?_
  simp only [go_sem, Tryd.ntmps19, Tryd.results19, mkEnv]
  repeat (first | refine wS ?_ | refine wB ?_ | (refine wR ?_; simp only [go_sem]) | (refine wT ?_ ?_; focus (simp only [go_sem]; done)) | (refine wF ?_ ?_; focus (simp only [go_sem]; done)) | (refine wK ?_; try simp only [go_sem]) | (refine wE ?_; try simp only [go_sem]) | refine wX ?_)
  refine wCB [] (h1) ?_
  simp only [go_sem]
  repeat (first | refine wS ?_ | refine wB ?_ | (refine wR ?_; simp only [go_sem]) | (refine wT ?_ ?_; focus (simp only [go_sem]; done)) | (refine wF ?_ ?_; focus (simp only [go_sem]; done)) | (refine wK ?_; try simp only [go_sem]) | (refine wE ?_; try simp only [go_sem]) | refine wX ?_)
  refine wC (h2) ?_
  simp only [go_sem]
  repeat (first | refine wS ?_ | refine wB ?_ | (refine wR ?_; simp only [go_sem]) | (refine wT ?_ ?_; focus (simp only [go_sem]; done)) | (refine wF ?_ ?_; focus (simp only [go_sem]; done)) | (refine wK ?_; try simp only [go_sem]) | (refine wE ?_; try simp only [go_sem]) | refine wX ?_)
  refine wNil ?_
  simp only [go_sem]
  repeat (first | refine wS ?_ | refine wB ?_ | (refine wR ?_; simp only [go_sem]) | (refine wT ?_ ?_; focus (simp only [go_sem]; done)) | (refine wF ?_ ?_; focus (simp only [go_sem]; done)) | (refine wK ?_; try simp only [go_sem]) | (refine wE ?_; try simp only [go_sem]) | refine wX ?_)
  refine wSub _ (Sb.opn (t := 11) (sz := 1) (bt := 8) rfl (by decide) (by decide)) ?_
  simp only [go_sem]
  refine wA (b := 3) (sz := 1) (bt := 8) [] (x.pt.bnd.map f64L) ?_ (hbound := by simp; omega)
  simp only [go_sem, List.nil_append, List.length_map]
  repeat (first | refine wS ?_ | refine wB ?_ | (refine wR ?_; simp only [go_sem]) | (refine wT ?_ ?_; focus (simp only [go_sem]; done)) | (refine wF ?_ ?_; focus (simp only [go_sem]; done)) | (refine wK ?_; try simp only [go_sem]) | (refine wE ?_; try simp only [go_sem]) | refine wX ?_)
  refine wFzO 3 ?_
  simp only [go_sem, List.length_map]
  repeat (first | refine wS ?_ | refine wB ?_ | (refine wR ?_; simp only [go_sem]) | (refine wT ?_ ?_; focus (simp only [go_sem]; done)) | (refine wF ?_ ?_; focus (simp only [go_sem]; done)) | (refine wK ?_; try simp only [go_sem]) | (refine wE ?_; try simp only [go_sem]) | refine wX ?_)
  refine wNil ?_
  simp only [go_sem]
  repeat (first | refine wS ?_ | refine wB ?_ | (refine wR ?_; simp only [go_sem]) | (refine wT ?_ ?_; focus (simp only [go_sem]; done)) | (refine wF ?_ ?_; focus (simp only [go_sem]; done)) | (refine wK ?_; try simp only [go_sem]) | (refine wE ?_; try simp only [go_sem]) | refine wX ?_)
  refine wSub _ (Sb.opn (t := 18) (sz := 1) (bt := 8) rfl (by decide) (by decide)) ?_
  simp only [go_sem]
  refine wA (b := 4) (sz := 1) (bt := 8) [] (x.pt.cts.map c64L) ?_ (hbound := by simp; omega)
  simp only [go_sem, List.nil_append, List.length_map]
  repeat (first | refine wS ?_ | refine wB ?_ | (refine wR ?_; simp only [go_sem]) | (refine wT ?_ ?_; focus (simp only [go_sem]; done)) | (refine wF ?_ ?_; focus (simp only [go_sem]; done)) | (refine wK ?_; try simp only [go_sem]) | (refine wE ?_; try simp only [go_sem]) | refine wX ?_)
  refine wFzO 4 ?_
  simp only [go_sem, List.length_map]
  repeat (first | refine wS ?_ | refine wB ?_ | (refine wR ?_; simp only [go_sem]) | (refine wT ?_ ?_; focus (simp only [go_sem]; done)) | (refine wF ?_ ?_; focus (simp only [go_sem]; done)) | (refine wK ?_; try simp only [go_sem]) | (refine wE ?_; try simp only [go_sem]) | refine wX ?_)
  refine wNil ?_
  simp only [go_sem]
  repeat (first | refine wS ?_ | refine wB ?_ | (refine wR ?_; simp only [go_sem]) | (refine wT ?_ ?_; focus (simp only [go_sem]; done)) | (refine wF ?_ ?_; focus (simp only [go_sem]; done)) | (refine wK ?_; try simp only [go_sem]) | (refine wE ?_; try simp only [go_sem]) | refine wX ?_)
  refine wSub _ (Sb.opn (t := 25) (sz := 1) (bt := 8) rfl (by decide) (by decide)) ?_
  simp only [go_sem]
  refine wA (b := 5) (sz := 1) (bt := 8) [] (x.pt.neg.map c64L) ?_ (hbound := by simp; omega)
  simp only [go_sem, List.nil_append, List.length_map]
  repeat (first | refine wS ?_ | refine wB ?_ | (refine wR ?_; simp only [go_sem]) | (refine wT ?_ ?_; focus (simp only [go_sem]; done)) | (refine wF ?_ ?_; focus (simp only [go_sem]; done)) | (refine wK ?_; try simp only [go_sem]) | (refine wE ?_; try simp only [go_sem]) | refine wX ?_)
  refine wFzO 5 ?_
  simp only [go_sem, List.length_map]
  repeat (first | refine wS ?_ | refine wB ?_ | (refine wR ?_; simp only [go_sem]) | (refine wT ?_ ?_; focus (simp only [go_sem]; done)) | (refine wF ?_ ?_; focus (simp only [go_sem]; done)) | (refine wK ?_; try simp only [go_sem]) | (refine wE ?_; try simp only [go_sem]) | refine wX ?_)
  refine wNil ?_
  simp only [go_sem]
  repeat (first | refine wS ?_ | refine wB ?_ | (refine wR ?_; simp only [go_sem]) | (refine wT ?_ ?_; focus (simp only [go_sem]; done)) | (refine wF ?_ ?_; focus (simp only [go_sem]; done)) | (refine wK ?_; try simp only [go_sem]) | (refine wE ?_; try simp only [go_sem]) | refine wX ?_)
  refine wSub _ (Sb.opn (t := 32) (sz := 2) (bt := 16) rfl (by decide) (by decide)) ?_
  simp only [go_sem]
  refine wA (b := 6) (sz := 2) (bt := 16) [] (x.pt.qts.map qD) ?_ (hbound := by simp; omega)
  simp only [go_sem, List.nil_append, List.length_map]
  refine wFz 6 ?_
  simp only [go_sem, List.length_map]
  repeat (first | refine wS ?_ | refine wB ?_ | (refine wR ?_; simp only [go_sem]) | (refine wT ?_ ?_; focus (simp only [go_sem]; done)) | (refine wF ?_ ?_; focus (simp only [go_sem]; done)) | (refine wK ?_; try simp only [go_sem]) | (refine wE ?_; try simp only [go_sem]) | refine wX ?_)
  exact ⟨_, rfl, _, _, fin_ownG 2 rfl rfl rfl, rfl, rfl⟩
def moreK : ByteArray := ⟨#[109, 111, 114, 101]⟩
theorem LeDs.rfl' (l : List D) : LeDs l l := ⟨rfl, fun j d d' h h' => by rw [h] at h'; cases h'; exact LeD.refl _⟩
theorem more_le (m : List (ByteArray × V)) : LeD (.rows 8 112 (m.map pD ++ [[.v (.string moreK), .v (.int .u8 0), .v (.string ByteArray.empty), .v (.bool false), .v (.int .i64 0), .v (.float .f64 0), .e, .e]])) (.rows 8 112 ((m ++ [(moreK, zeroV)]).map pD)) := by
  rw [List.map_append]
  refine LeD.rowsL (by simp) fun i r r' hr hr' => ?_
  by_cases h : i < m.length
  · rw [List.getElem?_append_left (by simpa using h)] at hr hr'
    rw [hr] at hr'
    cases hr'
    exact LeDs.rfl' _
  · rw [List.getElem?_append_right (by simp; omega)] at hr hr'
    simp only [List.length_map] at hr hr'
    match i - m.length, hr, hr' with
    | 0, hr, hr' =>
      cases hr
      cases hr'
      exact .cons (LeD.refl _) (.cons (LeD.refl _) (.cons (LeD.refl _) (.cons (LeD.refl _) (.cons (LeD.refl _) (.cons (LeD.refl _) (.cons (LeD.nil (by decide)) (.cons (LeD.nil (by decide)) .nil)))))))
    | j + 1, hr, _ => simp at hr
theorem tm_next (t : Nat) (h : t < 2 ^ 64) : ∃ t' : Nat, IntKind.u64.wrap ((t : Int) + 1) = (t' : Int) ∧ t' ≠ t := by
  by_cases e : t + 1 < 2 ^ 64
  · exact ⟨t + 1, by rw [IntKind.wrap_u64]; omega, by omega⟩
  · have : t = 18446744073709551615 := by omega
    subst this
    exact ⟨0, by decide, by decide⟩
theorem markedL_c {W0 : World} (hT : Tabs W0) (x : It) (hx : okI x) (f : Nat) : APure Tryd.prog W0 6 [ia x, .d (.v (.float .f64 f))] (· = .ret (.d (.v (.bool true)))) := by
  have hl := plives_c (W0 := W0) hT
  have cp := copyItem_c (W0 := W0) x hx
  have co := copyItemO_c (W0 := W0) x hx
  have s0 := sameI_c (W0 := W0) x x hx
  rw [sameI_iff.2 rfl] at s0
  obtain ⟨t', ht1, ht2⟩ := tm_next x.time hx.time
  have s1 := sameI_c (W0 := W0) x { x with time := t' } hx
  have e1 : sameI x { x with time := t' } = false := by
    cases h : sameI x { x with time := t' } with
    | false => rfl
    | true => exact absurd (congrArg It.time (sameI_iff.1 h)).symm ht2
  rw [e1] at s1
  have s2 := sameI_c (W0 := W0) x { x with attrs := x.attrs ++ [(moreK, zeroV)] } hx
  have e2 : sameI x { x with attrs := x.attrs ++ [(moreK, zeroV)] } = false := by
    cases h : sameI x { x with attrs := x.attrs ++ [(moreK, zeroV)] } with
    | false => rfl
    | true =>
      have := congrArg List.length (congrArg It.attrs (sameI_iff.1 h))
      simp at this
  rw [e2] at s2
  have s3 := sameI_c (W0 := W0) x { x with pt := { x.pt with f := f } } hx
  have s4 := rsamePt_c (W0 := W0) x.pt { x.pt with f := f } hx.pt
  have e3 : sameI x { x with pt := { x.pt with f := f } } = samePt x.pt { x.pt with f := f } := by
    rw [Bool.eq_iff_iff, sameI_iff, samePt_iff]
    exact ⟨fun h => congrArg It.pt h, fun h => by rw [← h]⟩
  rw [e3] at s3
  generalize samePt x.pt { x.pt with f := f } = r at s3 s4
  have hrr : (r == r) = true := beq_self_eq_true _
  have hma := more_le x.attrs
  have hb := hx.attrs.1
  simp only [iaO, itD, List.map_cons, List.map_nil, List.set_cons_succ, List.set_cons_zero] at co
  simp only [ta, ptD, List.map_cons, List.map_nil] at s4
  refine A_body Tryd.func6 rfl (Nat.le_of_ble_eq_true rfl) ?_
  simp only [go_sem, Tryd.ntmps6, Tryd.results6, mkEnv]
  repeat (first | refine wS ?_ | refine wB ?_ | (refine wR ?_; simp only [go_sem]) | (refine wT ?_ ?_; focus (simp only [go_sem]; done)) | (refine wF ?_ ?_; focus (simp only [go_sem]; done)) | (refine wK ?_; try simp only [go_sem]) | (refine wE ?_; try simp only [go_sem]) | refine wX ?_)
  refine wC (hl) ?_
  simp only [go_sem, ht1]
  repeat (first | refine wS ?_ | refine wB ?_ | (refine wR ?_; simp only [go_sem, ht1]) | (refine wT ?_ ?_; focus (simp only [go_sem]; done)) | (refine wF ?_ ?_; focus (simp only [go_sem]; done)) | (refine wK ?_; try simp only [go_sem, ht1]) | (refine wE ?_; try simp only [go_sem, ht1]) | refine wX ?_)
  refine wC (cp) ?_
  simp only [go_sem, ht1]
  repeat (first | refine wS ?_ | refine wB ?_ | (refine wR ?_; simp only [go_sem, ht1]) | (refine wT ?_ ?_; focus (simp only [go_sem]; done)) | (refine wF ?_ ?_; focus (simp only [go_sem]; done)) | (refine wK ?_; try simp only [go_sem, ht1]) | (refine wE ?_; try simp only [go_sem, ht1]) | refine wX ?_)
  refine wC (s0) ?_
  simp only [go_sem, ht1]
  repeat (first | refine wS ?_ | refine wB ?_ | (refine wR ?_; simp only [go_sem, ht1]) | (refine wT ?_ ?_; focus (simp only [go_sem]; done)) | (refine wF ?_ ?_; focus (simp only [go_sem]; done)) | (refine wK ?_; try simp only [go_sem, ht1]) | (refine wE ?_; try simp only [go_sem, ht1]) | refine wX ?_)
  refine wC (cp) ?_
  simp only [go_sem]
  repeat (first | refine wS ?_ | refine wB ?_ | (refine wR ?_; simp only [go_sem]) | (refine wT ?_ ?_; focus (simp only [go_sem]; done)) | (refine wF ?_ ?_; focus (simp only [go_sem]; done)) | (refine wK ?_; try simp only [go_sem]) | (refine wE ?_; try simp only [go_sem]) | refine wX ?_)
  refine wCB [] (co) ?_
  simp only [go_sem]
  repeat (first | refine wS ?_ | refine wB ?_ | (refine wR ?_; simp only [go_sem]) | (refine wT ?_ ?_; focus (simp only [go_sem]; done)) | (refine wF ?_ ?_; focus (simp only [go_sem]; done)) | (refine wK ?_; try simp only [go_sem]) | (refine wE ?_; try simp only [go_sem]) | refine wX ?_)
  refine wA (x.attrs.map pD) [[.v (.string moreK), .v (.int .u8 0), .v (.string ByteArray.empty), .v (.bool false), .v (.int .i64 0), .v (.float .f64 0), .e, .e]] ?_ (hbound := by simp only [List.length_map, List.length_cons, List.length_nil]; omega) (hk := by rw [List.length_map])
  generalize hRR : x.attrs.map pD ++ [[D.v (.string moreK), .v (.int .u8 0), .v (.string ByteArray.empty), .v (.bool false), .v (.int .i64 0), .v (.float .f64 0), .e, .e]] = RR at hma ⊢
  simp only [go_sem]
  repeat (first | refine wS ?_ | refine wB ?_ | (refine wR ?_; simp only [go_sem]) | (refine wT ?_ ?_; focus (simp only [go_sem]; done)) | (refine wF ?_ ?_; focus (simp only [go_sem]; done)) | (refine wK ?_; try simp only [go_sem]) | (refine wE ?_; try simp only [go_sem]) | refine wX ?_)
  refine wFz 3 ?_
  simp only [go_sem, List.take_length]
  have s2' := pure_le (args' := [ia x, .agg (((itD x).map AV.d).set 12 (.d (.rows 8 112 RR)))]) s2 (.cons (Le.refl _) (.cons (Le.agg (by
    simp only [itD, List.map_cons, List.map_nil, List.set_cons_succ, List.set_cons_zero]
    repeat (first | exact .nil | refine .cons (Le.refl _) ?_ | refine .cons (Le.d hma) ?_))) .nil))
  simp only [ia, itD, List.map_cons, List.map_nil, List.set_cons_succ, List.set_cons_zero] at s1 s2' s3
  refine wQ ?_ mixedO (by kernel_rfl)
  simp only [go_sem]
  repeat (first | refine wS ?_ | refine wB ?_ | (refine wR ?_; simp only [go_sem]) | (refine wT ?_ ?_; focus (simp only [go_sem]; done)) | (refine wF ?_ ?_; focus (simp only [go_sem]; done)) | (refine wK ?_; try simp only [go_sem]) | (refine wE ?_; try simp only [go_sem]) | refine wX ?_)
  refine wQC (s1) ?_
  simp only [go_sem]
  repeat (first | refine wS ?_ | refine wB ?_ | (refine wR ?_; simp only [go_sem]) | (refine wT ?_ ?_; focus (simp only [go_sem]; done)) | (refine wF ?_ ?_; focus (simp only [go_sem]; done)) | (refine wK ?_; try simp only [go_sem]) | (refine wE ?_; try simp only [go_sem]) | refine wX ?_)
  refine wQGx (fun hh => s2') ?_
  simp only [go_sem]
  repeat (first | refine wS ?_ | refine wB ?_ | (refine wR ?_; simp only [go_sem]) | (refine wT ?_ ?_; focus (simp only [go_sem]; done)) | (refine wF ?_ ?_; focus (simp only [go_sem]; done)) | (refine wK ?_; try simp only [go_sem]) | (refine wE ?_; try simp only [go_sem]) | refine wX ?_)
  refine wQGx (fun hh => s3) ?_
  simp only [go_sem]
  repeat (first | refine wS ?_ | refine wB ?_ | (refine wR ?_; simp only [go_sem]) | (refine wT ?_ ?_; focus (simp only [go_sem]; done)) | (refine wF ?_ ?_; focus (simp only [go_sem]; done)) | (refine wK ?_; try simp only [go_sem]) | (refine wE ?_; try simp only [go_sem]) | refine wX ?_)
  refine wQGx (fun hh => s4) ?_
  simp only [go_sem, hrr]
  repeat (first | refine wS ?_ | refine wB ?_ | (refine wR ?_; simp only [go_sem, hrr]) | (refine wT ?_ ?_; focus (simp only [go_sem]; done)) | (refine wF ?_ ?_; focus (simp only [go_sem]; done)) | (refine wK ?_; try simp only [go_sem, hrr]) | (refine wE ?_; try simp only [go_sem, hrr]) | refine wX ?_)
  exact wRq
end Go.Proofs.YtfbegbpipmgfiaaDoor.Lift
end
section
/- pdata: data, items that a row is handed. No conditions. -/
set_option linter.unusedVariables false
set_option linter.unusedSimpArgs false
set_option maxHeartbeats 4000000
set_option maxRecDepth 100000
namespace Go.Proofs.YtfbegbpipmgfiaaDoor.Lift
open Go Go.RowKit

theorem rng_u64 {a : Int} (h : IntKind.u64.min ≤ a ∧ a ≤ IntKind.u64.max) : ∃ n : Nat, a = (n : Int) ∧ n < 2 ^ 64 := by
  have h1 : (0 : Int) ≤ a := h.1
  have h2 : a ≤ 18446744073709551615 := h.2
  exact ⟨a.toNat, by omega, by omega⟩
theorem rng_u8 {a : Int} (h : IntKind.u8.min ≤ a ∧ a ≤ IntKind.u8.max) : ∃ n : Nat, a = (n : Int) ∧ n < 256 := by
  have h1 : (0 : Int) ≤ a := h.1
  have h2 : a ≤ 255 := h.2
  exact ⟨a.toNat, by omega, by omega⟩
theorem rng_i32 {a : Int} (h : IntKind.i32.min ≤ a ∧ a ≤ IntKind.i32.max) : -2147483648 ≤ a ∧ a ≤ 2147483647 := h
theorem rng_f64 {b : Nat} (h : (Lit.float .f64 b).wf = true) : b < 2 ^ 64 := by simpa [Lit.wf] using h
theorem ty_q {ds : List D} (h : TyD Tryd.prog 85 ds) : ∃ q : Nat × Nat, ds = qD q ∧ q.1 < 2 ^ 64 ∧ q.2 < 2 ^ 64 := by
  have h0 := h.struct_inv Tryd.underlying85
  simp only [List.map_cons, List.map_nil] at h0
  obtain ⟨d0, r0, rfl, t0, h0⟩ := h0.cons_inv
  obtain ⟨d1, r1, rfl, t1, h0⟩ := h0.cons_inv
  obtain rfl := h0.nil_inv
  obtain ⟨a0, rfl, w0⟩ := t0.float_inv Tryd.underlying44
  obtain ⟨a1, rfl, w1⟩ := t1.float_inv Tryd.underlying44
  exact ⟨(a0, a1), rfl, rng_f64 w0, rng_f64 w1⟩
theorem ty_fs {ds : List D} (h : TyD Tryd.prog 49 ds) : ∃ l : List Nat, ds = [.rows 1 8 (l.map f64L)] ∧ l.length * 8 ≤ 140737488351232 ∧ ∀ x ∈ l, x < 2 ^ 64 := by
  obtain ⟨l, rfl, hl, hr⟩ := h.slice_inv Tryd.underlying49
  rw [show Tryd.prog.bytesOf 44 = 8 by kernel_rfl] at hl ⊢
  rw [show Tryd.prog.cellsOf 44 = 1 by kernel_rfl]
  obtain ⟨xs, rfl, h2⟩ := rows_map (f := f64L) (q := fun x => x < 2 ^ 64) fun row hr0 => by
    obtain ⟨a, rfl, w⟩ := (hr row hr0).float_inv Tryd.underlying44
    exact ⟨a, rfl, rng_f64 w⟩
  exact ⟨xs, rfl, by simpa using hl, h2⟩
theorem ty_us {ds : List D} (h : TyD Tryd.prog 50 ds) : ∃ l : List Nat, ds = [.rows 1 8 (l.map c64L)] ∧ l.length * 8 ≤ 140737488351232 ∧ ∀ x ∈ l, x < 2 ^ 64 := by
  obtain ⟨l, rfl, hl, hr⟩ := h.slice_inv Tryd.underlying50
  rw [show Tryd.prog.bytesOf 42 = 8 by kernel_rfl] at hl ⊢
  rw [show Tryd.prog.cellsOf 42 = 1 by kernel_rfl]
  obtain ⟨xs, rfl, h2⟩ := rows_map (f := c64L) (q := fun x => x < 2 ^ 64) fun row hr0 => by
    obtain ⟨a, rfl, w⟩ := (hr row hr0).int_inv Tryd.underlying42
    obtain ⟨n, rfl, hn⟩ := rng_u64 w
    exact ⟨n, rfl, hn⟩
  exact ⟨xs, rfl, by simpa using hl, h2⟩
theorem ty_qs {ds : List D} (h : TyD Tryd.prog 51 ds) : ∃ l : List (Nat × Nat), ds = [.rows 2 16 (l.map qD)] ∧ l.length * 16 ≤ 140737488351232 ∧ ∀ x ∈ l, x.1 < 2 ^ 64 ∧ x.2 < 2 ^ 64 := by
  obtain ⟨l, rfl, hl, hr⟩ := h.slice_inv Tryd.underlying51
  rw [show Tryd.prog.bytesOf 85 = 16 by kernel_rfl] at hl ⊢
  rw [show Tryd.prog.cellsOf 85 = 2 by kernel_rfl]
  obtain ⟨xs, rfl, h2⟩ := rows_map (f := qD) (q := fun x => x.1 < 2 ^ 64 ∧ x.2 < 2 ^ 64) fun row hr0 => ty_q (hr row hr0)
  exact ⟨xs, rfl, by simpa using hl, h2⟩
theorem ty_pt {ds : List D} (h : TyD Tryd.prog 53 ds) : ∃ p : Pt, ds = ptD p ∧ okT p := by
  have h0 := h.struct_inv Tryd.underlying53
  simp only [List.map_cons, List.map_nil] at h0
  obtain ⟨d0, r0, rfl, t0, h0⟩ := h0.cons_inv
  obtain ⟨d1, r1, rfl, t1, h0⟩ := h0.cons_inv
  obtain ⟨d2, r2, rfl, t2, h0⟩ := h0.cons_inv
  obtain ⟨d3, r3, rfl, t3, h0⟩ := h0.cons_inv
  obtain ⟨d4, r4, rfl, t4, h0⟩ := h0.cons_inv
  obtain ⟨d5, r5, rfl, t5, h0⟩ := h0.cons_inv
  obtain ⟨d6, r6, rfl, t6, h0⟩ := h0.cons_inv
  obtain ⟨d7, r7, rfl, t7, h0⟩ := h0.cons_inv
  obtain ⟨d8, r8, rfl, t8, h0⟩ := h0.cons_inv
  obtain ⟨d9, r9, rfl, t9, h0⟩ := h0.cons_inv
  obtain ⟨d10, r10, rfl, t10, h0⟩ := h0.cons_inv
  obtain ⟨d11, r11, rfl, t11, h0⟩ := h0.cons_inv
  obtain ⟨d12, r12, rfl, t12, h0⟩ := h0.cons_inv
  obtain ⟨d13, r13, rfl, t13, h0⟩ := h0.cons_inv
  obtain rfl := h0.nil_inv
  obtain ⟨a0, rfl, w0⟩ := t0.int_inv Tryd.underlying48
  obtain ⟨a1, rfl, w1⟩ := t1.int_inv Tryd.underlying2
  obtain ⟨a2, rfl, w2⟩ := t2.float_inv Tryd.underlying44
  obtain ⟨a3, rfl, w3⟩ := t3.int_inv Tryd.underlying42
  obtain ⟨a4, rfl, w4⟩ := t4.float_inv Tryd.underlying44
  obtain ⟨a5, rfl⟩ := t5.bool_inv Tryd.underlying4
  obtain ⟨a6, rfl, w6⟩ := ty_fs t6
  obtain ⟨a7, rfl, w7⟩ := ty_us t7
  obtain ⟨a8, rfl, w8⟩ := t8.int_inv Tryd.underlying21
  obtain ⟨a9, rfl, w9⟩ := t9.int_inv Tryd.underlying42
  obtain ⟨a10, rfl, w10⟩ := t10.int_inv Tryd.underlying21
  obtain ⟨a11, rfl, w11⟩ := t11.int_inv Tryd.underlying21
  obtain ⟨a12, rfl, w12⟩ := ty_us t12
  obtain ⟨a13, rfl, w13⟩ := ty_qs t13
  obtain ⟨k, rfl, hk⟩ := rng_u8 w0
  obtain ⟨c, rfl, hc⟩ := rng_u64 w3
  obtain ⟨z, rfl, hz⟩ := rng_u64 w9
  exact ⟨⟨k, a1, a2, c, a4, a5, a6, a7, a8, z, a10, a11, a12, a13⟩, rfl, ⟨hk, range_i64 w1, rng_f64 w2, hc, rng_f64 w4, w6, w7, rng_i32 w8, hz, rng_i32 w10, rng_i32 w11, w12, w13⟩⟩
theorem ty_I {ds : List D} (h : TyD Tryd.prog 55 ds) : ∃ x : It, ds = itD x ∧ okI x := by
  have h0 := h.struct_inv Tryd.underlying55
  simp only [List.map_cons, List.map_nil] at h0
  obtain ⟨d0, r0, rfl, t0, h0⟩ := h0.cons_inv
  obtain ⟨d1, r1, rfl, t1, h0⟩ := h0.cons_inv
  obtain ⟨d2, r2, rfl, t2, h0⟩ := h0.cons_inv
  obtain ⟨d3, r3, rfl, t3, h0⟩ := h0.cons_inv
  obtain ⟨d4, r4, rfl, t4, h0⟩ := h0.cons_inv
  obtain ⟨d5, r5, rfl, t5, h0⟩ := h0.cons_inv
  obtain ⟨d6, r6, rfl, t6, h0⟩ := h0.cons_inv
  obtain ⟨d7, r7, rfl, t7, h0⟩ := h0.cons_inv
  obtain ⟨d8, r8, rfl, t8, h0⟩ := h0.cons_inv
  obtain ⟨d9, r9, rfl, t9, h0⟩ := h0.cons_inv
  obtain ⟨d10, r10, rfl, t10, h0⟩ := h0.cons_inv
  obtain ⟨d11, r11, rfl, t11, h0⟩ := h0.cons_inv
  obtain ⟨d12, r12, rfl, t12, h0⟩ := h0.cons_inv
  obtain ⟨d13, r13, rfl, t13, h0⟩ := h0.cons_inv
  obtain ⟨d14, r14, rfl, t14, h0⟩ := h0.cons_inv
  obtain rfl := h0.nil_inv
  obtain ⟨a0, rfl, w0⟩ := t0.str_inv Tryd.underlying9
  obtain ⟨a1, rfl, w1⟩ := t1.str_inv Tryd.underlying9
  obtain ⟨a2, rfl, w2⟩ := t2.int_inv Tryd.underlying21
  obtain ⟨a3, rfl, w3⟩ := t3.int_inv Tryd.underlying5
  obtain ⟨a4, rfl⟩ := t4.bool_inv Tryd.underlying4
  obtain ⟨a5, rfl, w5⟩ := t5.int_inv Tryd.underlying42
  obtain ⟨a6, rfl, w6⟩ := t6.int_inv Tryd.underlying42
  obtain ⟨a7, rfl, w7⟩ := t7.str_inv Tryd.underlying9
  obtain ⟨a8, rfl, w8⟩ := t8.str_inv Tryd.underlying9
  obtain ⟨a9, rfl, w9⟩ := t9.str_inv Tryd.underlying9
  obtain ⟨a10, rfl, w10⟩ := t10.int_inv Tryd.underlying5
  obtain ⟨a11, rfl, w11⟩ := t11.str_inv Tryd.underlying9
  obtain ⟨a12, rfl, w12⟩ := ty_Ps t12
  obtain ⟨a13, rfl, w13⟩ := ty_V t13
  obtain ⟨a14, rfl, w14⟩ := ty_pt t14
  obtain ⟨tm, rfl, htm⟩ := rng_u8 w3
  obtain ⟨st, rfl, hst⟩ := rng_u64 w5
  obtain ⟨ti, rfl, hti⟩ := rng_u64 w6
  obtain ⟨cd, rfl, hcd⟩ := rng_u8 w10
  refine ⟨⟨a0, a1, a2, tm, a4, st, ti, a7, a8, a9, cd, a11, a12, a13, a14⟩, ?_, ⟨w0, w1, rng_i32 w2, htm, hst, hti, w7, w8, w9, hcd, w11, w12, w13, w14⟩⟩
  rw [vD_ex]
  rfl
theorem ty_Is {ds : List D} (h : TyD Tryd.prog 30 ds) : ∃ l : List It, ds = [.rows 34 416 (l.map itD)] ∧ l.length * 416 ≤ 140737488351232 ∧ ∀ x ∈ l, okI x := by
  obtain ⟨l, rfl, hl, hr⟩ := h.slice_inv Tryd.underlying30
  rw [show Tryd.prog.bytesOf 55 = 416 by kernel_rfl] at hl ⊢
  rw [show Tryd.prog.cellsOf 55 = 34 by kernel_rfl]
  obtain ⟨xs, rfl, h2⟩ := rows_map (f := itD) (q := okI) fun row hr0 => ty_I (hr row hr0)
  exact ⟨xs, rfl, by simpa using hl, h2⟩
theorem ty_G {ds : List D} (h : TyD Tryd.prog 36 ds) : ∃ g : Gr, ds = grD g ∧ okG g := by
  have h0 := h.struct_inv Tryd.underlying36
  simp only [List.map_cons, List.map_nil] at h0
  obtain ⟨d0, r0, rfl, t0, h0⟩ := h0.cons_inv
  obtain ⟨d1, r1, rfl, t1, h0⟩ := h0.cons_inv
  obtain ⟨d2, r2, rfl, t2, h0⟩ := h0.cons_inv
  obtain ⟨d3, r3, rfl, t3, h0⟩ := h0.cons_inv
  obtain ⟨d4, r4, rfl, t4, h0⟩ := h0.cons_inv
  obtain rfl := h0.nil_inv
  obtain ⟨a0, rfl, w0⟩ := ty_Ps t0
  obtain ⟨a1, rfl, w1⟩ := t1.str_inv Tryd.underlying9
  obtain ⟨a2, rfl, w2⟩ := t2.str_inv Tryd.underlying9
  obtain ⟨a3, rfl, w3⟩ := ty_Ps t3
  obtain ⟨a4, rfl, w4⟩ := ty_Is t4
  exact ⟨⟨a0, a1, a2, a3, a4⟩, rfl, ⟨w0, w1, w2, w3, w4⟩⟩
theorem ty_Gs {ds : List D} (h : TyD Tryd.prog 23 ds) : ∃ l : List Gr, ds = [.rows 5 104 (l.map grD)] ∧ l.length * 104 ≤ 140737488351232 ∧ ∀ x ∈ l, okG x := by
  obtain ⟨l, rfl, hl, hr⟩ := h.slice_inv Tryd.underlying23
  rw [show Tryd.prog.bytesOf 36 = 104 by kernel_rfl] at hl ⊢
  rw [show Tryd.prog.cellsOf 36 = 5 by kernel_rfl]
  obtain ⟨xs, rfl, h2⟩ := rows_map (f := grD) (q := okG) fun row hr0 => ty_G (hr row hr0)
  exact ⟨xs, rfl, by simpa using hl, h2⟩
theorem ty_D {ds : List D} (h : TyD Tryd.prog 25 ds) : ∃ d : Da, ds = daD d ∧ okD d := by
  have h0 := h.struct_inv Tryd.underlying25
  simp only [List.map_cons, List.map_nil] at h0
  obtain ⟨d0, r0, rfl, t0, h0⟩ := h0.cons_inv
  obtain ⟨d1, r1, rfl, t1, h0⟩ := h0.cons_inv
  obtain rfl := h0.nil_inv
  obtain ⟨a0, rfl, w0⟩ := t0.int_inv Tryd.underlying22
  obtain ⟨a1, rfl, w1⟩ := ty_Gs t1
  obtain ⟨k, rfl, hk⟩ := rng_u8 w0
  exact ⟨⟨k, a1⟩, rfl, ⟨hk, w1⟩⟩
end Go.Proofs.YtfbegbpipmgfiaaDoor.Lift
end
section
/- The two tables of utf8, out of what a row lists. No conditions. -/
set_option linter.unusedVariables false
namespace Go.Proofs.YtfbegbpipmgfiaaDoor.Lift
open Go Go.Lib
set_option maxRecDepth 100000 in
theorem tabs_of {w : World} (hL : laidMetH Tryd.prog [("unicode/utf8.acceptRanges", Rows.laid_unicode_utf8_acceptRanges), ("unicode/utf8.first", Rows.laid_unicode_utf8_first)] w) : Tabs w := by
  rw [MakeChecks.laidMetH_plain _ _ _ (by kernel_rfl)] at hL
  exact utf8Tabs_of_readsT (U8Types.of196 Tryd.lays196) ⟨by kernel_rfl, by kernel_rfl, by kernel_rfl, by kernel_rfl, by kernel_rfl, by kernel_rfl, by kernel_rfl⟩ (Lib.laidMet.reads hL (.tail _ (.head _))) (Lib.laidMet.reads hL (.head _))
end Go.Proofs.YtfbegbpipmgfiaaDoor.Lift
end
section
/- The walk of PdataMarked, out of the lift. No conditions but that the arguments lie in memory, and that utf8's tables lie as they are laid. -/
set_option linter.unusedVariables false
set_option linter.unusedSimpArgs false
set_option maxHeartbeats 4000000
set_option maxRecDepth 100000
namespace Go.Proofs.YtfbegbpipmgfiaaDoor.Lift
open Go Go.RowKit

theorem marked_walk {w : World} (hT : Tabs w) {ds0 : List D} {us0 : Array Value} (ty0 : TyD Tryd.prog 55 ds0) (rd0 : Dts w ds0 us0.toList) (f : Nat) :
    Calls Tryd.prog 6 #[.agg us0, .float .f64 f] w fun e w' => e = .returned (.bool true) ∧ Below w.heap.size w w' := by
  obtain ⟨x, rfl, hx⟩ := ty_I ty0
  refine (markedL_c (W0 := w) hT x hx f).calls ?_
  simp only [RAs, ia, and_true]
  exact ⟨ra_agg rd0, RA.v_mk rfl⟩
end Go.Proofs.YtfbegbpipmgfiaaDoor.Lift
end
