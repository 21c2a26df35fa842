/- Joined from Lee, Lef, Leg, Leh, Lcb, Lei, Lve, Lvf, Lvg, Lvh, Lvi, Lvj, Lej, Lf4, Lek, Lel. No conditions. -/
import Derived.Test.YtfbegbpipmgfiaaDoorJ2
import Derived.Test.YtfbegbpipmgfiaaDoorJ1
import Derived.Lib.Hide
section
/- pdata: whether a point is right. No conditions but what types allow. -/
set_option linter.unusedVariables false
set_option linter.unusedSimpArgs false
set_option maxHeartbeats 4000000
set_option maxRecDepth 100000
namespace Go.Proofs.YtfbegbpipmgfiaaDoor.Lift
open Go Go.RowKit

/-- The sum, or nothing where it is beyond 64 bits. -/
def sumN (c : Nat) : List Nat → Option Nat
  | [] => some c
  | x :: l => if c + x < 2 ^ 64 then sumN (c + x) l else none
theorem wrap_u64 {x : Nat} (h : x < 2 ^ 64) : IntKind.u64.wrap (x : Int) = x := by
  simp only [IntKind.wrap_u64]
  omega
theorem sumU_N : ∀ (l : List Nat) (c : Nat), c < 2 ^ 64 → (∀ x ∈ l, x < 2 ^ 64) → sumU c (l.map Int.ofNat) = (sumN c l).map Int.ofNat
  | [], c, _, _ => rfl
  | x :: l, c, hc, hl => by
    have hx := hl x (List.mem_cons_self ..)
    simp only [List.map_cons, sumU, sumN]
    have e : IntKind.u64.wrap ((c : Int) + Int.ofNat x) = ((c + x) % 2 ^ 64 : Nat) := by
      simp only [IntKind.wrap_u64]
      show ((c : Int) + (x : Int)) % _ = _
      omega
    rw [e]
    by_cases h : c + x < 2 ^ 64
    · rw [if_pos h, Nat.mod_eq_of_lt h, if_pos (by omega)]
      exact sumU_N l (c + x) h fun y hy => hl y (List.mem_cons_of_mem _ hy)
    · rw [if_neg h, if_neg]
      · rfl
      · omega
def sumRN (o : Option Nat) : Res := match o with | some x => .ret (.d (.v (.int .u64 x))) | none => .panic (err 5)
theorem sumN_c {W0 : World} (c : Nat) (l : List Nat) (hc : c < 2 ^ 64) (hl : ∀ x ∈ l, x < 2 ^ 64) : APure Tryd.prog W0 89 [.d (.v (.int .u64 c)), rc l] (· = sumRN (sumN c l)) := by
  have h := sum_c (W0 := W0) c (l.map Int.ofNat)
  rw [sumU_N l c hc hl, List.map_map] at h
  have e : sumR ((sumN c l).map Int.ofNat) = sumRN (sumN c l) := by cases sumN c l <;> rfl
  rw [e] at h
  exact h
theorem sumN_lt : ∀ {l : List Nat} {c x : Nat}, c < 2 ^ 64 → sumN c l = some x → x < 2 ^ 64
  | [], c, x, hc, h => by cases h; exact hc
  | y :: l, c, x, hc, h => by
    simp only [sumN] at h
    split at h
    · rename_i h1
      exact sumN_lt h1 h
    · cases h
def geF (x y : Nat) : Bool := FloatKind.f64.format.order x y == some .gt || FloatKind.f64.format.order x y == some .eq
def inQ' (q : Nat × Nat) : Bool := geF q.1 0 && leF q.1 4607182418800017408
def histB (p : Pt) : Bool := risesB p.bnd && (((p.cts.length : Int) == ((p.bnd.length + 1 : Nat) : Int)) || (((p.cts.length + p.bnd.length : Nat) : Int) == 0)) && (((p.cts.length : Int) == 0) || (sumN 0 p.cts == some p.cnt))
def expB (p : Pt) : Bool := decide (-10 ≤ p.sc) && decide (p.sc ≤ 20) && ((sumN p.zr p.cts).bind (fun x => sumN x p.neg) == some p.cnt)
def summB (p : Pt) : Bool := p.qts.all inQ' && risesB (p.qts.map (·.1))
def shapeB (p : Pt) : Bool := decide ((p.k : Int) < 6) && samePt p (bareT p)
def bodyB (p : Pt) : Bool := if p.k = 3 then histB p else if p.k = 4 then expB p else if p.k = 5 then summB p else true
def mxP (p : Pt) : Int := mxI (mxI (mxI p.bnd.length p.cts.length) p.neg.length) p.qts.length
def ptE (p : Pt) : Nat := if 256 < mxP p then 3 else if shapeB p && bodyB p then 0 else 5
theorem point_c {W0 : World} (p : Pt) (hp : okT p) : APure Tryd.prog W0 75 [ta p] (· = ends (ptE p)) := by
  have hb := bareT_c (W0 := W0) p
  have hs := samePt_c (W0 := W0) p (bareT p) hp
  have hri := rises_c (W0 := W0) p.bnd (by have := hp.bnd.1; omega)
  have hsu := sumN_c (W0 := W0) 0 p.cts (by decide) hp.cts.2
  obtain ⟨k, n, f, cnt, sum, hs', bnd, cts, sc, zr, off, noff, neg, qts⟩ := p
  obtain ⟨b, hmx⟩ : ∃ b, decide (mxI (mxI (mxI bnd.length cts.length) neg.length) qts.length ≤ 256) = b := ⟨_, rfl⟩
  refine A_body Tryd.func75 rfl (Nat.le_of_ble_eq_true rfl) ?_
  simp only [go_sem, Tryd.ntmps75, Tryd.results75, mkEnv, hmx]
  repeat (first | refine wS ?_ | refine wB ?_ | (refine wR ?_; simp only [go_sem, hmx]) | (refine wT ?_ ?_; focus (simp only [go_sem]; done)) | (refine wF ?_ ?_; focus (simp only [go_sem]; done)) | (refine wK ?_; try simp only [go_sem, hmx]) | (refine wE ?_; try simp only [go_sem, hmx]) | refine wX ?_)
  cases b with
  | false =>
    have he : ptE ⟨k, n, f, cnt, sum, hs', bnd, cts, sc, zr, off, noff, neg, qts⟩ = 3 := by
      rw [ptE, if_pos (by have := of_decide_eq_false hmx; simp only [mxP]; omega)]
    rw [he]
    refine wP (pmust_no 3) ?_
    try simp only [go_sem]
    exact wPan ⟨rfl, rfl⟩
  | true =>
    have h256 : ¬ 256 < mxP ⟨k, n, f, cnt, sum, hs', bnd, cts, sc, zr, off, noff, neg, qts⟩ := by have := of_decide_eq_true hmx; simp only [mxP]; omega
    refine wC (pmust_ok 3) ?_
    simp only [go_sem]
    repeat (first | refine wS ?_ | refine wB ?_ | (refine wR ?_; simp only [go_sem]) | (refine wT ?_ ?_; focus (simp only [go_sem]; done)) | (refine wF ?_ ?_; focus (simp only [go_sem]; done)) | (refine wK ?_; try simp only [go_sem]) | (refine wE ?_; try simp only [go_sem]) | refine wX ?_)
    obtain ⟨b, hsh⟩ : ∃ b, shapeB ⟨k, n, f, cnt, sum, hs', bnd, cts, sc, zr, off, noff, neg, qts⟩ = b := ⟨_, rfl⟩
    have hsh2 := hsh
    unfold shapeB at hsh2
    simp only at hsh2
    refine wD 9 ?_ mixedO (by kernel_rfl)
    simp only [go_sem]
    repeat (first | refine wS ?_ | refine wB ?_ | (refine wR ?_; simp only [go_sem]) | (refine wT ?_ ?_; focus (simp only [go_sem]; done)) | (refine wF ?_ ?_; focus (simp only [go_sem]; done)) | (refine wK ?_; try simp only [go_sem]) | (refine wE ?_; try simp only [go_sem]) | refine wX ?_)
    refine wQG (fun hh => hb) ?_
    simp only [go_sem]
    repeat (first | refine wS ?_ | refine wB ?_ | (refine wR ?_; simp only [go_sem]) | (refine wT ?_ ?_; focus (simp only [go_sem]; done)) | (refine wF ?_ ?_; focus (simp only [go_sem]; done)) | (refine wK ?_; try simp only [go_sem]) | (refine wE ?_; try simp only [go_sem]) | refine wX ?_)
    refine wQG (fun hh => hs) ?_
    simp only [go_sem, hsh2]
    repeat (first | refine wS ?_ | refine wB ?_ | (refine wR ?_; simp only [go_sem, hsh2]) | (refine wT ?_ ?_; focus (simp only [go_sem]; done)) | (refine wF ?_ ?_; focus (simp only [go_sem]; done)) | (refine wK ?_; try simp only [go_sem, hsh2]) | (refine wE ?_; try simp only [go_sem, hsh2]) | refine wX ?_)
    cases b with
    | false =>
      have he : ptE ⟨k, n, f, cnt, sum, hs', bnd, cts, sc, zr, off, noff, neg, qts⟩ = 5 := by
        rw [ptE, if_neg h256, hsh, Bool.false_and, if_neg (by simp)]
      rw [he]
      refine wD1 9 ?_ (by kernel_rfl)
      simp only [go_sem, hsh2]
      refine wP (pmust_no 5) ?_
      try simp only [go_sem, hsh2]
      exact wPan ⟨rfl, rfl⟩
    | true =>
      have he : ptE ⟨k, n, f, cnt, sum, hs', bnd, cts, sc, zr, off, noff, neg, qts⟩ = if bodyB ⟨k, n, f, cnt, sum, hs', bnd, cts, sc, zr, off, noff, neg, qts⟩ then 0 else 5 := by
        rw [ptE, if_neg h256, hsh, Bool.true_and]
      rw [he]
      clear he hb hs
      refine wD1 9 ?_ (by kernel_rfl)
      simp only [go_sem, hsh2]
      refine wC (pmust_ok 5) ?_
      simp only [go_sem, hsh2]
      repeat (first | refine wS ?_ | refine wB ?_ | (refine wR ?_; simp only [go_sem, hsh2]) | (refine wT ?_ ?_; focus (simp only [go_sem]; done)) | (refine wF ?_ ?_; focus (simp only [go_sem]; done)) | (refine wK ?_; try simp only [go_sem, hsh2]) | (refine wE ?_; try simp only [go_sem, hsh2]) | refine wX ?_)
      try simp only [TQ, true_and]
      refine wD0 ?_ (by kernel_rfl)
      try simp only [go_sem, hsh2]
      repeat (first | refine wS ?_ | refine wB ?_ | (refine wR ?_; simp only [go_sem, hsh2]) | (refine wT ?_ ?_; focus (simp only [go_sem]; done)) | (refine wF ?_ ?_; focus (simp only [go_sem]; done)) | (refine wK ?_; try simp only [go_sem, hsh2]) | (refine wE ?_; try simp only [go_sem, hsh2]) | refine wX ?_)
      by_cases h3 : k = 3
      · subst h3
        have hbd : bodyB ⟨3, n, f, cnt, sum, hs', bnd, cts, sc, zr, off, noff, neg, qts⟩ = histB ⟨3, n, f, cnt, sum, hs', bnd, cts, sc, zr, off, noff, neg, qts⟩ := rfl
        rw [hbd]
        have l1 := hp.bnd.1
        have l2 := hp.cts.1
        simp only at l1 l2
        have hl1 : IntKind.i64.wrap ((bnd.length : Int) + 1) = ((bnd.length + 1 : Nat) : Int) := wrap_succ (by omega)
        have hl2 : IntKind.i64.wrap ((cts.length : Int) + (bnd.length : Int)) = ((cts.length + bnd.length : Nat) : Int) := by rw [wrap_in (by omega) (by omega)]; omega
        obtain ⟨r, hr⟩ : ∃ r, risesB bnd = r := ⟨_, rfl⟩
        obtain ⟨e, he⟩ : ∃ e, ((cts.length : Int) == ((bnd.length + 1 : Nat) : Int)) = e := ⟨_, rfl⟩
        obtain ⟨z, hz⟩ : ∃ z, (((cts.length + bnd.length : Nat) : Int) == 0) = z := ⟨_, rfl⟩
        obtain ⟨b, hb⟩ : ∃ b, (r && (e || z)) = b := ⟨_, rfl⟩
        have hh : histB ⟨3, n, f, cnt, sum, hs', bnd, cts, sc, zr, off, noff, neg, qts⟩ = (b && (((cts.length : Int) == 0) || (sumN 0 cts == some cnt))) := by
          simp only [histB, hr, he, hz, hb]
        rw [hh]
        simp only [hr] at hri
        repeat (first | refine wS ?_ | refine wB ?_ | (refine wR ?_; simp only [go_sem, hl1, hl2, he, hz]) | (refine wT ?_ ?_; focus (simp only [go_sem]; done)) | (refine wF ?_ ?_; focus (simp only [go_sem]; done)) | (refine wK ?_; try simp only [go_sem, hl1, hl2, he, hz]) | (refine wE ?_; try simp only [go_sem, hl1, hl2, he, hz]) | refine wX ?_)
        cases r with
        | false =>
          refine wC (hri) ?_
          simp only [go_sem, hl1, hl2, he, hz]
          repeat (first | refine wS ?_ | refine wB ?_ | (refine wR ?_; simp only [go_sem, hl1, hl2, he, hz]) | (refine wT ?_ ?_; focus (simp only [go_sem]; done)) | (refine wF ?_ ?_; focus (simp only [go_sem]; done)) | (refine wK ?_; try simp only [go_sem, hl1, hl2, he, hz]) | (refine wE ?_; try simp only [go_sem, hl1, hl2, he, hz]) | refine wX ?_)
          cases hb
          refine wP (pmust_no 5) ?_
          try simp only [go_sem]
          exact wPan ⟨rfl, rfl⟩
        | true =>
          cases e with
          | true =>
            refine wC (hri) ?_
            simp only [go_sem, hl1, hl2, he, hz]
            repeat (first | refine wS ?_ | refine wB ?_ | (refine wR ?_; simp only [go_sem, hl1, hl2, he, hz]) | (refine wT ?_ ?_; focus (simp only [go_sem]; done)) | (refine wF ?_ ?_; focus (simp only [go_sem]; done)) | (refine wK ?_; try simp only [go_sem, hl1, hl2, he, hz]) | (refine wE ?_; try simp only [go_sem, hl1, hl2, he, hz]) | refine wX ?_)
            cases hb
            refine wC (pmust_ok 5) ?_
            simp only [go_sem]
            repeat (first | refine wS ?_ | refine wB ?_ | (refine wR ?_; simp only [go_sem]) | (refine wT ?_ ?_; focus (simp only [go_sem]; done)) | (refine wF ?_ ?_; focus (simp only [go_sem]; done)) | (refine wK ?_; try simp only [go_sem]) | (refine wE ?_; try simp only [go_sem]) | refine wX ?_)
            obtain ⟨c, hc⟩ : ∃ c, ((cts.length : Int) == 0) = c := ⟨_, rfl⟩
            cases c with
            | true =>
              refine wD 12 ?_ mixedO (by kernel_rfl)
              simp only [go_sem, hc]
              repeat (first | refine wS ?_ | refine wB ?_ | (refine wR ?_; simp only [go_sem, hc]) | (refine wT ?_ ?_; focus (simp only [go_sem]; done)) | (refine wF ?_ ?_; focus (simp only [go_sem]; done)) | (refine wK ?_; try simp only [go_sem, hc]) | (refine wE ?_; try simp only [go_sem, hc]) | refine wX ?_)
              refine wQGn (.d (.v (.int .u64 0))) ?_
              simp only [go_sem]
              repeat (first | refine wS ?_ | refine wB ?_ | (refine wR ?_; simp only [go_sem]) | (refine wT ?_ ?_; focus (simp only [go_sem]; done)) | (refine wF ?_ ?_; focus (simp only [go_sem]; done)) | (refine wK ?_; try simp only [go_sem]) | (refine wE ?_; try simp only [go_sem]) | refine wX ?_)
              refine wD1 12 ?_ (by kernel_rfl)
              simp only [go_sem]
              refine wC (pmust_ok 5) ?_
              simp only [go_sem]
              repeat (first | refine wS ?_ | refine wB ?_ | (refine wR ?_; simp only [go_sem]) | (refine wT ?_ ?_; focus (simp only [go_sem]; done)) | (refine wF ?_ ?_; focus (simp only [go_sem]; done)) | (refine wK ?_; try simp only [go_sem]) | (refine wE ?_; try simp only [go_sem]) | refine wX ?_)
              try simp only [TQ, true_and]
              refine wD0 ?_ (by kernel_rfl)
              try simp only [go_sem]
              repeat (first | refine wS ?_ | refine wB ?_ | (refine wR ?_; simp only [go_sem]) | (refine wT ?_ ?_; focus (simp only [go_sem]; done)) | (refine wF ?_ ?_; focus (simp only [go_sem]; done)) | (refine wK ?_; try simp only [go_sem]) | (refine wE ?_; try simp only [go_sem]) | refine wX ?_)
              exact wNq
            | false =>
              cases hs : sumN 0 cts with
              | none =>
                simp only [hs, sumRN] at hsu
                refine wDI [0, 1, 2, 3, 4, 5, 6] [8, 9] ?_ mixedO (by kernel_rfl)
                simp only [go_sem, hc]
                repeat (first | refine wS ?_ | refine wB ?_ | (refine wR ?_; simp only [go_sem, hc]) | (refine wT ?_ ?_; focus (simp only [go_sem]; done)) | (refine wF ?_ ?_; focus (simp only [go_sem]; done)) | (refine wK ?_; try simp only [go_sem, hc]) | (refine wE ?_; try simp only [go_sem, hc]) | refine wX ?_)
                repeat' (first | (refine wDb 7 8 ?_ ?_ (by decide +kernel)) | (refine wDb 7 9 ?_ ?_ (by decide +kernel)) | (refine wDa 7 ?_ (by decide +kernel)) | (refine wDa 9 ?_ (by decide +kernel)) | (refine wDa 8 ?_ (by decide +kernel)) | (refine sQ ?_) | (refine sT ?_) | (refine sTg ?_) | (refine sNg (.d (.v (.bool true))) ?_) | (refine sQg ?_) | (refine wP (hsu) ?_; try simp only [go_sem, List.getElem_toArray, List.getElem_cons_succ, List.getElem_cons_zero]) | (simp only [go_sem, List.getElem_toArray, List.getElem_cons_succ, List.getElem_cons_zero]; (try simp only [TQ, true_and])))
                all_goals exact wPan ⟨rfl, rfl⟩
              | some x =>
                simp only [hs, sumRN] at hsu
                obtain ⟨y, hy⟩ : ∃ y, ((x : Int) == (cnt : Int)) = y := ⟨_, rfl⟩
                have hy2 : (some x == some cnt) = y := by rw [← hy, kEq]; rfl
                rw [hy2]
                refine wD 12 ?_ mixedO (by kernel_rfl)
                simp only [go_sem, hc]
                repeat (first | refine wS ?_ | refine wB ?_ | (refine wR ?_; simp only [go_sem, hc]) | (refine wT ?_ ?_; focus (simp only [go_sem]; done)) | (refine wF ?_ ?_; focus (simp only [go_sem]; done)) | (refine wK ?_; try simp only [go_sem, hc]) | (refine wE ?_; try simp only [go_sem, hc]) | refine wX ?_)
                refine wQG (fun hh => hsu) ?_
                simp only [go_sem, hy]
                repeat (first | refine wS ?_ | refine wB ?_ | (refine wR ?_; simp only [go_sem, hy]) | (refine wT ?_ ?_; focus (simp only [go_sem]; done)) | (refine wF ?_ ?_; focus (simp only [go_sem]; done)) | (refine wK ?_; try simp only [go_sem, hy]) | (refine wE ?_; try simp only [go_sem, hy]) | refine wX ?_)
                cases y with
                | false =>
                  refine wD1 12 ?_ (by kernel_rfl)
                  simp only [go_sem, hy]
                  refine wP (pmust_no 5) ?_
                  try simp only [go_sem]
                  exact wPan ⟨rfl, rfl⟩
                | true =>
                  refine wD1 12 ?_ (by kernel_rfl)
                  simp only [go_sem, hy]
                  refine wC (pmust_ok 5) ?_
                  simp only [go_sem]
                  repeat (first | refine wS ?_ | refine wB ?_ | (refine wR ?_; simp only [go_sem]) | (refine wT ?_ ?_; focus (simp only [go_sem]; done)) | (refine wF ?_ ?_; focus (simp only [go_sem]; done)) | (refine wK ?_; try simp only [go_sem]) | (refine wE ?_; try simp only [go_sem]) | refine wX ?_)
                  try simp only [TQ, true_and]
                  refine wD0 ?_ (by kernel_rfl)
                  try simp only [go_sem]
                  repeat (first | refine wS ?_ | refine wB ?_ | (refine wR ?_; simp only [go_sem]) | (refine wT ?_ ?_; focus (simp only [go_sem]; done)) | (refine wF ?_ ?_; focus (simp only [go_sem]; done)) | (refine wK ?_; try simp only [go_sem]) | (refine wE ?_; try simp only [go_sem]) | refine wX ?_)
                  exact wNq
          | false =>
            refine wC (hri) ?_
            simp only [go_sem, hl1, hl2, he, hz]
            repeat (first | refine wS ?_ | refine wB ?_ | (refine wR ?_; simp only [go_sem, hl1, hl2, he, hz]) | (refine wT ?_ ?_; focus (simp only [go_sem]; done)) | (refine wF ?_ ?_; focus (simp only [go_sem]; done)) | (refine wK ?_; try simp only [go_sem, hl1, hl2, he, hz]) | (refine wE ?_; try simp only [go_sem, hl1, hl2, he, hz]) | refine wX ?_)
            cases z with
            | false =>
              cases hb
              refine wP (pmust_no 5) ?_
              try simp only [go_sem]
              exact wPan ⟨rfl, rfl⟩
            | true =>
              cases hb
              refine wC (pmust_ok 5) ?_
              simp only [go_sem]
              repeat (first | refine wS ?_ | refine wB ?_ | (refine wR ?_; simp only [go_sem]) | (refine wT ?_ ?_; focus (simp only [go_sem]; done)) | (refine wF ?_ ?_; focus (simp only [go_sem]; done)) | (refine wK ?_; try simp only [go_sem]) | (refine wE ?_; try simp only [go_sem]) | refine wX ?_)
              obtain ⟨c, hc⟩ : ∃ c, ((cts.length : Int) == 0) = c := ⟨_, rfl⟩
              cases c with
              | true =>
                refine wD 12 ?_ mixedO (by kernel_rfl)
                simp only [go_sem, hc]
                repeat (first | refine wS ?_ | refine wB ?_ | (refine wR ?_; simp only [go_sem, hc]) | (refine wT ?_ ?_; focus (simp only [go_sem]; done)) | (refine wF ?_ ?_; focus (simp only [go_sem]; done)) | (refine wK ?_; try simp only [go_sem, hc]) | (refine wE ?_; try simp only [go_sem, hc]) | refine wX ?_)
                refine wQGn (.d (.v (.int .u64 0))) ?_
                simp only [go_sem]
                repeat (first | refine wS ?_ | refine wB ?_ | (refine wR ?_; simp only [go_sem]) | (refine wT ?_ ?_; focus (simp only [go_sem]; done)) | (refine wF ?_ ?_; focus (simp only [go_sem]; done)) | (refine wK ?_; try simp only [go_sem]) | (refine wE ?_; try simp only [go_sem]) | refine wX ?_)
                refine wD1 12 ?_ (by kernel_rfl)
                simp only [go_sem]
                refine wC (pmust_ok 5) ?_
                simp only [go_sem]
                repeat (first | refine wS ?_ | refine wB ?_ | (refine wR ?_; simp only [go_sem]) | (refine wT ?_ ?_; focus (simp only [go_sem]; done)) | (refine wF ?_ ?_; focus (simp only [go_sem]; done)) | (refine wK ?_; try simp only [go_sem]) | (refine wE ?_; try simp only [go_sem]) | refine wX ?_)
                try simp only [TQ, true_and]
                refine wD0 ?_ (by kernel_rfl)
                try simp only [go_sem]
                repeat (first | refine wS ?_ | refine wB ?_ | (refine wR ?_; simp only [go_sem]) | (refine wT ?_ ?_; focus (simp only [go_sem]; done)) | (refine wF ?_ ?_; focus (simp only [go_sem]; done)) | (refine wK ?_; try simp only [go_sem]) | (refine wE ?_; try simp only [go_sem]) | refine wX ?_)
                exact wNq
              | false =>
                cases hs : sumN 0 cts with
                | none =>
                  simp only [hs, sumRN] at hsu
                  refine wDI [0, 1, 2, 3, 4, 5, 6] [8, 9] ?_ mixedO (by kernel_rfl)
                  simp only [go_sem, hc]
                  repeat (first | refine wS ?_ | refine wB ?_ | (refine wR ?_; simp only [go_sem, hc]) | (refine wT ?_ ?_; focus (simp only [go_sem]; done)) | (refine wF ?_ ?_; focus (simp only [go_sem]; done)) | (refine wK ?_; try simp only [go_sem, hc]) | (refine wE ?_; try simp only [go_sem, hc]) | refine wX ?_)
                  repeat' (first | (refine wDb 7 8 ?_ ?_ (by decide +kernel)) | (refine wDb 7 9 ?_ ?_ (by decide +kernel)) | (refine wDa 7 ?_ (by decide +kernel)) | (refine wDa 9 ?_ (by decide +kernel)) | (refine wDa 8 ?_ (by decide +kernel)) | (refine sQ ?_) | (refine sT ?_) | (refine sTg ?_) | (refine sNg (.d (.v (.bool true))) ?_) | (refine sQg ?_) | (refine wP (hsu) ?_; try simp only [go_sem, List.getElem_toArray, List.getElem_cons_succ, List.getElem_cons_zero]) | (simp only [go_sem, List.getElem_toArray, List.getElem_cons_succ, List.getElem_cons_zero]; (try simp only [TQ, true_and])))
                  all_goals exact wPan ⟨rfl, rfl⟩
                | some x =>
                  simp only [hs, sumRN] at hsu
                  obtain ⟨y, hy⟩ : ∃ y, ((x : Int) == (cnt : Int)) = y := ⟨_, rfl⟩
                  have hy2 : (some x == some cnt) = y := by rw [← hy, kEq]; rfl
                  rw [hy2]
                  refine wD 12 ?_ mixedO (by kernel_rfl)
                  simp only [go_sem, hc]
                  repeat (first | refine wS ?_ | refine wB ?_ | (refine wR ?_; simp only [go_sem, hc]) | (refine wT ?_ ?_; focus (simp only [go_sem]; done)) | (refine wF ?_ ?_; focus (simp only [go_sem]; done)) | (refine wK ?_; try simp only [go_sem, hc]) | (refine wE ?_; try simp only [go_sem, hc]) | refine wX ?_)
                  refine wQG (fun hh => hsu) ?_
                  simp only [go_sem, hy]
                  repeat (first | refine wS ?_ | refine wB ?_ | (refine wR ?_; simp only [go_sem, hy]) | (refine wT ?_ ?_; focus (simp only [go_sem]; done)) | (refine wF ?_ ?_; focus (simp only [go_sem]; done)) | (refine wK ?_; try simp only [go_sem, hy]) | (refine wE ?_; try simp only [go_sem, hy]) | refine wX ?_)
                  cases y with
                  | false =>
                    refine wD1 12 ?_ (by kernel_rfl)
                    simp only [go_sem, hy]
                    refine wP (pmust_no 5) ?_
                    try simp only [go_sem]
                    exact wPan ⟨rfl, rfl⟩
                  | true =>
                    refine wD1 12 ?_ (by kernel_rfl)
                    simp only [go_sem, hy]
                    refine wC (pmust_ok 5) ?_
                    simp only [go_sem]
                    repeat (first | refine wS ?_ | refine wB ?_ | (refine wR ?_; simp only [go_sem]) | (refine wT ?_ ?_; focus (simp only [go_sem]; done)) | (refine wF ?_ ?_; focus (simp only [go_sem]; done)) | (refine wK ?_; try simp only [go_sem]) | (refine wE ?_; try simp only [go_sem]) | refine wX ?_)
                    try simp only [TQ, true_and]
                    refine wD0 ?_ (by kernel_rfl)
                    try simp only [go_sem]
                    repeat (first | refine wS ?_ | refine wB ?_ | (refine wR ?_; simp only [go_sem]) | (refine wT ?_ ?_; focus (simp only [go_sem]; done)) | (refine wF ?_ ?_; focus (simp only [go_sem]; done)) | (refine wK ?_; try simp only [go_sem]) | (refine wE ?_; try simp only [go_sem]) | refine wX ?_)
                    exact wNq
      by_cases h4 : k = 4
      · subst h4
        have hbd : bodyB ⟨4, n, f, cnt, sum, hs', bnd, cts, sc, zr, off, noff, neg, qts⟩ = expB ⟨4, n, f, cnt, sum, hs', bnd, cts, sc, zr, off, noff, neg, qts⟩ := rfl
        rw [hbd]
        clear hsu
        have hsu := sumN_c (W0 := W0) zr cts hp.zr hp.cts.2
        obtain ⟨a1, h1⟩ : ∃ a, decide (-10 ≤ sc) = a := ⟨_, rfl⟩
        obtain ⟨a2, h2⟩ : ∃ a, decide (sc ≤ 20) = a := ⟨_, rfl⟩
        obtain ⟨v, hv⟩ : ∃ v, ((sumN zr cts).bind (fun x => sumN x neg) == some cnt) = v := ⟨_, rfl⟩
        have hh : expB ⟨4, n, f, cnt, sum, hs', bnd, cts, sc, zr, off, noff, neg, qts⟩ = (a1 && a2 && v) := by
          simp only [expB, h1, h2, hv]
        rw [hh]
        cases a1 with
        | false =>
          repeat (first | refine wS ?_ | refine wB ?_ | (refine wR ?_; simp only [go_sem, h1, h2]) | (refine wT ?_ ?_; focus (simp only [go_sem]; done)) | (refine wF ?_ ?_; focus (simp only [go_sem]; done)) | (refine wK ?_; try simp only [go_sem, h1, h2]) | (refine wE ?_; try simp only [go_sem, h1, h2]) | refine wX ?_)
          refine wD 21 ?_ mixedO (by kernel_rfl)
          simp only [go_sem, h1, h2]
          repeat (first | refine wS ?_ | refine wB ?_ | (refine wR ?_; simp only [go_sem, h1, h2]) | (refine wT ?_ ?_; focus (simp only [go_sem]; done)) | (refine wF ?_ ?_; focus (simp only [go_sem]; done)) | (refine wK ?_; try simp only [go_sem, h1, h2]) | (refine wE ?_; try simp only [go_sem, h1, h2]) | refine wX ?_)
          refine wQGn (.d (.v (.int .u64 0))) ?_
          simp only [go_sem]
          repeat (first | refine wS ?_ | refine wB ?_ | (refine wR ?_; simp only [go_sem]) | (refine wT ?_ ?_; focus (simp only [go_sem]; done)) | (refine wF ?_ ?_; focus (simp only [go_sem]; done)) | (refine wK ?_; try simp only [go_sem]) | (refine wE ?_; try simp only [go_sem]) | refine wX ?_)
          refine wQGn (.d (.v (.int .u64 0))) ?_
          simp only [go_sem]
          repeat (first | refine wS ?_ | refine wB ?_ | (refine wR ?_; simp only [go_sem]) | (refine wT ?_ ?_; focus (simp only [go_sem]; done)) | (refine wF ?_ ?_; focus (simp only [go_sem]; done)) | (refine wK ?_; try simp only [go_sem]) | (refine wE ?_; try simp only [go_sem]) | refine wX ?_)
          refine wD1 21 ?_ (by kernel_rfl)
          simp only [go_sem, h1, h2]
          refine wP (pmust_no 5) ?_
          try simp only [go_sem]
          exact wPan ⟨rfl, rfl⟩
        | true =>
          cases a2 with
          | false =>
            repeat (first | refine wS ?_ | refine wB ?_ | (refine wR ?_; simp only [go_sem, h1, h2]) | (refine wT ?_ ?_; focus (simp only [go_sem]; done)) | (refine wF ?_ ?_; focus (simp only [go_sem]; done)) | (refine wK ?_; try simp only [go_sem, h1, h2]) | (refine wE ?_; try simp only [go_sem, h1, h2]) | refine wX ?_)
            refine wD 21 ?_ mixedO (by kernel_rfl)
            simp only [go_sem, h1, h2]
            repeat (first | refine wS ?_ | refine wB ?_ | (refine wR ?_; simp only [go_sem, h1, h2]) | (refine wT ?_ ?_; focus (simp only [go_sem]; done)) | (refine wF ?_ ?_; focus (simp only [go_sem]; done)) | (refine wK ?_; try simp only [go_sem, h1, h2]) | (refine wE ?_; try simp only [go_sem, h1, h2]) | refine wX ?_)
            refine wQGn (.d (.v (.int .u64 0))) ?_
            simp only [go_sem]
            repeat (first | refine wS ?_ | refine wB ?_ | (refine wR ?_; simp only [go_sem]) | (refine wT ?_ ?_; focus (simp only [go_sem]; done)) | (refine wF ?_ ?_; focus (simp only [go_sem]; done)) | (refine wK ?_; try simp only [go_sem]) | (refine wE ?_; try simp only [go_sem]) | refine wX ?_)
            refine wQGn (.d (.v (.int .u64 0))) ?_
            simp only [go_sem]
            repeat (first | refine wS ?_ | refine wB ?_ | (refine wR ?_; simp only [go_sem]) | (refine wT ?_ ?_; focus (simp only [go_sem]; done)) | (refine wF ?_ ?_; focus (simp only [go_sem]; done)) | (refine wK ?_; try simp only [go_sem]) | (refine wE ?_; try simp only [go_sem]) | refine wX ?_)
            refine wD1 21 ?_ (by kernel_rfl)
            simp only [go_sem, h1, h2]
            refine wP (pmust_no 5) ?_
            try simp only [go_sem]
            exact wPan ⟨rfl, rfl⟩
          | true =>
            repeat (first | refine wS ?_ | refine wB ?_ | (refine wR ?_; simp only [go_sem, h1, h2]) | (refine wT ?_ ?_; focus (simp only [go_sem]; done)) | (refine wF ?_ ?_; focus (simp only [go_sem]; done)) | (refine wK ?_; try simp only [go_sem, h1, h2]) | (refine wE ?_; try simp only [go_sem, h1, h2]) | refine wX ?_)
            cases hs : sumN zr cts with
            | none =>
              simp only [hs, sumRN] at hsu
              have hvf : v = false := by rw [← hv, hs]; rfl
              subst hvf
              refine wDI [0, 1, 2, 3, 4, 5, 6, 7, 8, 9, 10, 11, 12] [14, 15, 17, 18] ?_ mixedO (by kernel_rfl)
              simp only [go_sem, h1, h2]
              repeat (first | refine wS ?_ | refine wB ?_ | (refine wR ?_; simp only [go_sem, h1, h2]) | (refine wT ?_ ?_; focus (simp only [go_sem]; done)) | (refine wF ?_ ?_; focus (simp only [go_sem]; done)) | (refine wK ?_; try simp only [go_sem, h1, h2]) | (refine wE ?_; try simp only [go_sem, h1, h2]) | refine wX ?_)
              repeat' (first | (refine wDc 13 14 17 ?_ ?_ ?_ (by decide +kernel)) | (refine wDc 13 14 18 ?_ ?_ ?_ (by decide +kernel)) | (refine wDb 13 14 ?_ ?_ (by decide +kernel)) | (refine wDb 13 15 ?_ ?_ (by decide +kernel)) | (refine wDa 13 ?_ (by decide +kernel)) | (refine wDa 15 ?_ (by decide +kernel)) | (refine wDa 14 ?_ (by decide +kernel)) | (refine wDc 13 15 18 ?_ ?_ ?_ (by decide +kernel)) | (refine wDb 13 18 ?_ ?_ (by decide +kernel)) | (refine wDb 15 18 ?_ ?_ (by decide +kernel)) | (refine wDb 14 18 ?_ ?_ (by decide +kernel)) | (refine wDc 13 15 17 ?_ ?_ ?_ (by decide +kernel)) | (refine wDb 13 17 ?_ ?_ (by decide +kernel)) | (refine wDb 15 17 ?_ ?_ (by decide +kernel)) | (refine wDb 14 17 ?_ ?_ (by decide +kernel)) | (refine sQ ?_) | (refine sT ?_) | (refine sTg ?_) | (refine sNg (.d (.v (.bool true))) ?_) | (refine sQg ?_) | (refine wP (hsu) ?_; try simp only [go_sem, List.getElem_toArray, List.getElem_cons_succ, List.getElem_cons_zero]) | (simp only [go_sem, List.getElem_toArray, List.getElem_cons_succ, List.getElem_cons_zero]; (try simp only [TQ, true_and])))
              all_goals exact wPan ⟨rfl, rfl⟩
            | some x =>
              simp only [hs, sumRN] at hsu
              have hsu2 := sumN_c (W0 := W0) x neg (sumN_lt hp.zr hs) hp.neg.2
              cases hs2 : sumN x neg with
              | none =>
                simp only [hs2, sumRN] at hsu2
                have hvf : v = false := by rw [← hv, hs, Option.bind_some, hs2]; rfl
                subst hvf
                refine wDI [0, 1, 2, 3, 4, 5, 6, 7, 8, 9, 10, 11, 12, 13, 14, 15] [17, 18] ?_ mixedO (by kernel_rfl)
                simp only [go_sem, h1, h2]
                repeat (first | refine wS ?_ | refine wB ?_ | (refine wR ?_; simp only [go_sem, h1, h2]) | (refine wT ?_ ?_; focus (simp only [go_sem]; done)) | (refine wF ?_ ?_; focus (simp only [go_sem]; done)) | (refine wK ?_; try simp only [go_sem, h1, h2]) | (refine wE ?_; try simp only [go_sem, h1, h2]) | refine wX ?_)
                refine wQG (fun hh => hsu) ?_
                simp only [go_sem, h1, h2]
                repeat (first | refine wS ?_ | refine wB ?_ | (refine wR ?_; simp only [go_sem, h1, h2]) | (refine wT ?_ ?_; focus (simp only [go_sem]; done)) | (refine wF ?_ ?_; focus (simp only [go_sem]; done)) | (refine wK ?_; try simp only [go_sem, h1, h2]) | (refine wE ?_; try simp only [go_sem, h1, h2]) | refine wX ?_)
                repeat' (first | (refine wDb 16 17 ?_ ?_ (by decide +kernel)) | (refine wDb 16 18 ?_ ?_ (by decide +kernel)) | (refine wDa 16 ?_ (by decide +kernel)) | (refine wDa 18 ?_ (by decide +kernel)) | (refine wDa 17 ?_ (by decide +kernel)) | (refine sQ ?_) | (refine sT ?_) | (refine sTg ?_) | (refine sNg (.d (.v (.bool true))) ?_) | (refine sQg ?_) | (refine wP (hsu2) ?_; try simp only [go_sem, List.getElem_toArray, List.getElem_cons_succ, List.getElem_cons_zero]) | (simp only [go_sem, List.getElem_toArray, List.getElem_cons_succ, List.getElem_cons_zero]; (try simp only [TQ, true_and])))
                all_goals exact wPan ⟨rfl, rfl⟩
              | some x2 =>
                simp only [hs2, sumRN] at hsu2
                obtain ⟨y, hy⟩ : ∃ y, ((x2 : Int) == (cnt : Int)) = y := ⟨_, rfl⟩
                have hvy : v = y := by rw [← hv, hs, Option.bind_some, hs2, ← hy, kEq]; rfl
                subst hvy
                refine wD 21 ?_ mixedO (by kernel_rfl)
                simp only [go_sem, h1, h2]
                repeat (first | refine wS ?_ | refine wB ?_ | (refine wR ?_; simp only [go_sem, h1, h2]) | (refine wT ?_ ?_; focus (simp only [go_sem]; done)) | (refine wF ?_ ?_; focus (simp only [go_sem]; done)) | (refine wK ?_; try simp only [go_sem, h1, h2]) | (refine wE ?_; try simp only [go_sem, h1, h2]) | refine wX ?_)
                refine wQG (fun hh => hsu) ?_
                simp only [go_sem, hy]
                repeat (first | refine wS ?_ | refine wB ?_ | (refine wR ?_; simp only [go_sem, hy]) | (refine wT ?_ ?_; focus (simp only [go_sem]; done)) | (refine wF ?_ ?_; focus (simp only [go_sem]; done)) | (refine wK ?_; try simp only [go_sem, hy]) | (refine wE ?_; try simp only [go_sem, hy]) | refine wX ?_)
                refine wQG (fun hh => hsu2) ?_
                simp only [go_sem, hy]
                repeat (first | refine wS ?_ | refine wB ?_ | (refine wR ?_; simp only [go_sem, hy]) | (refine wT ?_ ?_; focus (simp only [go_sem]; done)) | (refine wF ?_ ?_; focus (simp only [go_sem]; done)) | (refine wK ?_; try simp only [go_sem, hy]) | (refine wE ?_; try simp only [go_sem, hy]) | refine wX ?_)
                cases v with
                | false =>
                  refine wD1 21 ?_ (by kernel_rfl)
                  simp only [go_sem, hy]
                  refine wP (pmust_no 5) ?_
                  try simp only [go_sem]
                  exact wPan ⟨rfl, rfl⟩
                | true =>
                  refine wD1 21 ?_ (by kernel_rfl)
                  simp only [go_sem, hy]
                  refine wC (pmust_ok 5) ?_
                  simp only [go_sem]
                  repeat (first | refine wS ?_ | refine wB ?_ | (refine wR ?_; simp only [go_sem]) | (refine wT ?_ ?_; focus (simp only [go_sem]; done)) | (refine wF ?_ ?_; focus (simp only [go_sem]; done)) | (refine wK ?_; try simp only [go_sem]) | (refine wE ?_; try simp only [go_sem]) | refine wX ?_)
                  try simp only [TQ, true_and]
                  refine wD0 ?_ (by kernel_rfl)
                  try simp only [go_sem]
                  repeat (first | refine wS ?_ | refine wB ?_ | (refine wR ?_; simp only [go_sem]) | (refine wT ?_ ?_; focus (simp only [go_sem]; done)) | (refine wF ?_ ?_; focus (simp only [go_sem]; done)) | (refine wK ?_; try simp only [go_sem]) | (refine wE ?_; try simp only [go_sem]) | refine wX ?_)
                  exact wNq
      by_cases h5 : k = 5
      · subst h5
        have hbd : bodyB ⟨5, n, f, cnt, sum, hs', bnd, cts, sc, zr, off, noff, neg, qts⟩ = (qts.all inQ' && risesB (qts.map (·.1))) := rfl
        rw [hbd]
        have lq := hp.qts.1
        simp only at lq
        have hri2 := rises_c (W0 := W0) (qts.map (·.1)) (by rw [List.length_map]; omega)
        repeat (first | refine wS ?_ | refine wB ?_ | (refine wR ?_; simp only [go_sem]) | (refine wT ?_ ?_; focus (simp only [go_sem]; done)) | (refine wF ?_ ?_; focus (simp only [go_sem]; done)) | (refine wK ?_; try simp only [go_sem]) | (refine wE ?_; try simp only [go_sem]) | refine wX ?_)
        refine wOpn 2 1 8 ?_
        simp only [go_sem]
        repeat (first | refine wS ?_ | refine wB ?_ | (refine wR ?_; simp only [go_sem]) | (refine wT ?_ ?_; focus (simp only [go_sem]; done)) | (refine wF ?_ ?_; focus (simp only [go_sem]; done)) | (refine wK ?_; try simp only [go_sem]) | (refine wE ?_; try simp only [go_sem]) | refine wX ?_)
        refine wL (fun i => ⟨122, ofL [(1, .ptr 0 0), (2, .sl 1 1 0 i), (98, rq qts), (99, .d (.v (.int .i64 qts.length))), (100, .d (.v (.int .i64 i)))], [.var ((ptD ⟨5, n, f, cnt, sum, hs', bnd, cts, sc, zr, off, noff, neg, qts⟩).map .d), .vec 1 8 ((qts.take i).map fun q => f64L q.1)]⟩) (qts.length) (fun i => (qts.take i).all inQ' = true) wSb (rfl) ?_
        intro i hi hinv R hR
        simp only [go_sem]
        repeat (first | refine wS ?_ | refine wB ?_ | (refine wR ?_; simp only [go_sem]) | (refine wT ?_ ?_; focus (simp only [go_sem]; done)) | (refine wF ?_ ?_; focus (simp only [go_sem]; done)) | (refine wK ?_; try simp only [go_sem]) | (refine wE ?_; try simp only [go_sem]) | refine wX ?_)
        refine wI (fun h => ?_) (fun h => ?_)
        · have hlt : i < qts.length := by simpa using h
          have hlt2 : ((i : Int) < ((qts.length : Nat) : Int)) = True := eq_true (by omega)
          have hw := wrap_succ (i := i) (by omega)
          have hx : (qts.map qD)[i]? = some (qD qts[i]) := by rw [List.getElem?_map, List.getElem?_eq_getElem hlt]; rfl
          have htk : qts.take (i + 1) = qts.take i ++ [qts[i]] := by rw [List.take_add_one, List.getElem?_eq_getElem hlt]; rfl
          have hmem : qts[i] ∈ qts := List.getElem_mem hlt
          generalize qts[i] = q at hx htk hmem
          have hap : ((qts.take i).map fun q => f64L q.1) ++ [f64L q.1] = (qts.take (i + 1)).map fun q => f64L q.1 := by rw [htk, List.map_append]; rfl
          have hin : (qts.take (i + 1)).all inQ' = inQ' q := by rw [htk, List.all_append, hinv]; simp
          have hlen : ((qts.take i).map fun q => f64L q.1).length = i := by simp; omega
          have hlen2 : (qts.take (i + 1)).length = i + 1 := by simp; omega
          obtain ⟨b, hb⟩ : ∃ b, inQ' q = b := ⟨_, rfl⟩
          have hb2 : ((FloatKind.f64.format.order q.1 0 == some .gt || FloatKind.f64.format.order q.1 0 == some .eq) && (FloatKind.f64.format.order q.1 4607182418800017408 == some .lt || FloatKind.f64.format.order q.1 4607182418800017408 == some .eq)) = b := hb
          repeat (first | refine wS ?_ | refine wB ?_ | (refine wR ?_; simp only [go_sem, hx, qD]) | (refine wT ?_ ?_; focus (simp only [go_sem]; done)) | (refine wF ?_ ?_; focus (simp only [go_sem]; done)) | (refine wK ?_; try simp only [go_sem, hx, qD]) | (refine wE ?_; try simp only [go_sem, hx, qD]) | refine wX ?_)
          refine wA ((qts.take i).map fun q => f64L q.1) ([f64L q.1]) ?_ (hbound := by rw [hlen]; simp; omega)
          simp only [go_sem, hap, hlen, hlen2, hb2]
          repeat (first | refine wS ?_ | refine wB ?_ | (refine wR ?_; simp only [go_sem, hap, hlen, hlen2, hb2]) | (refine wT ?_ ?_; focus (simp only [go_sem]; done)) | (refine wF ?_ ?_; focus (simp only [go_sem]; done)) | (refine wK ?_; try simp only [go_sem, hap, hlen, hlen2, hb2]) | (refine wE ?_; try simp only [go_sem, hap, hlen, hlen2, hb2]) | refine wX ?_)
          cases b with
          | false =>
            refine wP (pmust_no 5) ?_
            try simp only [go_sem, hb2]
            refine wPan ⟨?_, rfl⟩
            have hf : qts.all inQ' = false := by
              rw [Bool.eq_false_iff, Ne, List.all_eq_true]
              intro hall
              have := hall q hmem
              rw [hb] at this
              cases this
            rw [hf, Bool.false_and]
            rfl
          | true =>
            refine wC (pmust_ok 5) ?_
            simp only [go_sem, hb2, hw]
            repeat (first | refine wS ?_ | refine wB ?_ | (refine wR ?_; simp only [go_sem, hb2, hw]) | (refine wT ?_ ?_; focus (simp only [go_sem]; done)) | (refine wF ?_ ?_; focus (simp only [go_sem]; done)) | (refine wK ?_; try simp only [go_sem, hb2, hw]) | (refine wE ?_; try simp only [go_sem, hb2, hw]) | refine wX ?_)
            exact hR hlt (hin.trans hb) _ wSb
        · obtain rfl : i = qts.length := by simp at h; omega
          rw [List.take_length] at hinv
          refine wFz 1 ?_
          simp only [go_sem, List.take_length]
          repeat (first | refine wS ?_ | refine wB ?_ | (refine wR ?_; simp only [go_sem, List.take_length]) | (refine wT ?_ ?_; focus (simp only [go_sem]; done)) | (refine wF ?_ ?_; focus (simp only [go_sem]; done)) | (refine wK ?_; try simp only [go_sem, List.take_length]) | (refine wE ?_; try simp only [go_sem, List.take_length]) | refine wX ?_)
          have hri3 : APure Tryd.prog W0 88 [.d (.rows 1 8 (qts.map fun q => f64L q.1))] (· = .ret (.d (.v (.bool (risesB (qts.map (·.1))))))) := by
            have := hri2
            rw [rf, List.map_map] at this
            exact this
          refine wC (hri3) ?_
          simp only [go_sem]
          repeat (first | refine wS ?_ | refine wB ?_ | (refine wR ?_; simp only [go_sem]) | (refine wT ?_ ?_; focus (simp only [go_sem]; done)) | (refine wF ?_ ?_; focus (simp only [go_sem]; done)) | (refine wK ?_; try simp only [go_sem]) | (refine wE ?_; try simp only [go_sem]) | refine wX ?_)
          rw [hinv, Bool.true_and]
          cases hr : risesB (qts.map (·.1)) with
          | false =>
            refine wP (pmust_no 5) ?_
            try simp only [go_sem, hr]
            exact wPan ⟨rfl, rfl⟩
          | true =>
            refine wC (pmust_ok 5) ?_
            simp only [go_sem, hr]
            repeat (first | refine wS ?_ | refine wB ?_ | (refine wR ?_; simp only [go_sem, hr]) | (refine wT ?_ ?_; focus (simp only [go_sem]; done)) | (refine wF ?_ ?_; focus (simp only [go_sem]; done)) | (refine wK ?_; try simp only [go_sem, hr]) | (refine wE ?_; try simp only [go_sem, hr]) | refine wX ?_)
            exact wNq
      have e3 : ((k : Int) == 3) = false := (kEq k 3).trans (decide_eq_false h3)
      have e4 : ((k : Int) == 4) = false := (kEq k 4).trans (decide_eq_false h4)
      have e5 : ((k : Int) == 5) = false := (kEq k 5).trans (decide_eq_false h5)
      have hbd : bodyB ⟨k, n, f, cnt, sum, hs', bnd, cts, sc, zr, off, noff, neg, qts⟩ = true := by
        simp only [bodyB, h3, h4, h5, if_false]
      rw [hbd]
      simp only [go_sem, e3]
      repeat (first | refine wS ?_ | refine wB ?_ | (refine wR ?_; simp only [go_sem, e3, e4, e5]) | (refine wT ?_ ?_; focus (simp only [go_sem]; done)) | (refine wF ?_ ?_; focus (simp only [go_sem]; done)) | (refine wK ?_; try simp only [go_sem, e3, e4, e5]) | (refine wE ?_; try simp only [go_sem, e3, e4, e5]) | refine wX ?_)
      exact wNq
end Go.Proofs.YtfbegbpipmgfiaaDoor.Lift
end
section
/- pdata: an item with just what its signal has; items held against each other. No conditions but what types allow. -/
set_option linter.unusedVariables false
set_option linter.unusedSimpArgs false
set_option maxHeartbeats 4000000
set_option maxRecDepth 100000
namespace Go.Proofs.YtfbegbpipmgfiaaDoor.Lift
open Go Go.RowKit

def zeroV : V := .mk 0 ByteArray.empty false 0 0 [] []
def zeroT : Pt := ⟨0, 0, 0, 0, 0, false, [], [], 0, 0, 0, 0, [], []⟩
def midB (k : Int) : Bool := decide (2 ≤ k) && decide (k ≤ 4)
def ownI (x : It) (s : Nat) : It :=
  { name := x.name, unit := if s = 3 then x.unit else ByteArray.empty, kind := x.kind, temp := if s = 3 ∧ midB x.kind = true then x.temp else 0, mono := if s = 3 then x.mono && (x.kind == 2) else false, start := x.start, time := x.time,
    trace := if s = 1 ∨ s = 2 then x.trace else ByteArray.empty, span := if s = 1 ∨ s = 2 then x.span else ByteArray.empty, parent := if s = 1 then x.parent else ByteArray.empty, code := if s = 1 then x.code else 0, msg := if s = 1 then x.msg else ByteArray.empty,
    attrs := x.attrs, body := if s = 2 then x.body else zeroV, pt := if s = 3 then x.pt else zeroT }
theorem ownI_c {W0 : World} (x : It) (s : Nat) : APure Tryd.prog W0 76 [ia x, .d (.v (.int .u8 s))] (· = .ret (ia (ownI x s))) := by
  obtain ⟨m, hm⟩ : ∃ m, decide (2 ≤ x.kind) = m := ⟨_, rfl⟩
  obtain ⟨m', hm'⟩ : ∃ m, decide (x.kind ≤ 4) = m := ⟨_, rfl⟩
  by_cases h1 : s = 1
  · subst h1
    refine A_body Tryd.func76 rfl (Nat.le_of_ble_eq_true rfl) ?_
    simp only [go_sem, Tryd.ntmps76, Tryd.results76, mkEnv]
    repeat (first | refine wS ?_ | refine wB ?_ | (refine wR ?_; simp only [go_sem]) | (refine wT ?_ ?_; focus (simp only [go_sem]; done)) | (refine wF ?_ ?_; focus (simp only [go_sem]; done)) | (refine wK ?_; try simp only [go_sem]) | (refine wE ?_; try simp only [go_sem]) | refine wX ?_)
    refine wM ?_ mixedO (by kernel_rfl)
    simp only [go_sem]
    repeat (first | refine wS ?_ | refine wB ?_ | (refine wR ?_; simp only [go_sem]) | (refine wT ?_ ?_; focus (simp only [go_sem]; done)) | (refine wF ?_ ?_; focus (simp only [go_sem]; done)) | (refine wK ?_; try simp only [go_sem]) | (refine wE ?_; try simp only [go_sem]) | refine wX ?_)
    refine wM ?_ mixedO (by kernel_rfl)
    simp only [go_sem]
    repeat (first | refine wS ?_ | refine wB ?_ | (refine wR ?_; simp only [go_sem]) | (refine wT ?_ ?_; focus (simp only [go_sem]; done)) | (refine wF ?_ ?_; focus (simp only [go_sem]; done)) | (refine wK ?_; try simp only [go_sem]) | (refine wE ?_; try simp only [go_sem]) | refine wX ?_)
    exact wRet ⟨rfl, rfl⟩ (hle := Le.agg (by repeat (first | exact .nil | refine .cons (Le.refl _) ?_ | refine .cons (Le.nil (by decide)) ?_)))
  by_cases h2 : s = 2
  · subst h2
    refine A_body Tryd.func76 rfl (Nat.le_of_ble_eq_true rfl) ?_
    simp only [go_sem, Tryd.ntmps76, Tryd.results76, mkEnv]
    repeat (first | refine wS ?_ | refine wB ?_ | (refine wR ?_; simp only [go_sem]) | (refine wT ?_ ?_; focus (simp only [go_sem]; done)) | (refine wF ?_ ?_; focus (simp only [go_sem]; done)) | (refine wK ?_; try simp only [go_sem]) | (refine wE ?_; try simp only [go_sem]) | refine wX ?_)
    refine wM ?_ mixedO (by kernel_rfl)
    simp only [go_sem]
    repeat (first | refine wS ?_ | refine wB ?_ | (refine wR ?_; simp only [go_sem]) | (refine wT ?_ ?_; focus (simp only [go_sem]; done)) | (refine wF ?_ ?_; focus (simp only [go_sem]; done)) | (refine wK ?_; try simp only [go_sem]) | (refine wE ?_; try simp only [go_sem]) | refine wX ?_)
    refine wM ?_ mixedO (by kernel_rfl)
    simp only [go_sem]
    repeat (first | refine wS ?_ | refine wB ?_ | (refine wR ?_; simp only [go_sem]) | (refine wT ?_ ?_; focus (simp only [go_sem]; done)) | (refine wF ?_ ?_; focus (simp only [go_sem]; done)) | (refine wK ?_; try simp only [go_sem]) | (refine wE ?_; try simp only [go_sem]) | refine wX ?_)
    exact wRet ⟨rfl, rfl⟩ (hle := Le.agg (by repeat (first | exact .nil | refine .cons (Le.refl _) ?_ | refine .cons (Le.nil (by decide)) ?_)))
  by_cases h3 : s = 3
  · subst h3
    have ho : ownI x 3 = { name := x.name, unit := x.unit, kind := x.kind, temp := if midB x.kind = true then x.temp else 0, mono := x.mono && (x.kind == 2), start := x.start, time := x.time, trace := ByteArray.empty, span := ByteArray.empty, parent := ByteArray.empty, code := 0, msg := ByteArray.empty, attrs := x.attrs, body := zeroV, pt := x.pt } := by
      simp [ownI]
    rw [ho, midB, hm, hm']
    cases m with
    | false =>
      refine A_body Tryd.func76 rfl (Nat.le_of_ble_eq_true rfl) ?_
      simp only [go_sem, Tryd.ntmps76, Tryd.results76, mkEnv]
      repeat (first | refine wS ?_ | refine wB ?_ | (refine wR ?_; simp only [go_sem]) | (refine wT ?_ ?_; focus (simp only [go_sem]; done)) | (refine wF ?_ ?_; focus (simp only [go_sem]; done)) | (refine wK ?_; try simp only [go_sem]) | (refine wE ?_; try simp only [go_sem]) | refine wX ?_)
      refine wM ?_ mixedO (by kernel_rfl)
      simp only [go_sem, hm, hm']
      repeat (first | refine wS ?_ | refine wB ?_ | (refine wR ?_; simp only [go_sem, hm, hm']) | (refine wT ?_ ?_; focus (simp only [go_sem]; done)) | (refine wF ?_ ?_; focus (simp only [go_sem]; done)) | (refine wK ?_; try simp only [go_sem, hm, hm']) | (refine wE ?_; try simp only [go_sem, hm, hm']) | refine wX ?_)
      refine wM ?_ mixedO (by kernel_rfl)
      simp only [go_sem]
      repeat (first | refine wS ?_ | refine wB ?_ | (refine wR ?_; simp only [go_sem]) | (refine wT ?_ ?_; focus (simp only [go_sem]; done)) | (refine wF ?_ ?_; focus (simp only [go_sem]; done)) | (refine wK ?_; try simp only [go_sem]) | (refine wE ?_; try simp only [go_sem]) | refine wX ?_)
      exact wRet ⟨rfl, rfl⟩ (hle := Le.agg (by repeat (first | exact .nil | refine .cons (Le.refl _) ?_ | refine .cons (Le.nil (by decide)) ?_)))
    | true =>
      cases m' with
      | false =>
        refine A_body Tryd.func76 rfl (Nat.le_of_ble_eq_true rfl) ?_
        simp only [go_sem, Tryd.ntmps76, Tryd.results76, mkEnv]
        repeat (first | refine wS ?_ | refine wB ?_ | (refine wR ?_; simp only [go_sem]) | (refine wT ?_ ?_; focus (simp only [go_sem]; done)) | (refine wF ?_ ?_; focus (simp only [go_sem]; done)) | (refine wK ?_; try simp only [go_sem]) | (refine wE ?_; try simp only [go_sem]) | refine wX ?_)
        refine wM ?_ mixedO (by kernel_rfl)
        simp only [go_sem, hm, hm']
        repeat (first | refine wS ?_ | refine wB ?_ | (refine wR ?_; simp only [go_sem, hm, hm']) | (refine wT ?_ ?_; focus (simp only [go_sem]; done)) | (refine wF ?_ ?_; focus (simp only [go_sem]; done)) | (refine wK ?_; try simp only [go_sem, hm, hm']) | (refine wE ?_; try simp only [go_sem, hm, hm']) | refine wX ?_)
        refine wM ?_ mixedO (by kernel_rfl)
        simp only [go_sem]
        repeat (first | refine wS ?_ | refine wB ?_ | (refine wR ?_; simp only [go_sem]) | (refine wT ?_ ?_; focus (simp only [go_sem]; done)) | (refine wF ?_ ?_; focus (simp only [go_sem]; done)) | (refine wK ?_; try simp only [go_sem]) | (refine wE ?_; try simp only [go_sem]) | refine wX ?_)
        exact wRet ⟨rfl, rfl⟩ (hle := Le.agg (by repeat (first | exact .nil | refine .cons (Le.refl _) ?_ | refine .cons (Le.nil (by decide)) ?_)))
      | true =>
        refine A_body Tryd.func76 rfl (Nat.le_of_ble_eq_true rfl) ?_
        simp only [go_sem, Tryd.ntmps76, Tryd.results76, mkEnv]
        repeat (first | refine wS ?_ | refine wB ?_ | (refine wR ?_; simp only [go_sem]) | (refine wT ?_ ?_; focus (simp only [go_sem]; done)) | (refine wF ?_ ?_; focus (simp only [go_sem]; done)) | (refine wK ?_; try simp only [go_sem]) | (refine wE ?_; try simp only [go_sem]) | refine wX ?_)
        refine wM ?_ mixedO (by kernel_rfl)
        simp only [go_sem, hm, hm']
        repeat (first | refine wS ?_ | refine wB ?_ | (refine wR ?_; simp only [go_sem, hm, hm']) | (refine wT ?_ ?_; focus (simp only [go_sem]; done)) | (refine wF ?_ ?_; focus (simp only [go_sem]; done)) | (refine wK ?_; try simp only [go_sem, hm, hm']) | (refine wE ?_; try simp only [go_sem, hm, hm']) | refine wX ?_)
        refine wM ?_ mixedO (by kernel_rfl)
        simp only [go_sem]
        repeat (first | refine wS ?_ | refine wB ?_ | (refine wR ?_; simp only [go_sem]) | (refine wT ?_ ?_; focus (simp only [go_sem]; done)) | (refine wF ?_ ?_; focus (simp only [go_sem]; done)) | (refine wK ?_; try simp only [go_sem]) | (refine wE ?_; try simp only [go_sem]) | refine wX ?_)
        exact wRet ⟨rfl, rfl⟩ (hle := Le.agg (by repeat (first | exact .nil | refine .cons (Le.refl _) ?_ | refine .cons (Le.nil (by decide)) ?_)))
  have e1 : ((s : Int) == 1) = false := (kEq s 1).trans (decide_eq_false h1)
  have e2 : ((s : Int) == 2) = false := (kEq s 2).trans (decide_eq_false h2)
  have e3 : ((s : Int) == 3) = false := (kEq s 3).trans (decide_eq_false h3)
  have ho : ownI x s = { name := x.name, unit := ByteArray.empty, kind := x.kind, temp := 0, mono := false, start := x.start, time := x.time, trace := ByteArray.empty, span := ByteArray.empty, parent := ByteArray.empty, code := 0, msg := ByteArray.empty, attrs := x.attrs, body := zeroV, pt := zeroT } := by
    simp [ownI, h1, h2, h3]
  rw [ho]
  refine A_body Tryd.func76 rfl (Nat.le_of_ble_eq_true rfl) ?_
  simp only [go_sem, Tryd.ntmps76, Tryd.results76, mkEnv, e1, e2, e3]
  repeat (first | refine wS ?_ | refine wB ?_ | (refine wR ?_; simp only [go_sem, e1, e2, e3]) | (refine wT ?_ ?_; focus (simp only [go_sem]; done)) | (refine wF ?_ ?_; focus (simp only [go_sem]; done)) | (refine wK ?_; try simp only [go_sem, e1, e2, e3]) | (refine wE ?_; try simp only [go_sem, e1, e2, e3]) | refine wX ?_)
  refine wM ?_ mixedO (by kernel_rfl)
  simp only [go_sem]
  repeat (first | refine wS ?_ | refine wB ?_ | (refine wR ?_; simp only [go_sem]) | (refine wT ?_ ?_; focus (simp only [go_sem]; done)) | (refine wF ?_ ?_; focus (simp only [go_sem]; done)) | (refine wK ?_; try simp only [go_sem]) | (refine wE ?_; try simp only [go_sem]) | refine wX ?_)
  exact wRet ⟨rfl, rfl⟩ (hle := Le.agg (by repeat (first | exact .nil | refine .cons (Le.refl _) ?_ | refine .cons (Le.nil (by decide)) ?_)))
def idsB (a b : It) : Bool := (a.trace.toList == b.trace.toList) && (a.span.toList == b.span.toList) && (a.parent.toList == b.parent.toList) && ((a.code : Int) == (b.code : Int)) && (a.msg.toList == b.msg.toList)
def namesB (a b : It) : Bool := (a.name.toList == b.name.toList) && (a.unit.toList == b.unit.toList) && (a.kind == b.kind) && ((a.temp : Int) == (b.temp : Int)) && (a.mono == b.mono) && ((a.start : Int) == (b.start : Int)) && ((a.time : Int) == (b.time : Int))
def sameI (a b : It) : Bool := idsB a b && namesB a b && sameP a.attrs b.attrs && same a.body b.body && samePt a.pt b.pt
theorem sameI_c {W0 : World} (a b : It) (ha : okI a) : APure Tryd.prog W0 20 [ia a, ia b] (· = .ret (.d (.v (.bool (sameI a b))))) := by
  have h1 := samePairs_c (W0 := W0) a.attrs b.attrs
  have h2 := same_c (W0 := W0) a.body b.body
  have h3 := samePt_c (W0 := W0) a.pt b.pt ha.pt
  simp only [va, vD_ex, List.map_cons, List.map_nil] at h2
  refine A_body Tryd.func20 rfl (Nat.le_of_ble_eq_true rfl) ?_
  simp only [go_sem, Tryd.ntmps20, Tryd.results20, mkEnv]
  repeat (first | refine wS ?_ | refine wB ?_ | (refine wR ?_; simp only [go_sem]) | (refine wT ?_ ?_; focus (simp only [go_sem]; done)) | (refine wF ?_ ?_; focus (simp only [go_sem]; done)) | (refine wK ?_; try simp only [go_sem]) | (refine wE ?_; try simp only [go_sem]) | refine wX ?_)
  refine wCG (fun hh => h1) ?_
  simp only [go_sem]
  repeat (first | refine wS ?_ | refine wB ?_ | (refine wR ?_; simp only [go_sem]) | (refine wT ?_ ?_; focus (simp only [go_sem]; done)) | (refine wF ?_ ?_; focus (simp only [go_sem]; done)) | (refine wK ?_; try simp only [go_sem]) | (refine wE ?_; try simp only [go_sem]) | refine wX ?_)
  refine wCG (fun hh => h2) ?_
  simp only [go_sem]
  repeat (first | refine wS ?_ | refine wB ?_ | (refine wR ?_; simp only [go_sem]) | (refine wT ?_ ?_; focus (simp only [go_sem]; done)) | (refine wF ?_ ?_; focus (simp only [go_sem]; done)) | (refine wK ?_; try simp only [go_sem]) | (refine wE ?_; try simp only [go_sem]) | refine wX ?_)
  refine wCG (fun hh => h3) ?_
  simp only [go_sem]
  repeat (first | refine wS ?_ | refine wB ?_ | (refine wR ?_; simp only [go_sem]) | (refine wT ?_ ?_; focus (simp only [go_sem]; done)) | (refine wF ?_ ?_; focus (simp only [go_sem]; done)) | (refine wK ?_; try simp only [go_sem]) | (refine wE ?_; try simp only [go_sem]) | refine wX ?_)
  exact wRq
end Go.Proofs.YtfbegbpipmgfiaaDoor.Lift
end
section
/- pdata: whether an item, whether data are right. No conditions but what types allow, and that utf8's tables lie as they are laid. -/
set_option linter.unusedVariables false
set_option linter.unusedSimpArgs false
set_option maxHeartbeats 4000000
set_option maxRecDepth 100000
namespace Go.Proofs.YtfbegbpipmgfiaaDoor.Lift
open Go Go.RowKit

theorem pure_le {P : Program} {W0 : World} {f : FuncId} {args args' : List AV} {R : Res → Prop} (h : APure P W0 f args R) (hl : LeL args' args) : APure P W0 f args' R := fun M m w us hc ha => h M m w us hc (hl _ _ _ _ ha)
def LeDs (l l' : List D) : Prop := l.length = l'.length ∧ ∀ (j : Nat) (d d' : D), l[j]? = some d → l'[j]? = some d' → LeD d d'
theorem LeDs.nil : LeDs [] [] := ⟨rfl, fun j d d' h => by simp at h⟩
theorem LeDs.cons {d d' : D} {l l' : List D} (h : LeD d d') (h' : LeDs l l') : LeDs (d :: l) (d' :: l') := ⟨by simp [h'.1], fun j x x' hx hx' => by
  cases j with
  | zero => cases hx; cases hx'; exact h
  | succ j => exact h'.2 j x x' (by simpa using hx) (by simpa using hx')⟩
theorem LeD.rowsL {sz bt : Nat} {l l' : List (List D)} (hl : l.length = l'.length) (h : ∀ (i : Nat) (row row' : List D), l[i]? = some row → l'[i]? = some row' → LeDs row row') : LeD (.rows sz bt l) (.rows sz bt l') := by
  intro M w u hr
  cases hr with
  | rows _ _ _ A c U hbt hb hc hA hU =>
    rw [hl]
    refine .rows sz bt l' A c U hbt (by rw [← hl]; exact hb) (by rw [← hl]; exact hc) (fun i row' hi => ?_) (fun i row' j d' hi hj => ?_)
    · have hlt : i < l.length := by rw [hl]; exact (List.getElem?_eq_some_iff.1 hi).1
      have h1 := h i l[i] row' (List.getElem?_eq_getElem hlt) hi
      obtain ⟨h2, h3⟩ := hA i l[i] (List.getElem?_eq_getElem hlt)
      exact ⟨by rw [← h1.1]; exact h2, h3⟩
    · have hlt : i < l.length := by rw [hl]; exact (List.getElem?_eq_some_iff.1 hi).1
      have h1 := h i l[i] row' (List.getElem?_eq_getElem hlt) hi
      have hlj : j < l[i].length := by rw [h1.1]; exact (List.getElem?_eq_some_iff.1 hj).1
      exact h1.2 j _ d' (List.getElem?_eq_getElem hlj) hj M w _ (hU i l[i] j _ (List.getElem?_eq_getElem hlt) (List.getElem?_eq_getElem hlj))
theorem LeD.row {sz bt : Nat} {row row' : List D} (h : LeDs row row') : LeD (.rows sz bt [row]) (.rows sz bt [row']) := LeD.rowsL rfl fun i r r' hr hr' => by
  cases i with
  | zero => cases hr; cases hr'; exact h
  | succ i => simp at hr
theorem okV_zero : okV zeroV := .mk 0 _ false 0 0 [] [] (by decide) (by decide) (by decide) (by decide) (by decide) (by decide) (fun _ h => by cases h) (fun _ h => by cases h) (fun _ h => by cases h)
theorem chk_zero (d : Nat) : chk zeroV d = 0 := by
  simp [zeroV, chk, okK, flat, bareV, chkL, chkP, twice, Bool.and_eq_true]
theorem chkAll_key (s : ByteArray) : chkAll [(s, zeroV)] = keyE s := by
  simp only [chkAll, List.length_cons, List.length_nil, chkPs, chkP, chk_zero, twice, List.map_cons, List.map_nil, List.any_nil]
  by_cases h : keyE s = 0 <;> simp [h]
theorem text_c {W0 : World} (hT : Tabs W0) (s : ByteArray) (hs : s.size ≤ 140737488351232) : APure Tryd.prog W0 50 [.d (.v (.string s))] (· = ends (keyE s)) := by
  have hc := CheckPairs_c (W0 := W0) hT [(s, zeroV)] ⟨by simp, fun p hp => by rw [List.mem_singleton] at hp; subst hp; exact ⟨hs, okV_zero⟩⟩
  rw [chkAll_key] at hc
  have hc2 := pure_le hc (args' := [.d (.rows 8 112 [[.v (.string s), .v (.int .u8 0), .v (.string ByteArray.empty), .v (.bool false), .v (.int .i64 0), .v (.float .f64 0), .e, .e]])]) (.cons (Le.d (LeD.row (by repeat (first | exact .nil | refine .cons (LeD.refl _) ?_ | refine .cons (LeD.nil (by decide)) ?_)))) .nil)
  refine A_body Tryd.func50 rfl (Nat.le_of_ble_eq_true rfl) ?_
  simp only [go_sem, Tryd.ntmps50, Tryd.results50, mkEnv]
  repeat (first | refine wS ?_ | refine wB ?_ | (refine wR ?_; simp only [go_sem]) | (refine wT ?_ ?_; focus (simp only [go_sem]; done)) | (refine wF ?_ ?_; focus (simp only [go_sem]; done)) | (refine wK ?_; try simp only [go_sem]) | (refine wE ?_; try simp only [go_sem]) | refine wX ?_)
  refine wFzO 0 ?_
  simp only [go_sem]
  refine wC (hc2) ?_
  simp only [go_sem]
  repeat (first | refine wS ?_ | refine wB ?_ | (refine wR ?_; simp only [go_sem]) | (refine wT ?_ ?_; focus (simp only [go_sem]; done)) | (refine wF ?_ ?_; focus (simp only [go_sem]; done)) | (refine wK ?_; try simp only [go_sem]) | (refine wE ?_; try simp only [go_sem]) | refine wX ?_)
  by_cases hk : keyE s = 0
  · rw [hk]
    refine wC (pfine_ok) ?_
    simp only [go_sem, hk]
    repeat (first | refine wS ?_ | refine wB ?_ | (refine wR ?_; simp only [go_sem, hk]) | (refine wT ?_ ?_; focus (simp only [go_sem]; done)) | (refine wF ?_ ?_; focus (simp only [go_sem]; done)) | (refine wK ?_; try simp only [go_sem, hk]) | (refine wE ?_; try simp only [go_sem, hk]) | refine wX ?_)
    exact wNq
  · rw [ends1 hk]
    refine wP (pfine_no (keyE s) (by omega)) ?_
    try simp only [go_sem]
    exact wPan ⟨rfl, rfl⟩
def eitherB (s : ByteArray) (n : Int) : Bool := s.toList == (ByteArray.mk #[]).toList || ((s.size : Int) == n)
def rangeB (x : It) (s : Nat) : Bool :=
  if s = 1 then decide (0 ≤ x.kind) && decide (x.kind ≤ 5) && decide ((x.code : Int) ≤ 2) && ((x.trace.size : Int) == 16) && ((x.span.size : Int) == 8) && eitherB x.parent 8
  else if s = 2 then decide (0 ≤ x.kind) && decide (x.kind ≤ 24) && eitherB x.trace 16 && eitherB x.span 8
  else decide (1 ≤ x.kind) && decide (x.kind ≤ 5) && decide ((x.temp : Int) ≤ 2)
def placedB (x : It) (s : Nat) : Bool := sameI x (ownI x s) && ((s : Int) != 3 || kindsB x.kind x.pt.k)
def itE (x : It) (s : Nat) : Nat := fst0 [keyE x.name, keyE x.unit, keyE x.msg, if rangeB x s then 0 else 2, chkAll x.attrs, chk x.body 0, ptE x.pt, if placedB x s then 0 else 5]
theorem fst0_pos {c : Nat} {l : List Nat} (h : c ≠ 0) : fst0 (c :: l) = c := by simp [fst0, h]
theorem fst0_zero {l : List Nat} : fst0 (0 :: l) = fst0 l := by simp [fst0]
theorem item_c {W0 : World} (hT : Tabs W0) (x : It) (hx : okI x) (s : Nat) : APure Tryd.prog W0 51 [ia x, .d (.v (.int .u8 s))] (· = ends (itE x s)) := by
  have t1 := text_c (W0 := W0) hT x.name hx.name
  have t2 := text_c (W0 := W0) hT x.unit hx.unit
  have t3 := text_c (W0 := W0) hT x.msg hx.msg
  have c1 := CheckPairs_c (W0 := W0) hT x.attrs hx.attrs
  have c2 := Check_c (W0 := W0) hT x.body hx.body
  have c3 := point_c (W0 := W0) x.pt hx.pt
  have o1 := ownI_c (W0 := W0) x s
  have s1 := sameI_c (W0 := W0) x (ownI x s) hx
  have k1 := kinds_c (W0 := W0) x.kind x.pt.k
  have i1 := either_c (W0 := W0) x.parent 8
  have i2 := either_c (W0 := W0) x.trace 16
  have i3 := either_c (W0 := W0) x.span 8
  simp only [va, vD_ex, List.map_cons, List.map_nil] at c2
  unfold itE
  generalize hk1 : keyE x.name = e1 at t1 ⊢
  generalize hk2 : keyE x.unit = e2 at t2 ⊢
  generalize hk3 : keyE x.msg = e3 at t3 ⊢
  generalize hk4 : chkAll x.attrs = e4 at c1 ⊢
  generalize hk5 : chk x.body 0 = e5 at c2 ⊢
  generalize hk6 : ptE x.pt = e6 at c3 ⊢
  clear hk1 hk2 hk3 hk4 hk5 hk6
  refine A_body Tryd.func51 rfl (Nat.le_of_ble_eq_true rfl) ?_
  simp only [go_sem, Tryd.ntmps51, Tryd.results51, mkEnv]
  repeat (first | refine wS ?_ | refine wB ?_ | (refine wR ?_; simp only [go_sem]) | (refine wT ?_ ?_; focus (simp only [go_sem]; done)) | (refine wF ?_ ?_; focus (simp only [go_sem]; done)) | (refine wK ?_; try simp only [go_sem]) | (refine wE ?_; try simp only [go_sem]) | refine wX ?_)
  by_cases h0 : e1 ≠ 0
  · rw [ends1 (by omega : e1 ≠ 0)] at t1
    refine wP (t1) ?_
    try simp only [go_sem]
    exact wPan ⟨by first | (rw [fst0_pos h0, ends1 h0]; rfl) | rw [fst0_pos h0, ends1 h0], rfl⟩
  have h0 : e1 = 0 := by omega
  rw [h0, ends0] at t1
  rw [h0, fst0_zero]
  clear h0
  refine wC (t1) ?_
  simp only [go_sem]
  repeat (first | refine wS ?_ | refine wB ?_ | (refine wR ?_; simp only [go_sem]) | (refine wT ?_ ?_; focus (simp only [go_sem]; done)) | (refine wF ?_ ?_; focus (simp only [go_sem]; done)) | (refine wK ?_; try simp only [go_sem]) | (refine wE ?_; try simp only [go_sem]) | refine wX ?_)
  by_cases h0 : e2 ≠ 0
  · rw [ends1 (by omega : e2 ≠ 0)] at t2
    refine wP (t2) ?_
    try simp only [go_sem]
    exact wPan ⟨by first | (rw [fst0_pos h0, ends1 h0]; rfl) | rw [fst0_pos h0, ends1 h0], rfl⟩
  have h0 : e2 = 0 := by omega
  rw [h0, ends0] at t2
  rw [h0, fst0_zero]
  clear h0
  refine wC (t2) ?_
  simp only [go_sem]
  repeat (first | refine wS ?_ | refine wB ?_ | (refine wR ?_; simp only [go_sem]) | (refine wT ?_ ?_; focus (simp only [go_sem]; done)) | (refine wF ?_ ?_; focus (simp only [go_sem]; done)) | (refine wK ?_; try simp only [go_sem]) | (refine wE ?_; try simp only [go_sem]) | refine wX ?_)
  by_cases h0 : e3 ≠ 0
  · rw [ends1 (by omega : e3 ≠ 0)] at t3
    refine wP (t3) ?_
    try simp only [go_sem]
    exact wPan ⟨by first | (rw [fst0_pos h0, ends1 h0]; rfl) | rw [fst0_pos h0, ends1 h0], rfl⟩
  have h0 : e3 = 0 := by omega
  rw [h0, ends0] at t3
  rw [h0, fst0_zero]
  clear h0
  refine wC (t3) ?_
  simp only [go_sem]
  repeat (first | refine wS ?_ | refine wB ?_ | (refine wR ?_; simp only [go_sem]) | (refine wT ?_ ?_; focus (simp only [go_sem]; done)) | (refine wF ?_ ?_; focus (simp only [go_sem]; done)) | (refine wK ?_; try simp only [go_sem]) | (refine wE ?_; try simp only [go_sem]) | refine wX ?_)
  by_cases h1 : s = 1
  · have q1 : ((s : Int) == 1) = true := by rw [h1]; rfl
    obtain ⟨r, hr⟩ : ∃ b, rangeB x s = b := ⟨_, rfl⟩
    have hr2 := hr
    rw [rangeB, if_pos h1] at hr2
    unfold eitherB at hr2
    simp only [go_sem, q1]
    repeat (first | refine wS ?_ | refine wB ?_ | (refine wR ?_; simp only [go_sem, q1, hr2]) | (refine wT ?_ ?_; focus (simp only [go_sem]; done)) | (refine wF ?_ ?_; focus (simp only [go_sem]; done)) | (refine wK ?_; try simp only [go_sem, q1, hr2]) | (refine wE ?_; try simp only [go_sem, q1, hr2]) | refine wX ?_)
    refine wCG (fun hh => i1) ?_
    simp only [go_sem, hr2]
    repeat (first | refine wS ?_ | refine wB ?_ | (refine wR ?_; simp only [go_sem, hr2]) | (refine wT ?_ ?_; focus (simp only [go_sem]; done)) | (refine wF ?_ ?_; focus (simp only [go_sem]; done)) | (refine wK ?_; try simp only [go_sem, hr2]) | (refine wE ?_; try simp only [go_sem, hr2]) | refine wX ?_)
    rw [hr]
    cases r with
    | false =>
      refine wP (pmust_no 2) ?_
      try simp only [go_sem, hr2]
      exact wPan ⟨rfl, rfl⟩
    | true =>
      rw [if_pos rfl, fst0_zero]
      refine wC (pmust_ok 2) ?_
      simp only [go_sem, hr2]
      repeat (first | refine wS ?_ | refine wB ?_ | (refine wR ?_; simp only [go_sem, hr2]) | (refine wT ?_ ?_; focus (simp only [go_sem]; done)) | (refine wF ?_ ?_; focus (simp only [go_sem]; done)) | (refine wK ?_; try simp only [go_sem, hr2]) | (refine wE ?_; try simp only [go_sem, hr2]) | refine wX ?_)
      refine wC (c1) ?_
      simp only [go_sem]
      repeat (first | refine wS ?_ | refine wB ?_ | (refine wR ?_; simp only [go_sem]) | (refine wT ?_ ?_; focus (simp only [go_sem]; done)) | (refine wF ?_ ?_; focus (simp only [go_sem]; done)) | (refine wK ?_; try simp only [go_sem]) | (refine wE ?_; try simp only [go_sem]) | refine wX ?_)
      by_cases h0 : e4 ≠ 0
      · refine wP (pfine_no e4 (by omega)) ?_
        try simp only [go_sem]
        exact wPan ⟨by first | (rw [fst0_pos h0, ends1 h0]; rfl) | rw [fst0_pos h0, ends1 h0], rfl⟩
      have h0 : e4 = 0 := by omega
      rw [h0, fst0_zero]
      refine wC (pfine_ok) ?_
      simp only [go_sem, h0]
      repeat (first | refine wS ?_ | refine wB ?_ | (refine wR ?_; simp only [go_sem, h0]) | (refine wT ?_ ?_; focus (simp only [go_sem]; done)) | (refine wF ?_ ?_; focus (simp only [go_sem]; done)) | (refine wK ?_; try simp only [go_sem, h0]) | (refine wE ?_; try simp only [go_sem, h0]) | refine wX ?_)
      clear h0
      refine wC (c2) ?_
      simp only [go_sem]
      repeat (first | refine wS ?_ | refine wB ?_ | (refine wR ?_; simp only [go_sem]) | (refine wT ?_ ?_; focus (simp only [go_sem]; done)) | (refine wF ?_ ?_; focus (simp only [go_sem]; done)) | (refine wK ?_; try simp only [go_sem]) | (refine wE ?_; try simp only [go_sem]) | refine wX ?_)
      by_cases h0 : e5 ≠ 0
      · refine wP (pfine_no e5 (by omega)) ?_
        try simp only [go_sem]
        exact wPan ⟨by first | (rw [fst0_pos h0, ends1 h0]; rfl) | rw [fst0_pos h0, ends1 h0], rfl⟩
      have h0 : e5 = 0 := by omega
      rw [h0, fst0_zero]
      refine wC (pfine_ok) ?_
      simp only [go_sem, h0]
      repeat (first | refine wS ?_ | refine wB ?_ | (refine wR ?_; simp only [go_sem, h0]) | (refine wT ?_ ?_; focus (simp only [go_sem]; done)) | (refine wF ?_ ?_; focus (simp only [go_sem]; done)) | (refine wK ?_; try simp only [go_sem, h0]) | (refine wE ?_; try simp only [go_sem, h0]) | refine wX ?_)
      clear h0
      by_cases h0 : e6 ≠ 0
      · rw [ends1 (by omega : e6 ≠ 0)] at c3
        refine wP (c3) ?_
        try simp only [go_sem]
        exact wPan ⟨by first | (rw [fst0_pos h0, ends1 h0]; rfl) | rw [fst0_pos h0, ends1 h0], rfl⟩
      have h0 : e6 = 0 := by omega
      rw [h0, ends0] at c3
      rw [h0, fst0_zero]
      clear h0
      refine wC (c3) ?_
      simp only [go_sem]
      repeat (first | refine wS ?_ | refine wB ?_ | (refine wR ?_; simp only [go_sem]) | (refine wT ?_ ?_; focus (simp only [go_sem]; done)) | (refine wF ?_ ?_; focus (simp only [go_sem]; done)) | (refine wK ?_; try simp only [go_sem]) | (refine wE ?_; try simp only [go_sem]) | refine wX ?_)
      obtain ⟨sm, hsm⟩ : ∃ b, sameI x (ownI x s) = b := ⟨_, rfl⟩
      obtain ⟨n3, hn3⟩ : ∃ b, ((s : Int) != 3) = b := ⟨_, rfl⟩
      obtain ⟨kb, hkb⟩ : ∃ b, kindsB x.kind x.pt.k = b := ⟨_, rfl⟩
      have hpl : placedB x s = (sm && (n3 || kb)) := by simp only [placedB, hsm, hn3, hkb]
      rw [hpl]
      rw [hsm] at s1
      rw [hkb] at k1
      have done_ : ∀ b : Bool, fst0 [if b then 0 else 5] = if b then 0 else 5 := by decide
      rw [done_]
      cases sm with
      | false =>
        refine wD 17 ?_ mixedO (by kernel_rfl)
        simp only [go_sem, hn3]
        repeat (first | refine wS ?_ | refine wB ?_ | (refine wR ?_; simp only [go_sem, hn3]) | (refine wT ?_ ?_; focus (simp only [go_sem]; done)) | (refine wF ?_ ?_; focus (simp only [go_sem]; done)) | (refine wK ?_; try simp only [go_sem, hn3]) | (refine wE ?_; try simp only [go_sem, hn3]) | refine wX ?_)
        refine wQC (o1) ?_
        simp only [go_sem, hn3]
        repeat (first | refine wS ?_ | refine wB ?_ | (refine wR ?_; simp only [go_sem, hn3]) | (refine wT ?_ ?_; focus (simp only [go_sem]; done)) | (refine wF ?_ ?_; focus (simp only [go_sem]; done)) | (refine wK ?_; try simp only [go_sem, hn3]) | (refine wE ?_; try simp only [go_sem, hn3]) | refine wX ?_)
        refine wQC (s1) ?_
        simp only [go_sem, hn3]
        repeat (first | refine wS ?_ | refine wB ?_ | (refine wR ?_; simp only [go_sem, hn3]) | (refine wT ?_ ?_; focus (simp only [go_sem]; done)) | (refine wF ?_ ?_; focus (simp only [go_sem]; done)) | (refine wK ?_; try simp only [go_sem, hn3]) | (refine wE ?_; try simp only [go_sem, hn3]) | refine wX ?_)
        refine wQGn (.d (.v (.bool true))) ?_
        simp only [go_sem]
        repeat (first | refine wS ?_ | refine wB ?_ | (refine wR ?_; simp only [go_sem]) | (refine wT ?_ ?_; focus (simp only [go_sem]; done)) | (refine wF ?_ ?_; focus (simp only [go_sem]; done)) | (refine wK ?_; try simp only [go_sem]) | (refine wE ?_; try simp only [go_sem]) | refine wX ?_)
        refine wD1 17 ?_ (by kernel_rfl)
        simp only [go_sem, hn3]
        refine wP (pmust_no 5) ?_
        try simp only [go_sem]
        exact wPan ⟨rfl, rfl⟩
      | true =>
        cases n3 with
        | true =>
          refine wD 17 ?_ mixedO (by kernel_rfl)
          simp only [go_sem, hn3]
          repeat (first | refine wS ?_ | refine wB ?_ | (refine wR ?_; simp only [go_sem, hn3]) | (refine wT ?_ ?_; focus (simp only [go_sem]; done)) | (refine wF ?_ ?_; focus (simp only [go_sem]; done)) | (refine wK ?_; try simp only [go_sem, hn3]) | (refine wE ?_; try simp only [go_sem, hn3]) | refine wX ?_)
          refine wQC (o1) ?_
          simp only [go_sem, hn3]
          repeat (first | refine wS ?_ | refine wB ?_ | (refine wR ?_; simp only [go_sem, hn3]) | (refine wT ?_ ?_; focus (simp only [go_sem]; done)) | (refine wF ?_ ?_; focus (simp only [go_sem]; done)) | (refine wK ?_; try simp only [go_sem, hn3]) | (refine wE ?_; try simp only [go_sem, hn3]) | refine wX ?_)
          refine wQC (s1) ?_
          simp only [go_sem, hn3]
          repeat (first | refine wS ?_ | refine wB ?_ | (refine wR ?_; simp only [go_sem, hn3]) | (refine wT ?_ ?_; focus (simp only [go_sem]; done)) | (refine wF ?_ ?_; focus (simp only [go_sem]; done)) | (refine wK ?_; try simp only [go_sem, hn3]) | (refine wE ?_; try simp only [go_sem, hn3]) | refine wX ?_)
          refine wQGn (.d (.v (.bool true))) ?_
          simp only [go_sem]
          repeat (first | refine wS ?_ | refine wB ?_ | (refine wR ?_; simp only [go_sem]) | (refine wT ?_ ?_; focus (simp only [go_sem]; done)) | (refine wF ?_ ?_; focus (simp only [go_sem]; done)) | (refine wK ?_; try simp only [go_sem]) | (refine wE ?_; try simp only [go_sem]) | refine wX ?_)
          refine wD1 17 ?_ (by kernel_rfl)
          simp only [go_sem, hn3]
          refine wC (pmust_ok 5) ?_
          simp only [go_sem]
          repeat (first | refine wS ?_ | refine wB ?_ | (refine wR ?_; simp only [go_sem]) | (refine wT ?_ ?_; focus (simp only [go_sem]; done)) | (refine wF ?_ ?_; focus (simp only [go_sem]; done)) | (refine wK ?_; try simp only [go_sem]) | (refine wE ?_; try simp only [go_sem]) | refine wX ?_)
          try simp only [TQ, true_and]
          refine wD0 ?_ (by kernel_rfl)
          try simp only [go_sem]
          repeat (first | refine wS ?_ | refine wB ?_ | (refine wR ?_; simp only [go_sem]) | (refine wT ?_ ?_; focus (simp only [go_sem]; done)) | (refine wF ?_ ?_; focus (simp only [go_sem]; done)) | (refine wK ?_; try simp only [go_sem]) | (refine wE ?_; try simp only [go_sem]) | refine wX ?_)
          exact wNq
        | false =>
          cases kb with
          | true =>
            refine wD 17 ?_ mixedO (by kernel_rfl)
            simp only [go_sem, hn3]
            repeat (first | refine wS ?_ | refine wB ?_ | (refine wR ?_; simp only [go_sem, hn3]) | (refine wT ?_ ?_; focus (simp only [go_sem]; done)) | (refine wF ?_ ?_; focus (simp only [go_sem]; done)) | (refine wK ?_; try simp only [go_sem, hn3]) | (refine wE ?_; try simp only [go_sem, hn3]) | refine wX ?_)
            refine wQC (o1) ?_
            simp only [go_sem, hn3]
            repeat (first | refine wS ?_ | refine wB ?_ | (refine wR ?_; simp only [go_sem, hn3]) | (refine wT ?_ ?_; focus (simp only [go_sem]; done)) | (refine wF ?_ ?_; focus (simp only [go_sem]; done)) | (refine wK ?_; try simp only [go_sem, hn3]) | (refine wE ?_; try simp only [go_sem, hn3]) | refine wX ?_)
            refine wQC (s1) ?_
            simp only [go_sem, hn3]
            repeat (first | refine wS ?_ | refine wB ?_ | (refine wR ?_; simp only [go_sem, hn3]) | (refine wT ?_ ?_; focus (simp only [go_sem]; done)) | (refine wF ?_ ?_; focus (simp only [go_sem]; done)) | (refine wK ?_; try simp only [go_sem, hn3]) | (refine wE ?_; try simp only [go_sem, hn3]) | refine wX ?_)
            refine wQGx (fun hh => k1) ?_
            simp only [go_sem, hn3]
            repeat (first | refine wS ?_ | refine wB ?_ | (refine wR ?_; simp only [go_sem, hn3]) | (refine wT ?_ ?_; focus (simp only [go_sem]; done)) | (refine wF ?_ ?_; focus (simp only [go_sem]; done)) | (refine wK ?_; try simp only [go_sem, hn3]) | (refine wE ?_; try simp only [go_sem, hn3]) | refine wX ?_)
            refine wD1 17 ?_ (by kernel_rfl)
            simp only [go_sem, hn3]
            refine wC (pmust_ok 5) ?_
            simp only [go_sem]
            repeat (first | refine wS ?_ | refine wB ?_ | (refine wR ?_; simp only [go_sem]) | (refine wT ?_ ?_; focus (simp only [go_sem]; done)) | (refine wF ?_ ?_; focus (simp only [go_sem]; done)) | (refine wK ?_; try simp only [go_sem]) | (refine wE ?_; try simp only [go_sem]) | refine wX ?_)
            try simp only [TQ, true_and]
            refine wD0 ?_ (by kernel_rfl)
            try simp only [go_sem]
            repeat (first | refine wS ?_ | refine wB ?_ | (refine wR ?_; simp only [go_sem]) | (refine wT ?_ ?_; focus (simp only [go_sem]; done)) | (refine wF ?_ ?_; focus (simp only [go_sem]; done)) | (refine wK ?_; try simp only [go_sem]) | (refine wE ?_; try simp only [go_sem]) | refine wX ?_)
            exact wNq
          | false =>
            refine wD 17 ?_ mixedO (by kernel_rfl)
            simp only [go_sem, hn3]
            repeat (first | refine wS ?_ | refine wB ?_ | (refine wR ?_; simp only [go_sem, hn3]) | (refine wT ?_ ?_; focus (simp only [go_sem]; done)) | (refine wF ?_ ?_; focus (simp only [go_sem]; done)) | (refine wK ?_; try simp only [go_sem, hn3]) | (refine wE ?_; try simp only [go_sem, hn3]) | refine wX ?_)
            refine wQC (o1) ?_
            simp only [go_sem, hn3]
            repeat (first | refine wS ?_ | refine wB ?_ | (refine wR ?_; simp only [go_sem, hn3]) | (refine wT ?_ ?_; focus (simp only [go_sem]; done)) | (refine wF ?_ ?_; focus (simp only [go_sem]; done)) | (refine wK ?_; try simp only [go_sem, hn3]) | (refine wE ?_; try simp only [go_sem, hn3]) | refine wX ?_)
            refine wQC (s1) ?_
            simp only [go_sem, hn3]
            repeat (first | refine wS ?_ | refine wB ?_ | (refine wR ?_; simp only [go_sem, hn3]) | (refine wT ?_ ?_; focus (simp only [go_sem]; done)) | (refine wF ?_ ?_; focus (simp only [go_sem]; done)) | (refine wK ?_; try simp only [go_sem, hn3]) | (refine wE ?_; try simp only [go_sem, hn3]) | refine wX ?_)
            refine wQGx (fun hh => k1) ?_
            simp only [go_sem, hn3]
            repeat (first | refine wS ?_ | refine wB ?_ | (refine wR ?_; simp only [go_sem, hn3]) | (refine wT ?_ ?_; focus (simp only [go_sem]; done)) | (refine wF ?_ ?_; focus (simp only [go_sem]; done)) | (refine wK ?_; try simp only [go_sem, hn3]) | (refine wE ?_; try simp only [go_sem, hn3]) | refine wX ?_)
            refine wD1 17 ?_ (by kernel_rfl)
            simp only [go_sem, hn3]
            refine wP (pmust_no 5) ?_
            try simp only [go_sem]
            exact wPan ⟨rfl, rfl⟩
  have q1 : ((s : Int) == 1) = false := (kEq s 1).trans (decide_eq_false h1)
  by_cases h2 : s = 2
  · have q2 : ((s : Int) == 2) = true := by rw [h2]; rfl
    obtain ⟨r, hr⟩ : ∃ b, rangeB x s = b := ⟨_, rfl⟩
    have hr2 := hr
    rw [rangeB, if_neg h1, if_pos h2] at hr2
    unfold eitherB at hr2
    simp only [go_sem, q1]
    repeat (first | refine wS ?_ | refine wB ?_ | (refine wR ?_; simp only [go_sem, q1, q2, hr2]) | (refine wT ?_ ?_; focus (simp only [go_sem]; done)) | (refine wF ?_ ?_; focus (simp only [go_sem]; done)) | (refine wK ?_; try simp only [go_sem, q1, q2, hr2]) | (refine wE ?_; try simp only [go_sem, q1, q2, hr2]) | refine wX ?_)
    refine wCG (fun hh => i2) ?_
    simp only [go_sem, hr2]
    repeat (first | refine wS ?_ | refine wB ?_ | (refine wR ?_; simp only [go_sem, hr2]) | (refine wT ?_ ?_; focus (simp only [go_sem]; done)) | (refine wF ?_ ?_; focus (simp only [go_sem]; done)) | (refine wK ?_; try simp only [go_sem, hr2]) | (refine wE ?_; try simp only [go_sem, hr2]) | refine wX ?_)
    refine wCG (fun hh => i3) ?_
    simp only [go_sem, hr2]
    repeat (first | refine wS ?_ | refine wB ?_ | (refine wR ?_; simp only [go_sem, hr2]) | (refine wT ?_ ?_; focus (simp only [go_sem]; done)) | (refine wF ?_ ?_; focus (simp only [go_sem]; done)) | (refine wK ?_; try simp only [go_sem, hr2]) | (refine wE ?_; try simp only [go_sem, hr2]) | refine wX ?_)
    rw [hr]
    cases r with
    | false =>
      refine wP (pmust_no 2) ?_
      try simp only [go_sem, hr2]
      exact wPan ⟨rfl, rfl⟩
    | true =>
      rw [if_pos rfl, fst0_zero]
      refine wC (pmust_ok 2) ?_
      simp only [go_sem, hr2]
      repeat (first | refine wS ?_ | refine wB ?_ | (refine wR ?_; simp only [go_sem, hr2]) | (refine wT ?_ ?_; focus (simp only [go_sem]; done)) | (refine wF ?_ ?_; focus (simp only [go_sem]; done)) | (refine wK ?_; try simp only [go_sem, hr2]) | (refine wE ?_; try simp only [go_sem, hr2]) | refine wX ?_)
      refine wC (c1) ?_
      simp only [go_sem]
      repeat (first | refine wS ?_ | refine wB ?_ | (refine wR ?_; simp only [go_sem]) | (refine wT ?_ ?_; focus (simp only [go_sem]; done)) | (refine wF ?_ ?_; focus (simp only [go_sem]; done)) | (refine wK ?_; try simp only [go_sem]) | (refine wE ?_; try simp only [go_sem]) | refine wX ?_)
      by_cases h0 : e4 ≠ 0
      · refine wP (pfine_no e4 (by omega)) ?_
        try simp only [go_sem]
        exact wPan ⟨by first | (rw [fst0_pos h0, ends1 h0]; rfl) | rw [fst0_pos h0, ends1 h0], rfl⟩
      have h0 : e4 = 0 := by omega
      rw [h0, fst0_zero]
      refine wC (pfine_ok) ?_
      simp only [go_sem, h0]
      repeat (first | refine wS ?_ | refine wB ?_ | (refine wR ?_; simp only [go_sem, h0]) | (refine wT ?_ ?_; focus (simp only [go_sem]; done)) | (refine wF ?_ ?_; focus (simp only [go_sem]; done)) | (refine wK ?_; try simp only [go_sem, h0]) | (refine wE ?_; try simp only [go_sem, h0]) | refine wX ?_)
      clear h0
      refine wC (c2) ?_
      simp only [go_sem]
      repeat (first | refine wS ?_ | refine wB ?_ | (refine wR ?_; simp only [go_sem]) | (refine wT ?_ ?_; focus (simp only [go_sem]; done)) | (refine wF ?_ ?_; focus (simp only [go_sem]; done)) | (refine wK ?_; try simp only [go_sem]) | (refine wE ?_; try simp only [go_sem]) | refine wX ?_)
      by_cases h0 : e5 ≠ 0
      · refine wP (pfine_no e5 (by omega)) ?_
        try simp only [go_sem]
        exact wPan ⟨by first | (rw [fst0_pos h0, ends1 h0]; rfl) | rw [fst0_pos h0, ends1 h0], rfl⟩
      have h0 : e5 = 0 := by omega
      rw [h0, fst0_zero]
      refine wC (pfine_ok) ?_
      simp only [go_sem, h0]
      repeat (first | refine wS ?_ | refine wB ?_ | (refine wR ?_; simp only [go_sem, h0]) | (refine wT ?_ ?_; focus (simp only [go_sem]; done)) | (refine wF ?_ ?_; focus (simp only [go_sem]; done)) | (refine wK ?_; try simp only [go_sem, h0]) | (refine wE ?_; try simp only [go_sem, h0]) | refine wX ?_)
      clear h0
      by_cases h0 : e6 ≠ 0
      · rw [ends1 (by omega : e6 ≠ 0)] at c3
        refine wP (c3) ?_
        try simp only [go_sem]
        exact wPan ⟨by first | (rw [fst0_pos h0, ends1 h0]; rfl) | rw [fst0_pos h0, ends1 h0], rfl⟩
      have h0 : e6 = 0 := by omega
      rw [h0, ends0] at c3
      rw [h0, fst0_zero]
      clear h0
      refine wC (c3) ?_
      simp only [go_sem]
      repeat (first | refine wS ?_ | refine wB ?_ | (refine wR ?_; simp only [go_sem]) | (refine wT ?_ ?_; focus (simp only [go_sem]; done)) | (refine wF ?_ ?_; focus (simp only [go_sem]; done)) | (refine wK ?_; try simp only [go_sem]) | (refine wE ?_; try simp only [go_sem]) | refine wX ?_)
      obtain ⟨sm, hsm⟩ : ∃ b, sameI x (ownI x s) = b := ⟨_, rfl⟩
      obtain ⟨n3, hn3⟩ : ∃ b, ((s : Int) != 3) = b := ⟨_, rfl⟩
      obtain ⟨kb, hkb⟩ : ∃ b, kindsB x.kind x.pt.k = b := ⟨_, rfl⟩
      have hpl : placedB x s = (sm && (n3 || kb)) := by simp only [placedB, hsm, hn3, hkb]
      rw [hpl]
      rw [hsm] at s1
      rw [hkb] at k1
      have done_ : ∀ b : Bool, fst0 [if b then 0 else 5] = if b then 0 else 5 := by decide
      rw [done_]
      cases sm with
      | false =>
        refine wD 17 ?_ mixedO (by kernel_rfl)
        simp only [go_sem, hn3]
        repeat (first | refine wS ?_ | refine wB ?_ | (refine wR ?_; simp only [go_sem, hn3]) | (refine wT ?_ ?_; focus (simp only [go_sem]; done)) | (refine wF ?_ ?_; focus (simp only [go_sem]; done)) | (refine wK ?_; try simp only [go_sem, hn3]) | (refine wE ?_; try simp only [go_sem, hn3]) | refine wX ?_)
        refine wQC (o1) ?_
        simp only [go_sem, hn3]
        repeat (first | refine wS ?_ | refine wB ?_ | (refine wR ?_; simp only [go_sem, hn3]) | (refine wT ?_ ?_; focus (simp only [go_sem]; done)) | (refine wF ?_ ?_; focus (simp only [go_sem]; done)) | (refine wK ?_; try simp only [go_sem, hn3]) | (refine wE ?_; try simp only [go_sem, hn3]) | refine wX ?_)
        refine wQC (s1) ?_
        simp only [go_sem, hn3]
        repeat (first | refine wS ?_ | refine wB ?_ | (refine wR ?_; simp only [go_sem, hn3]) | (refine wT ?_ ?_; focus (simp only [go_sem]; done)) | (refine wF ?_ ?_; focus (simp only [go_sem]; done)) | (refine wK ?_; try simp only [go_sem, hn3]) | (refine wE ?_; try simp only [go_sem, hn3]) | refine wX ?_)
        refine wQGn (.d (.v (.bool true))) ?_
        simp only [go_sem]
        repeat (first | refine wS ?_ | refine wB ?_ | (refine wR ?_; simp only [go_sem]) | (refine wT ?_ ?_; focus (simp only [go_sem]; done)) | (refine wF ?_ ?_; focus (simp only [go_sem]; done)) | (refine wK ?_; try simp only [go_sem]) | (refine wE ?_; try simp only [go_sem]) | refine wX ?_)
        refine wD1 17 ?_ (by kernel_rfl)
        simp only [go_sem, hn3]
        refine wP (pmust_no 5) ?_
        try simp only [go_sem]
        exact wPan ⟨rfl, rfl⟩
      | true =>
        cases n3 with
        | true =>
          refine wD 17 ?_ mixedO (by kernel_rfl)
          simp only [go_sem, hn3]
          repeat (first | refine wS ?_ | refine wB ?_ | (refine wR ?_; simp only [go_sem, hn3]) | (refine wT ?_ ?_; focus (simp only [go_sem]; done)) | (refine wF ?_ ?_; focus (simp only [go_sem]; done)) | (refine wK ?_; try simp only [go_sem, hn3]) | (refine wE ?_; try simp only [go_sem, hn3]) | refine wX ?_)
          refine wQC (o1) ?_
          simp only [go_sem, hn3]
          repeat (first | refine wS ?_ | refine wB ?_ | (refine wR ?_; simp only [go_sem, hn3]) | (refine wT ?_ ?_; focus (simp only [go_sem]; done)) | (refine wF ?_ ?_; focus (simp only [go_sem]; done)) | (refine wK ?_; try simp only [go_sem, hn3]) | (refine wE ?_; try simp only [go_sem, hn3]) | refine wX ?_)
          refine wQC (s1) ?_
          simp only [go_sem, hn3]
          repeat (first | refine wS ?_ | refine wB ?_ | (refine wR ?_; simp only [go_sem, hn3]) | (refine wT ?_ ?_; focus (simp only [go_sem]; done)) | (refine wF ?_ ?_; focus (simp only [go_sem]; done)) | (refine wK ?_; try simp only [go_sem, hn3]) | (refine wE ?_; try simp only [go_sem, hn3]) | refine wX ?_)
          refine wQGn (.d (.v (.bool true))) ?_
          simp only [go_sem]
          repeat (first | refine wS ?_ | refine wB ?_ | (refine wR ?_; simp only [go_sem]) | (refine wT ?_ ?_; focus (simp only [go_sem]; done)) | (refine wF ?_ ?_; focus (simp only [go_sem]; done)) | (refine wK ?_; try simp only [go_sem]) | (refine wE ?_; try simp only [go_sem]) | refine wX ?_)
          refine wD1 17 ?_ (by kernel_rfl)
          simp only [go_sem, hn3]
          refine wC (pmust_ok 5) ?_
          simp only [go_sem]
          repeat (first | refine wS ?_ | refine wB ?_ | (refine wR ?_; simp only [go_sem]) | (refine wT ?_ ?_; focus (simp only [go_sem]; done)) | (refine wF ?_ ?_; focus (simp only [go_sem]; done)) | (refine wK ?_; try simp only [go_sem]) | (refine wE ?_; try simp only [go_sem]) | refine wX ?_)
          try simp only [TQ, true_and]
          refine wD0 ?_ (by kernel_rfl)
          try simp only [go_sem]
          repeat (first | refine wS ?_ | refine wB ?_ | (refine wR ?_; simp only [go_sem]) | (refine wT ?_ ?_; focus (simp only [go_sem]; done)) | (refine wF ?_ ?_; focus (simp only [go_sem]; done)) | (refine wK ?_; try simp only [go_sem]) | (refine wE ?_; try simp only [go_sem]) | refine wX ?_)
          exact wNq
        | false =>
          cases kb with
          | true =>
            refine wD 17 ?_ mixedO (by kernel_rfl)
            simp only [go_sem, hn3]
            repeat (first | refine wS ?_ | refine wB ?_ | (refine wR ?_; simp only [go_sem, hn3]) | (refine wT ?_ ?_; focus (simp only [go_sem]; done)) | (refine wF ?_ ?_; focus (simp only [go_sem]; done)) | (refine wK ?_; try simp only [go_sem, hn3]) | (refine wE ?_; try simp only [go_sem, hn3]) | refine wX ?_)
            refine wQC (o1) ?_
            simp only [go_sem, hn3]
            repeat (first | refine wS ?_ | refine wB ?_ | (refine wR ?_; simp only [go_sem, hn3]) | (refine wT ?_ ?_; focus (simp only [go_sem]; done)) | (refine wF ?_ ?_; focus (simp only [go_sem]; done)) | (refine wK ?_; try simp only [go_sem, hn3]) | (refine wE ?_; try simp only [go_sem, hn3]) | refine wX ?_)
            refine wQC (s1) ?_
            simp only [go_sem, hn3]
            repeat (first | refine wS ?_ | refine wB ?_ | (refine wR ?_; simp only [go_sem, hn3]) | (refine wT ?_ ?_; focus (simp only [go_sem]; done)) | (refine wF ?_ ?_; focus (simp only [go_sem]; done)) | (refine wK ?_; try simp only [go_sem, hn3]) | (refine wE ?_; try simp only [go_sem, hn3]) | refine wX ?_)
            refine wQGx (fun hh => k1) ?_
            simp only [go_sem, hn3]
            repeat (first | refine wS ?_ | refine wB ?_ | (refine wR ?_; simp only [go_sem, hn3]) | (refine wT ?_ ?_; focus (simp only [go_sem]; done)) | (refine wF ?_ ?_; focus (simp only [go_sem]; done)) | (refine wK ?_; try simp only [go_sem, hn3]) | (refine wE ?_; try simp only [go_sem, hn3]) | refine wX ?_)
            refine wD1 17 ?_ (by kernel_rfl)
            simp only [go_sem, hn3]
            refine wC (pmust_ok 5) ?_
            simp only [go_sem]
            repeat (first | refine wS ?_ | refine wB ?_ | (refine wR ?_; simp only [go_sem]) | (refine wT ?_ ?_; focus (simp only [go_sem]; done)) | (refine wF ?_ ?_; focus (simp only [go_sem]; done)) | (refine wK ?_; try simp only [go_sem]) | (refine wE ?_; try simp only [go_sem]) | refine wX ?_)
            try simp only [TQ, true_and]
            refine wD0 ?_ (by kernel_rfl)
            try simp only [go_sem]
            repeat (first | refine wS ?_ | refine wB ?_ | (refine wR ?_; simp only [go_sem]) | (refine wT ?_ ?_; focus (simp only [go_sem]; done)) | (refine wF ?_ ?_; focus (simp only [go_sem]; done)) | (refine wK ?_; try simp only [go_sem]) | (refine wE ?_; try simp only [go_sem]) | refine wX ?_)
            exact wNq
          | false =>
            refine wD 17 ?_ mixedO (by kernel_rfl)
            simp only [go_sem, hn3]
            repeat (first | refine wS ?_ | refine wB ?_ | (refine wR ?_; simp only [go_sem, hn3]) | (refine wT ?_ ?_; focus (simp only [go_sem]; done)) | (refine wF ?_ ?_; focus (simp only [go_sem]; done)) | (refine wK ?_; try simp only [go_sem, hn3]) | (refine wE ?_; try simp only [go_sem, hn3]) | refine wX ?_)
            refine wQC (o1) ?_
            simp only [go_sem, hn3]
            repeat (first | refine wS ?_ | refine wB ?_ | (refine wR ?_; simp only [go_sem, hn3]) | (refine wT ?_ ?_; focus (simp only [go_sem]; done)) | (refine wF ?_ ?_; focus (simp only [go_sem]; done)) | (refine wK ?_; try simp only [go_sem, hn3]) | (refine wE ?_; try simp only [go_sem, hn3]) | refine wX ?_)
            refine wQC (s1) ?_
            simp only [go_sem, hn3]
            repeat (first | refine wS ?_ | refine wB ?_ | (refine wR ?_; simp only [go_sem, hn3]) | (refine wT ?_ ?_; focus (simp only [go_sem]; done)) | (refine wF ?_ ?_; focus (simp only [go_sem]; done)) | (refine wK ?_; try simp only [go_sem, hn3]) | (refine wE ?_; try simp only [go_sem, hn3]) | refine wX ?_)
            refine wQGx (fun hh => k1) ?_
            simp only [go_sem, hn3]
            repeat (first | refine wS ?_ | refine wB ?_ | (refine wR ?_; simp only [go_sem, hn3]) | (refine wT ?_ ?_; focus (simp only [go_sem]; done)) | (refine wF ?_ ?_; focus (simp only [go_sem]; done)) | (refine wK ?_; try simp only [go_sem, hn3]) | (refine wE ?_; try simp only [go_sem, hn3]) | refine wX ?_)
            refine wD1 17 ?_ (by kernel_rfl)
            simp only [go_sem, hn3]
            refine wP (pmust_no 5) ?_
            try simp only [go_sem]
            exact wPan ⟨rfl, rfl⟩
  have q2 : ((s : Int) == 2) = false := (kEq s 2).trans (decide_eq_false h2)
  obtain ⟨r, hr⟩ : ∃ b, rangeB x s = b := ⟨_, rfl⟩
  have hr2 := hr
  rw [rangeB, if_neg h1, if_neg h2] at hr2
  simp only [go_sem, q1]
  repeat (first | refine wS ?_ | refine wB ?_ | (refine wR ?_; simp only [go_sem, q1, q2, hr2]) | (refine wT ?_ ?_; focus (simp only [go_sem]; done)) | (refine wF ?_ ?_; focus (simp only [go_sem]; done)) | (refine wK ?_; try simp only [go_sem, q1, q2, hr2]) | (refine wE ?_; try simp only [go_sem, q1, q2, hr2]) | refine wX ?_)
  rw [hr]
  cases r with
  | false =>
    refine wP (pmust_no 2) ?_
    try simp only [go_sem, hr2]
    exact wPan ⟨rfl, rfl⟩
  | true =>
    rw [if_pos rfl, fst0_zero]
    refine wC (pmust_ok 2) ?_
    simp only [go_sem, hr2]
    repeat (first | refine wS ?_ | refine wB ?_ | (refine wR ?_; simp only [go_sem, hr2]) | (refine wT ?_ ?_; focus (simp only [go_sem]; done)) | (refine wF ?_ ?_; focus (simp only [go_sem]; done)) | (refine wK ?_; try simp only [go_sem, hr2]) | (refine wE ?_; try simp only [go_sem, hr2]) | refine wX ?_)
    refine wC (c1) ?_
    simp only [go_sem]
    repeat (first | refine wS ?_ | refine wB ?_ | (refine wR ?_; simp only [go_sem]) | (refine wT ?_ ?_; focus (simp only [go_sem]; done)) | (refine wF ?_ ?_; focus (simp only [go_sem]; done)) | (refine wK ?_; try simp only [go_sem]) | (refine wE ?_; try simp only [go_sem]) | refine wX ?_)
    by_cases h0 : e4 ≠ 0
    · refine wP (pfine_no e4 (by omega)) ?_
      try simp only [go_sem]
      exact wPan ⟨by first | (rw [fst0_pos h0, ends1 h0]; rfl) | rw [fst0_pos h0, ends1 h0], rfl⟩
    have h0 : e4 = 0 := by omega
    rw [h0, fst0_zero]
    refine wC (pfine_ok) ?_
    simp only [go_sem, h0]
    repeat (first | refine wS ?_ | refine wB ?_ | (refine wR ?_; simp only [go_sem, h0]) | (refine wT ?_ ?_; focus (simp only [go_sem]; done)) | (refine wF ?_ ?_; focus (simp only [go_sem]; done)) | (refine wK ?_; try simp only [go_sem, h0]) | (refine wE ?_; try simp only [go_sem, h0]) | refine wX ?_)
    clear h0
    refine wC (c2) ?_
    simp only [go_sem]
    repeat (first | refine wS ?_ | refine wB ?_ | (refine wR ?_; simp only [go_sem]) | (refine wT ?_ ?_; focus (simp only [go_sem]; done)) | (refine wF ?_ ?_; focus (simp only [go_sem]; done)) | (refine wK ?_; try simp only [go_sem]) | (refine wE ?_; try simp only [go_sem]) | refine wX ?_)
    by_cases h0 : e5 ≠ 0
    · refine wP (pfine_no e5 (by omega)) ?_
      try simp only [go_sem]
      exact wPan ⟨by first | (rw [fst0_pos h0, ends1 h0]; rfl) | rw [fst0_pos h0, ends1 h0], rfl⟩
    have h0 : e5 = 0 := by omega
    rw [h0, fst0_zero]
    refine wC (pfine_ok) ?_
    simp only [go_sem, h0]
    repeat (first | refine wS ?_ | refine wB ?_ | (refine wR ?_; simp only [go_sem, h0]) | (refine wT ?_ ?_; focus (simp only [go_sem]; done)) | (refine wF ?_ ?_; focus (simp only [go_sem]; done)) | (refine wK ?_; try simp only [go_sem, h0]) | (refine wE ?_; try simp only [go_sem, h0]) | refine wX ?_)
    clear h0
    by_cases h0 : e6 ≠ 0
    · rw [ends1 (by omega : e6 ≠ 0)] at c3
      refine wP (c3) ?_
      try simp only [go_sem]
      exact wPan ⟨by first | (rw [fst0_pos h0, ends1 h0]; rfl) | rw [fst0_pos h0, ends1 h0], rfl⟩
    have h0 : e6 = 0 := by omega
    rw [h0, ends0] at c3
    rw [h0, fst0_zero]
    clear h0
    refine wC (c3) ?_
    simp only [go_sem]
    repeat (first | refine wS ?_ | refine wB ?_ | (refine wR ?_; simp only [go_sem]) | (refine wT ?_ ?_; focus (simp only [go_sem]; done)) | (refine wF ?_ ?_; focus (simp only [go_sem]; done)) | (refine wK ?_; try simp only [go_sem]) | (refine wE ?_; try simp only [go_sem]) | refine wX ?_)
    obtain ⟨sm, hsm⟩ : ∃ b, sameI x (ownI x s) = b := ⟨_, rfl⟩
    obtain ⟨n3, hn3⟩ : ∃ b, ((s : Int) != 3) = b := ⟨_, rfl⟩
    obtain ⟨kb, hkb⟩ : ∃ b, kindsB x.kind x.pt.k = b := ⟨_, rfl⟩
    have hpl : placedB x s = (sm && (n3 || kb)) := by simp only [placedB, hsm, hn3, hkb]
    rw [hpl]
    rw [hsm] at s1
    rw [hkb] at k1
    have done_ : ∀ b : Bool, fst0 [if b then 0 else 5] = if b then 0 else 5 := by decide
    rw [done_]
    cases sm with
    | false =>
      refine wD 17 ?_ mixedO (by kernel_rfl)
      simp only [go_sem, hn3]
      repeat (first | refine wS ?_ | refine wB ?_ | (refine wR ?_; simp only [go_sem, hn3]) | (refine wT ?_ ?_; focus (simp only [go_sem]; done)) | (refine wF ?_ ?_; focus (simp only [go_sem]; done)) | (refine wK ?_; try simp only [go_sem, hn3]) | (refine wE ?_; try simp only [go_sem, hn3]) | refine wX ?_)
      refine wQC (o1) ?_
      simp only [go_sem, hn3]
      repeat (first | refine wS ?_ | refine wB ?_ | (refine wR ?_; simp only [go_sem, hn3]) | (refine wT ?_ ?_; focus (simp only [go_sem]; done)) | (refine wF ?_ ?_; focus (simp only [go_sem]; done)) | (refine wK ?_; try simp only [go_sem, hn3]) | (refine wE ?_; try simp only [go_sem, hn3]) | refine wX ?_)
      refine wQC (s1) ?_
      simp only [go_sem, hn3]
      repeat (first | refine wS ?_ | refine wB ?_ | (refine wR ?_; simp only [go_sem, hn3]) | (refine wT ?_ ?_; focus (simp only [go_sem]; done)) | (refine wF ?_ ?_; focus (simp only [go_sem]; done)) | (refine wK ?_; try simp only [go_sem, hn3]) | (refine wE ?_; try simp only [go_sem, hn3]) | refine wX ?_)
      refine wQGn (.d (.v (.bool true))) ?_
      simp only [go_sem]
      repeat (first | refine wS ?_ | refine wB ?_ | (refine wR ?_; simp only [go_sem]) | (refine wT ?_ ?_; focus (simp only [go_sem]; done)) | (refine wF ?_ ?_; focus (simp only [go_sem]; done)) | (refine wK ?_; try simp only [go_sem]) | (refine wE ?_; try simp only [go_sem]) | refine wX ?_)
      refine wD1 17 ?_ (by kernel_rfl)
      simp only [go_sem, hn3]
      refine wP (pmust_no 5) ?_
      try simp only [go_sem]
      exact wPan ⟨rfl, rfl⟩
    | true =>
      cases n3 with
      | true =>
        refine wD 17 ?_ mixedO (by kernel_rfl)
        simp only [go_sem, hn3]
        repeat (first | refine wS ?_ | refine wB ?_ | (refine wR ?_; simp only [go_sem, hn3]) | (refine wT ?_ ?_; focus (simp only [go_sem]; done)) | (refine wF ?_ ?_; focus (simp only [go_sem]; done)) | (refine wK ?_; try simp only [go_sem, hn3]) | (refine wE ?_; try simp only [go_sem, hn3]) | refine wX ?_)
        refine wQC (o1) ?_
        simp only [go_sem, hn3]
        repeat (first | refine wS ?_ | refine wB ?_ | (refine wR ?_; simp only [go_sem, hn3]) | (refine wT ?_ ?_; focus (simp only [go_sem]; done)) | (refine wF ?_ ?_; focus (simp only [go_sem]; done)) | (refine wK ?_; try simp only [go_sem, hn3]) | (refine wE ?_; try simp only [go_sem, hn3]) | refine wX ?_)
        refine wQC (s1) ?_
        simp only [go_sem, hn3]
        repeat (first | refine wS ?_ | refine wB ?_ | (refine wR ?_; simp only [go_sem, hn3]) | (refine wT ?_ ?_; focus (simp only [go_sem]; done)) | (refine wF ?_ ?_; focus (simp only [go_sem]; done)) | (refine wK ?_; try simp only [go_sem, hn3]) | (refine wE ?_; try simp only [go_sem, hn3]) | refine wX ?_)
        refine wQGn (.d (.v (.bool true))) ?_
        simp only [go_sem]
        repeat (first | refine wS ?_ | refine wB ?_ | (refine wR ?_; simp only [go_sem]) | (refine wT ?_ ?_; focus (simp only [go_sem]; done)) | (refine wF ?_ ?_; focus (simp only [go_sem]; done)) | (refine wK ?_; try simp only [go_sem]) | (refine wE ?_; try simp only [go_sem]) | refine wX ?_)
        refine wD1 17 ?_ (by kernel_rfl)
        simp only [go_sem, hn3]
        refine wC (pmust_ok 5) ?_
        simp only [go_sem]
        repeat (first | refine wS ?_ | refine wB ?_ | (refine wR ?_; simp only [go_sem]) | (refine wT ?_ ?_; focus (simp only [go_sem]; done)) | (refine wF ?_ ?_; focus (simp only [go_sem]; done)) | (refine wK ?_; try simp only [go_sem]) | (refine wE ?_; try simp only [go_sem]) | refine wX ?_)
        try simp only [TQ, true_and]
        refine wD0 ?_ (by kernel_rfl)
        try simp only [go_sem]
        repeat (first | refine wS ?_ | refine wB ?_ | (refine wR ?_; simp only [go_sem]) | (refine wT ?_ ?_; focus (simp only [go_sem]; done)) | (refine wF ?_ ?_; focus (simp only [go_sem]; done)) | (refine wK ?_; try simp only [go_sem]) | (refine wE ?_; try simp only [go_sem]) | refine wX ?_)
        exact wNq
      | false =>
        cases kb with
        | true =>
          refine wD 17 ?_ mixedO (by kernel_rfl)
          simp only [go_sem, hn3]
          repeat (first | refine wS ?_ | refine wB ?_ | (refine wR ?_; simp only [go_sem, hn3]) | (refine wT ?_ ?_; focus (simp only [go_sem]; done)) | (refine wF ?_ ?_; focus (simp only [go_sem]; done)) | (refine wK ?_; try simp only [go_sem, hn3]) | (refine wE ?_; try simp only [go_sem, hn3]) | refine wX ?_)
          refine wQC (o1) ?_
          simp only [go_sem, hn3]
          repeat (first | refine wS ?_ | refine wB ?_ | (refine wR ?_; simp only [go_sem, hn3]) | (refine wT ?_ ?_; focus (simp only [go_sem]; done)) | (refine wF ?_ ?_; focus (simp only [go_sem]; done)) | (refine wK ?_; try simp only [go_sem, hn3]) | (refine wE ?_; try simp only [go_sem, hn3]) | refine wX ?_)
          refine wQC (s1) ?_
          simp only [go_sem, hn3]
          repeat (first | refine wS ?_ | refine wB ?_ | (refine wR ?_; simp only [go_sem, hn3]) | (refine wT ?_ ?_; focus (simp only [go_sem]; done)) | (refine wF ?_ ?_; focus (simp only [go_sem]; done)) | (refine wK ?_; try simp only [go_sem, hn3]) | (refine wE ?_; try simp only [go_sem, hn3]) | refine wX ?_)
          refine wQGx (fun hh => k1) ?_
          simp only [go_sem, hn3]
          repeat (first | refine wS ?_ | refine wB ?_ | (refine wR ?_; simp only [go_sem, hn3]) | (refine wT ?_ ?_; focus (simp only [go_sem]; done)) | (refine wF ?_ ?_; focus (simp only [go_sem]; done)) | (refine wK ?_; try simp only [go_sem, hn3]) | (refine wE ?_; try simp only [go_sem, hn3]) | refine wX ?_)
          refine wD1 17 ?_ (by kernel_rfl)
          simp only [go_sem, hn3]
          refine wC (pmust_ok 5) ?_
          simp only [go_sem]
          repeat (first | refine wS ?_ | refine wB ?_ | (refine wR ?_; simp only [go_sem]) | (refine wT ?_ ?_; focus (simp only [go_sem]; done)) | (refine wF ?_ ?_; focus (simp only [go_sem]; done)) | (refine wK ?_; try simp only [go_sem]) | (refine wE ?_; try simp only [go_sem]) | refine wX ?_)
          try simp only [TQ, true_and]
          refine wD0 ?_ (by kernel_rfl)
          try simp only [go_sem]
          repeat (first | refine wS ?_ | refine wB ?_ | (refine wR ?_; simp only [go_sem]) | (refine wT ?_ ?_; focus (simp only [go_sem]; done)) | (refine wF ?_ ?_; focus (simp only [go_sem]; done)) | (refine wK ?_; try simp only [go_sem]) | (refine wE ?_; try simp only [go_sem]) | refine wX ?_)
          exact wNq
        | false =>
          refine wD 17 ?_ mixedO (by kernel_rfl)
          simp only [go_sem, hn3]
          repeat (first | refine wS ?_ | refine wB ?_ | (refine wR ?_; simp only [go_sem, hn3]) | (refine wT ?_ ?_; focus (simp only [go_sem]; done)) | (refine wF ?_ ?_; focus (simp only [go_sem]; done)) | (refine wK ?_; try simp only [go_sem, hn3]) | (refine wE ?_; try simp only [go_sem, hn3]) | refine wX ?_)
          refine wQC (o1) ?_
          simp only [go_sem, hn3]
          repeat (first | refine wS ?_ | refine wB ?_ | (refine wR ?_; simp only [go_sem, hn3]) | (refine wT ?_ ?_; focus (simp only [go_sem]; done)) | (refine wF ?_ ?_; focus (simp only [go_sem]; done)) | (refine wK ?_; try simp only [go_sem, hn3]) | (refine wE ?_; try simp only [go_sem, hn3]) | refine wX ?_)
          refine wQC (s1) ?_
          simp only [go_sem, hn3]
          repeat (first | refine wS ?_ | refine wB ?_ | (refine wR ?_; simp only [go_sem, hn3]) | (refine wT ?_ ?_; focus (simp only [go_sem]; done)) | (refine wF ?_ ?_; focus (simp only [go_sem]; done)) | (refine wK ?_; try simp only [go_sem, hn3]) | (refine wE ?_; try simp only [go_sem, hn3]) | refine wX ?_)
          refine wQGx (fun hh => k1) ?_
          simp only [go_sem, hn3]
          repeat (first | refine wS ?_ | refine wB ?_ | (refine wR ?_; simp only [go_sem, hn3]) | (refine wT ?_ ?_; focus (simp only [go_sem]; done)) | (refine wF ?_ ?_; focus (simp only [go_sem]; done)) | (refine wK ?_; try simp only [go_sem, hn3]) | (refine wE ?_; try simp only [go_sem, hn3]) | refine wX ?_)
          refine wD1 17 ?_ (by kernel_rfl)
          simp only [go_sem, hn3]
          refine wP (pmust_no 5) ?_
          try simp only [go_sem]
          exact wPan ⟨rfl, rfl⟩
end Go.Proofs.YtfbegbpipmgfiaaDoor.Lift
end
section
/- pdata: whether data are right. No conditions but what types allow, and that utf8's tables lie as they are laid. -/
set_option linter.unusedVariables false
set_option linter.unusedSimpArgs false
set_option maxHeartbeats 4000000
set_option maxRecDepth 100000
namespace Go.Proofs.YtfbegbpipmgfiaaDoor.Lift
open Go Go.RowKit

def nIt (gs : List Gr) : Nat := (gs.map fun g => g.items.length).sum
def grP (g : Gr) : List D × List (List D) := (ghD g, g.items.map itD)
theorem off_grP (gs : List Gr) (i : Nat) : off (gs.map grP) i = nIt (gs.take i) := by
  simp only [off, nIt, ← List.map_take, List.map_map]
  congr 1
  refine List.map_congr_left fun g _ => ?_
  simp [grP]
theorem daD_dD (d : Da) : daD d = dD 104 416 (.v (.int .u8 d.sig)) (d.gs.map grP) := by
  simp only [daD, dD, List.map_map]
  rfl
theorem hg4 (gs : List Gr) : ∀ g ∈ gs.map grP, g.1.length = 4 ∧ ∀ it ∈ g.2, it.length = 34 := by
  intro g hg
  obtain ⟨x, _, rfl⟩ := List.mem_map.1 hg
  refine ⟨rfl, fun it hit => ?_⟩
  obtain ⟨y, _, rfl⟩ := List.mem_map.1 hit
  rfl
theorem items_n {W0 : World} (d : Da) (hd : okD d) : APure Tryd.prog W0 15 [xa d] (· = .ret (.d (.v (.int .i64 (IntKind.i64.wrap (nIt d.gs : Nat)))))) := by
  have h := Items_c (W0 := W0) 104 416 (.v (.int .u8 d.sig)) (d.gs.map grP) (hg4 d.gs) (by have := hd.gs.1; simp; omega) (by
    intro g hg
    obtain ⟨x, hx, rfl⟩ := List.mem_map.1 hg
    have := (hd.gs.2 x hx).items.1
    simp [grP]
    omega)
  rw [off_grP, List.length_map, List.take_length, ← daD_dD] at h
  exact h
theorem nIt_le {gs : List Gr} {n k : Nat} (hk : gs.length ≤ k) (h : ∀ g ∈ gs, g.items.length ≤ n) : nIt gs ≤ k * n := by
  induction gs generalizing k with
  | nil => simp [nIt]
  | cons g gs ih =>
    simp only [nIt, List.map_cons, List.sum_cons] at ih ⊢
    simp only [List.length_cons] at hk
    obtain ⟨k, rfl⟩ : ∃ j, k = j + 1 := ⟨k - 1, by omega⟩
    have h1 := ih (k := k) (by omega) fun g hg => h g (List.mem_cons_of_mem _ hg)
    have h2 := h g (List.mem_cons_self ..)
    rw [Nat.add_mul]
    omega
def grE (s : Nat) (g : Gr) : Nat := fst0 ([chkAll g.res, keyE g.scope, keyE g.ver, chkAll g.attrs] ++ g.items.map (itE · s))
def sigB (s : Nat) : Bool := decide ((0 : Int) < (s : Int)) && decide ((s : Int) < 4)
def manyB (d : Da) : Bool := decide ((d.gs.length : Int) ≤ 64) && decide ((nIt d.gs : Int) ≤ 1024)
def daE (d : Da) : Nat := fst0 ((if sigB d.sig then 0 else 5) :: (if manyB d then 0 else 3) :: d.gs.map (grE d.sig))
theorem check_c' {W0 : World} (hT : Tabs W0) (d : Da) (hd : okD d) : APure Tryd.prog W0 27 [xa d] (· = ends (daE d)) := by
  have hi := items_n (W0 := W0) d hd
  have hlen := hd.gs.1
  unfold daE
  obtain ⟨b1, hb1⟩ : ∃ b, sigB d.sig = b := ⟨_, rfl⟩
  have hb1' := hb1
  unfold sigB at hb1'
  obtain ⟨b2, hb2⟩ : ∃ b, decide ((d.gs.length : Int) ≤ 64) = b := ⟨_, rfl⟩
  obtain ⟨b3, hb3⟩ : ∃ b, decide ((nIt d.gs : Int) ≤ 1024) = b := ⟨_, rfl⟩
  have hm : manyB d = (b2 && b3) := by simp only [manyB, hb2, hb3]
  rw [hb1, hm]
  refine A_body Tryd.func27 rfl (Nat.le_of_ble_eq_true rfl) ?_
  simp only [go_sem, Tryd.ntmps27, Tryd.results27, mkEnv, hb1', hb2]
  repeat (first | refine wS ?_ | refine wB ?_ | (refine wR ?_; simp only [go_sem, hb1', hb2]) | (refine wT ?_ ?_; focus (simp only [go_sem]; done)) | (refine wF ?_ ?_; focus (simp only [go_sem]; done)) | (refine wK ?_; try simp only [go_sem, hb1', hb2]) | (refine wE ?_; try simp only [go_sem, hb1', hb2]) | refine wX ?_)
  cases b1 with
  | false =>
    refine wP (pmust_no 5) ?_
    try simp only [go_sem, hb1']
    exact wPan ⟨rfl, rfl⟩
  | true =>
    rw [if_pos rfl, fst0_zero]
    refine wC (pmust_ok 5) ?_
    simp only [go_sem, hb1', hb2]
    repeat (first | refine wS ?_ | refine wB ?_ | (refine wR ?_; simp only [go_sem, hb1', hb2]) | (refine wT ?_ ?_; focus (simp only [go_sem]; done)) | (refine wF ?_ ?_; focus (simp only [go_sem]; done)) | (refine wK ?_; try simp only [go_sem, hb1', hb2]) | (refine wE ?_; try simp only [go_sem, hb1', hb2]) | refine wX ?_)
    cases b2 with
    | false =>
      refine wCGn (.d (.v (.int .i64 0))) ?_
      simp only [go_sem, hb2]
      repeat (first | refine wS ?_ | refine wB ?_ | (refine wR ?_; simp only [go_sem, hb2]) | (refine wT ?_ ?_; focus (simp only [go_sem]; done)) | (refine wF ?_ ?_; focus (simp only [go_sem]; done)) | (refine wK ?_; try simp only [go_sem, hb2]) | (refine wE ?_; try simp only [go_sem, hb2]) | refine wX ?_)
      refine wP (pmust_no 3) ?_
      try simp only [go_sem]
      exact wPan ⟨rfl, rfl⟩
    | true =>
      have hle := of_decide_eq_true hb2
      have hn : nIt d.gs ≤ 64 * 338311270076 := nIt_le (by omega) fun g hg => by have := (hd.gs.2 g hg).items.1; omega
      have hw : IntKind.i64.wrap (nIt d.gs : Nat) = (nIt d.gs : Int) := wrap_in (by omega) (by omega)
      rw [hw] at hi
      refine wCG (fun hh => hi) ?_
      simp only [go_sem, hb3]
      repeat (first | refine wS ?_ | refine wB ?_ | (refine wR ?_; simp only [go_sem, hb3]) | (refine wT ?_ ?_; focus (simp only [go_sem]; done)) | (refine wF ?_ ?_; focus (simp only [go_sem]; done)) | (refine wK ?_; try simp only [go_sem, hb3]) | (refine wE ?_; try simp only [go_sem, hb3]) | refine wX ?_)
      cases b3 with
      | false =>
        refine wP (pmust_no 3) ?_
        try simp only [go_sem, hb3]
        exact wPan ⟨rfl, rfl⟩
      | true =>
        rw [if_pos rfl, fst0_zero]
        refine wC (pmust_ok 3) ?_
        simp only [go_sem, hb3]
        repeat (first | refine wS ?_ | refine wB ?_ | (refine wR ?_; simp only [go_sem, hb3]) | (refine wT ?_ ?_; focus (simp only [go_sem]; done)) | (refine wF ?_ ?_; focus (simp only [go_sem]; done)) | (refine wK ?_; try simp only [go_sem, hb3]) | (refine wE ?_; try simp only [go_sem, hb3]) | refine wX ?_)
        refine wL (fun i => ⟨59, ofL [(1, .ptr 0 0), (26, rG d.gs), (27, .d (.v (.int .i64 d.gs.length))), (28, .d (.v (.int .i64 i)))], [.var ((daD d).map .d)]⟩) (d.gs.length) (fun i => fst0 ((d.gs.take i).map (grE d.sig)) = 0) wSb (rfl) ?_
        intro i hi hinv R hR
        simp only [go_sem]
        repeat (first | refine wS ?_ | refine wB ?_ | (refine wR ?_; simp only [go_sem]) | (refine wT ?_ ?_; focus (simp only [go_sem]; done)) | (refine wF ?_ ?_; focus (simp only [go_sem]; done)) | (refine wK ?_; try simp only [go_sem]) | (refine wE ?_; try simp only [go_sem]) | refine wX ?_)
        refine wI (fun h => ?_) (fun h => ?_)
        · have hlt : i < d.gs.length := by simpa using h
          have hlt2 : ((i : Int) < ((d.gs.length : Nat) : Int)) = True := eq_true (by omega)
          have hw := wrap_succ (i := i) (by omega)
          have hx : (d.gs.map grD)[i]? = some (grD d.gs[i]) := by rw [List.getElem?_map, List.getElem?_eq_getElem hlt]; rfl
          have hg := hd.gs.2 d.gs[i] (List.getElem_mem hlt)
          rw [List.map_take] at hinv
          obtain ⟨hz, hnz⟩ := fst0_take (l := d.gs.map (grE d.sig)) (i := i) (c := grE d.sig d.gs[i]) (by rw [List.getElem?_map, List.getElem?_eq_getElem hlt]; rfl) hinv
          rw [← List.map_take] at hz
          generalize d.gs[i] = g at hx hg hz hnz
          have c1 := CheckPairs_c (W0 := W0) hT g.res hg.res
          have c2 := CheckPairs_c (W0 := W0) hT g.attrs hg.attrs
          have t1 := text_c (W0 := W0) hT g.scope hg.scope
          have t2 := text_c (W0 := W0) hT g.ver hg.ver
          have hge : grE d.sig g = fst0 ([chkAll g.res, keyE g.scope, keyE g.ver, chkAll g.attrs] ++ g.items.map (itE · d.sig)) := rfl
          simp only [List.cons_append, List.nil_append] at hge
          generalize chkAll g.res = e1 at c1 hge
          generalize chkAll g.attrs = e4 at c2 hge
          generalize keyE g.scope = e2 at t1 hge
          generalize keyE g.ver = e3 at t2 hge
          repeat (first | refine wS ?_ | refine wB ?_ | (refine wR ?_; simp only [go_sem, hx, grD]) | (refine wT ?_ ?_; focus (simp only [go_sem]; done)) | (refine wF ?_ ?_; focus (simp only [go_sem]; done)) | (refine wK ?_; try simp only [go_sem, hx, grD]) | (refine wE ?_; try simp only [go_sem, hx, grD]) | refine wX ?_)
          refine wC (c1) ?_
          simp only [go_sem]
          repeat (first | refine wS ?_ | refine wB ?_ | (refine wR ?_; simp only [go_sem]) | (refine wT ?_ ?_; focus (simp only [go_sem]; done)) | (refine wF ?_ ?_; focus (simp only [go_sem]; done)) | (refine wK ?_; try simp only [go_sem]) | (refine wE ?_; try simp only [go_sem]) | refine wX ?_)
          by_cases h0 : e1 ≠ 0
          · rw [fst0_pos h0] at hge
            refine wP (pfine_no e1 (by omega)) ?_
            try simp only [go_sem]
            exact wPan ⟨by rw [hnz (by rw [hge]; exact h0), hge]; exact (ends1 h0).symm, rfl⟩
          obtain rfl : e1 = 0 := by omega
          rw [fst0_zero] at hge
          clear h0
          refine wC (pfine_ok) ?_
          simp only [go_sem]
          repeat (first | refine wS ?_ | refine wB ?_ | (refine wR ?_; simp only [go_sem]) | (refine wT ?_ ?_; focus (simp only [go_sem]; done)) | (refine wF ?_ ?_; focus (simp only [go_sem]; done)) | (refine wK ?_; try simp only [go_sem]) | (refine wE ?_; try simp only [go_sem]) | refine wX ?_)
          by_cases h0 : e2 ≠ 0
          · rw [fst0_pos h0] at hge
            rw [ends1 h0] at t1
            refine wP (t1) ?_
            try simp only [go_sem]
            exact wPan ⟨by rw [hnz (by rw [hge]; exact h0), hge]; exact (ends1 h0).symm, rfl⟩
          have h0 : e2 = 0 := by omega
          rw [h0, fst0_zero] at hge
          rw [h0, ends0] at t1
          refine wC (t1) ?_
          simp only [go_sem]
          repeat (first | refine wS ?_ | refine wB ?_ | (refine wR ?_; simp only [go_sem]) | (refine wT ?_ ?_; focus (simp only [go_sem]; done)) | (refine wF ?_ ?_; focus (simp only [go_sem]; done)) | (refine wK ?_; try simp only [go_sem]) | (refine wE ?_; try simp only [go_sem]) | refine wX ?_)
          clear h0
          by_cases h0 : e3 ≠ 0
          · rw [fst0_pos h0] at hge
            rw [ends1 h0] at t2
            refine wP (t2) ?_
            try simp only [go_sem]
            exact wPan ⟨by rw [hnz (by rw [hge]; exact h0), hge]; exact (ends1 h0).symm, rfl⟩
          have h0 : e3 = 0 := by omega
          rw [h0, fst0_zero] at hge
          rw [h0, ends0] at t2
          refine wC (t2) ?_
          simp only [go_sem]
          repeat (first | refine wS ?_ | refine wB ?_ | (refine wR ?_; simp only [go_sem]) | (refine wT ?_ ?_; focus (simp only [go_sem]; done)) | (refine wF ?_ ?_; focus (simp only [go_sem]; done)) | (refine wK ?_; try simp only [go_sem]) | (refine wE ?_; try simp only [go_sem]) | refine wX ?_)
          clear h0
          refine wC (c2) ?_
          simp only [go_sem]
          repeat (first | refine wS ?_ | refine wB ?_ | (refine wR ?_; simp only [go_sem]) | (refine wT ?_ ?_; focus (simp only [go_sem]; done)) | (refine wF ?_ ?_; focus (simp only [go_sem]; done)) | (refine wK ?_; try simp only [go_sem]) | (refine wE ?_; try simp only [go_sem]) | refine wX ?_)
          by_cases h0 : e4 ≠ 0
          · rw [fst0_pos h0] at hge
            refine wP (pfine_no e4 (by omega)) ?_
            try simp only [go_sem]
            exact wPan ⟨by rw [hnz (by rw [hge]; exact h0), hge]; exact (ends1 h0).symm, rfl⟩
          obtain rfl : e4 = 0 := by omega
          rw [fst0_zero] at hge
          clear h0
          refine wC (pfine_ok) ?_
          simp only [go_sem]
          repeat (first | refine wS ?_ | refine wB ?_ | (refine wR ?_; simp only [go_sem]) | (refine wT ?_ ?_; focus (simp only [go_sem]; done)) | (refine wF ?_ ?_; focus (simp only [go_sem]; done)) | (refine wK ?_; try simp only [go_sem]) | (refine wE ?_; try simp only [go_sem]) | refine wX ?_)
          have hil := hg.items.1
          have hR1 := hR
          have hw1 := hw
          have hlt1 := hlt
          refine wL (fun j => ⟨59, ofL [(1, .ptr 0 0), (26, rG d.gs), (27, .d (.v (.int .i64 d.gs.length))), (28, .d (.v (.int .i64 i))), (47, rI g.items), (48, .d (.v (.int .i64 g.items.length))), (49, .d (.v (.int .i64 j)))], [.var ((daD d).map .d), .var ((grD g).map .d)]⟩) (g.items.length) (fun j => fst0 ((g.items.take j).map (itE · d.sig)) = 0) wSb (rfl) ?_
          intro j hi hinv R hR
          simp only [go_sem]
          repeat (first | refine wS ?_ | refine wB ?_ | (refine wR ?_; simp only [go_sem]) | (refine wT ?_ ?_; focus (simp only [go_sem]; done)) | (refine wF ?_ ?_; focus (simp only [go_sem]; done)) | (refine wK ?_; try simp only [go_sem]) | (refine wE ?_; try simp only [go_sem]) | refine wX ?_)
          refine wI (fun h => ?_) (fun h => ?_)
          · have hlt : j < g.items.length := by simpa using h
            have hlt2 : ((j : Int) < ((g.items.length : Nat) : Int)) = True := eq_true (by omega)
            have hw := wrap_succ (i := j) (by omega)
            have hx2 : (g.items.map itD)[j]? = some (itD g.items[j]) := by rw [List.getElem?_map, List.getElem?_eq_getElem hlt]; rfl
            have hc := item_c (W0 := W0) hT g.items[j] (hg.items.2 _ (List.getElem_mem hlt)) d.sig
            rw [List.map_take] at hinv
            obtain ⟨hz2, hnz2⟩ := fst0_take (l := g.items.map (itE · d.sig)) (i := j) (c := itE g.items[j] d.sig) (by rw [List.getElem?_map, List.getElem?_eq_getElem hlt]; rfl) hinv
            rw [← List.map_take] at hz2
            generalize g.items[j] = x at hx2 hc hz2 hnz2
            repeat (first | refine wS ?_ | refine wB ?_ | (refine wR ?_; simp only [go_sem, hx2, itD]) | (refine wT ?_ ?_; focus (simp only [go_sem]; done)) | (refine wF ?_ ?_; focus (simp only [go_sem]; done)) | (refine wK ?_; try simp only [go_sem, hx2, itD]) | (refine wE ?_; try simp only [go_sem, hx2, itD]) | refine wX ?_)
            by_cases h0 : itE x d.sig = 0
            · rw [h0, ends0] at hc
              refine wC (hc) ?_
              simp only [go_sem, hw]
              repeat (first | refine wS ?_ | refine wB ?_ | (refine wR ?_; simp only [go_sem, hw]) | (refine wT ?_ ?_; focus (simp only [go_sem]; done)) | (refine wF ?_ ?_; focus (simp only [go_sem]; done)) | (refine wK ?_; try simp only [go_sem, hw]) | (refine wE ?_; try simp only [go_sem, hw]) | refine wX ?_)
              exact hR hlt (hz2 h0) _ wSb
            · rw [ends1 h0] at hc
              refine wP (hc) ?_
              try simp only [go_sem]
              refine wPan ⟨?_, rfl⟩
              have e1 := hnz2 h0
              rw [e1] at hge
              rw [hnz (by rw [hge]; exact h0), hge]
              exact (ends1 h0).symm
          · obtain rfl : j = g.items.length := by simp at h; omega
            rw [List.take_length] at hinv
            rw [hinv] at hge
            repeat (first | refine wS ?_ | refine wB ?_ | (refine wR ?_; simp only [go_sem, hw1]) | (refine wT ?_ ?_; focus (simp only [go_sem]; done)) | (refine wF ?_ ?_; focus (simp only [go_sem]; done)) | (refine wK ?_; try simp only [go_sem, hw1]) | (refine wE ?_; try simp only [go_sem, hw1]) | refine wX ?_)
            exact hR1 hlt1 (hz hge) _ wSb
        · obtain rfl : i = d.gs.length := by simp at h; omega
          rw [List.take_length] at hinv
          rw [hinv]
          repeat (first | refine wS ?_ | refine wB ?_ | (refine wR ?_; simp only [go_sem]) | (refine wT ?_ ?_; focus (simp only [go_sem]; done)) | (refine wF ?_ ?_; focus (simp only [go_sem]; done)) | (refine wK ?_; try simp only [go_sem]) | (refine wE ?_; try simp only [go_sem]) | refine wX ?_)
          exact wNq
end Go.Proofs.YtfbegbpipmgfiaaDoor.Lift
end
section
/- The lift: a function that does something, and answers the error's number with which it panics (penstock/pdata.caught). No conditions: words and their laws. -/
set_option linter.unusedVariables false
set_option linter.unusedSimpArgs false
namespace Go.Proofs.YtfbegbpipmgfiaaDoor.Lift
open Go Go.RowKit

namespace Pda
theorem assert_errno (c : Int) (w : World) : (Instr.typeAssert (.iface 27 (.int .i64 c)) 20 27 false).run Tryd.prog w = .ok (.int .i64 c) w := by kernel_rfl
theorem make_func (P : Program) : ∀ (fn : Fn) (first cap : Array Value) (w : World), (Instr.makeFunc fn first cap).run P w = .ok (.func fn first cap) w := fun _ _ _ _ => rfl
theorem caught_dies (p : Addr) (x : Int) (c : Int) (older : List PanicEntry) (w : World) (hc : w.cell? p = some (.int .i64 x)) (hz : w.frozen? p = false) :
    CallsD Tryd.prog 47 #[.pointer (some p)] (.panicking ({ v := .iface 27 (.int .i64 c), recovered := false } :: older)) w fun e u' w' =>
      e = .returned (.tuple #[]) ∧ u' = .panicking ({ v := .iface 27 (.int .i64 c), recovered := true } :: older) ∧ w' = w.setCell p (.int .i64 c) := by
  have hta := assert_errno c
  refine callsD_of_wpS Tryd.func47 rfl fun c₀ cs hu => ?_
  apply wpS_seq
  apply wpS_region
  simp [wpOpsS, go_sem, recoverD, hu, Tryd.ntmps47, Exit.thenS]
  refine wpS_of_wp ?_
  show Code.wp _ _ _ { tmps := #[.pointer (some p), .iface 27 (.int .i64 c), .iface 27 (.int .i64 c), undef, undef, undef, undef], defers := [] } _
  go_wp2
  simp [bodyPostS, results, Tryd.results47]
theorem caught_idle (p : Addr) (w : World) :
    CallsD Tryd.prog 47 #[.pointer (some p)] .returning w fun e u' w' => e = .returned (.tuple #[]) ∧ u' = .returning ∧ w' = w := by
  refine callsD_of_wpS Tryd.func47 rfl fun c₀ cs hu => ?_
  apply wpS_seq
  apply wpS_region
  simp [wpOpsS, go_sem, recoverD, hu, Tryd.ntmps47, Exit.thenS]
  refine wpS_of_wp ?_
  show Code.wp _ _ _ { tmps := #[.pointer (some p), .nilIface, .nilIface, undef, undef, undef, undef], defers := [] } _
  go_wp2
  cases c₀
  simp at hu
  simp [bodyPostS, results, Tryd.results47, hu]
set_option maxHeartbeats 1000000 in
set_option maxRecDepth 100000 in
theorem caught_calls (F : FuncId) (caps : Array Value) (w : World) (ok : World → Prop) (bad : Int → World → Prop)
    (hF : ∀ w : World, (callFunc F caps).run Tryd.prog w = .ok (.enter F caps) w)
    (h : Calls Tryd.prog F caps (w.alloc (.cells #[.int .i64 0] 27)) fun e w' =>
      (e = .returned (.tuple #[]) ∧ w'.cell? ⟨w.heap.size, 0, none⟩ = some (.int .i64 0) ∧ w'.frozen? ⟨w.heap.size, 0, none⟩ = false ∧ ok w') ∨ ∃ c, e = .panicked [{ v := .iface 27 (.int .i64 c), recovered := false }] ∧ w'.cell? ⟨w.heap.size, 0, none⟩ = some (.int .i64 0) ∧ w'.frozen? ⟨w.heap.size, 0, none⟩ = false ∧ bad c w') :
    Calls Tryd.prog 25 #[.func (.func F) #[] caps] w fun e w' =>
      (e = .returned (.int .i64 0) ∧ ∃ w1, ok w1 ∧ w' = w1.setCell ⟨w.heap.size, 0, none⟩ (.int .i64 0)) ∨ (∃ c, e = .returned (.int .i64 c) ∧ ∃ w1, bad c w1 ∧ w' = w1.setCell ⟨w.heap.size, 0, none⟩ (.int .i64 c)) := by
  have hmf := make_func Tryd.prog
  have HF := Lib.hid hF
  clear hF
  go_enter_defers Tryd.func25, Tryd.ntmps25
  go_wp2_with fail
  rw [HF.out, Oper.upon_enter]
  refine h.mono ?_
  rintro e w1 (⟨rfl, h0, z0, hk⟩ | ⟨c, rfl, h0, z0, hk⟩)
  · go_wp2
    refine leaves_cons (f := 47) (args := #[.pointer (some ⟨w.heap.size, 0, none⟩)]) (by simp) (by simp [go_sem]) ?_
    refine (caught_idle _ _).mono ?_
    rintro e u' w'' ⟨rfl, rfl, rfl⟩
    have hh := World.cell?_setCell_same (w := w1) (a := ⟨w.heap.size, 0, none⟩) (v := .int .i64 0) h0
    exact ⟨.int .i64 0, by simp [results, Tryd.results25, go_sem, hh], .inl ⟨rfl, _, hk, rfl⟩⟩
  · go_wp2
    refine leaves_cons (f := 47) (args := #[.pointer (some ⟨w.heap.size, 0, none⟩)]) (by simp) (by simp [go_sem]) ?_
    refine (caught_dies _ 0 c [] _ h0 z0).mono ?_
    rintro e u' w'' ⟨rfl, rfl, rfl⟩
    have hh := World.cell?_setCell_same (w := w1) (a := ⟨w.heap.size, 0, none⟩) (v := .int .i64 c) h0
    exact ⟨.int .i64 c, by simp [results, Tryd.results25, go_sem, hh], .inr ⟨c, rfl, _, hk, rfl⟩⟩

/-- What it comes to, by what the function that it was handed does. -/
theorem A_caught {W0 : World} {g : FuncId} {caps : List AV} {L : List Box} {R R' : Res → List Box → Prop} (hg : callable Tryd.prog g = true) (h : ACalls Tryd.prog W0 g caps L R)
    (hR : ∀ r L', R r L' → (r = .ret (.tup []) ∧ R' (.ret (.d (.v (.int .i64 0)))) L') ∨ ∃ c, r = .panic (.d (.v (.iface 27 (.int .i64 c)))) ∧ R' (.ret (.d (.v (.int .i64 c)))) L') :
    ACalls Tryd.prog W0 25 [.fn g caps] L R' := by
  intro M m w us hC ha
  obtain ⟨u, rfl⟩ : ∃ u, us = #[u] := by
    have hl := ha.length
    simp only [List.length_cons, List.length_nil, Array.length_toList] at hl
    exact ⟨us[0], by apply Array.ext'; simp; cases us with | mk l => cases l with | nil => simp at hl | cons x l => cases l with | nil => rfl | cons => simp at hl⟩
  simp only [RAs, RA, and_true] at ha
  obtain ⟨cs, rfl, ha⟩ := ha
  have hlow : W0.heap.size ≤ w.heap.size := hC.base.size
  have hf1 : Fr (fun _ => False) w (w.alloc (.cells #[.int .i64 0] 27)) := Fr.alloc w _
  have hM1 : ∀ k, k < w.heap.size → (M k ∨ k = w.heap.size) → M k := fun k hk hx => hx.resolve_right (by omega)
  have hC1 : C W0 ⟨w.alloc (.cells #[.int .i64 0] 27), fun k => M k ∨ k = w.heap.size, m, L.length, []⟩ (fun k => M k ∨ k = w.heap.size) m ⟨0, [], L⟩ nobody (w.alloc (.cells #[.int .i64 0] 27)) := by
    have mLt : ∀ k, (M k ∨ k = w.heap.size) → k < (w.alloc (.cells #[.int .i64 0] 27)).heap.size := by
      rintro k (hk | rfl)
      · have := hC.mLt k hk
        simp
        omega
      · simp
    exact {
      base := hC.base.trans hf1
      fr := Fr.refl _ _
      eLt := mLt
      mLow := by
        rintro k (hk | rfl)
        · exact hC.mLow k hk
        · exact hlow
      mUp := fun _ x => x
      mNew := fun _ x => .inl x
      mLt := mLt
      mNo := hC.mNo
      mIn := fun b k hb => .inl (hC.mIn b k hb)
      inj := hC.inj
      oldv := fun _ _ _ _ => rfl
      oldr := fun _ _ _ hk => .inl hk
      new := fun b k hb hk => by
        have := hC.mNo b hb
        rw [this] at hk
        cases hk
      len := Nat.le_refl _
      box := fun b x hb => (hC.box b x hb).mono hf1 (fun _ _ x => x.elim) hM1 (fun _ _ x => x)
      env := fun t x hx => by simp [lk_nil] at hx
      wide := rfl
      defers := rfl }
  have ha1 := RAs.mono (M' := fun k => M k ∨ k = w.heap.size) hf1 (fun _ _ x => x.elim) hM1 _ _ ha
  refine (caught_calls g cs w (fun w' => ∃ L' M' m', R' (.ret (.d (.v (.int .i64 0)))) L' ∧ C W0 ⟨w.alloc (.cells #[.int .i64 0] 27), fun k => M k ∨ k = w.heap.size, m, L.length, []⟩ M' m' ⟨0, [], L'⟩ nobody w')
    (fun c w' => ∃ L' M' m', R' (.ret (.d (.v (.int .i64 c)))) L' ∧ C W0 ⟨w.alloc (.cells #[.int .i64 0] 27), fun k => M k ∨ k = w.heap.size, m, L.length, []⟩ M' m' ⟨0, [], L'⟩ nobody w')
    (fun w => run_callFunc hg _ w) ((h _ m _ cs hC1 ha1).mono ?_)).mono ?_
  · rintro e w' ⟨r, L', M', m', hr, hres, hC2⟩
    have hblk : w'.heap[w.heap.size]? = (w.alloc (.cells #[.int .i64 0] 27)).heap[w.heap.size]? := hC2.fr.block _ (by simp) (fun ⟨b, _, hb⟩ => by
      have := hC.mLt _ (hC.mIn b _ hb)
      omega)
    have h0 : w'.cell? ⟨w.heap.size, 0, none⟩ = some (.int .i64 0) := (World.cell?_of_block (w := w.alloc (.cells #[.int .i64 0] 27)) (a := ⟨w.heap.size, 0, none⟩) hblk).trans (by simp)
    have z0 : w'.frozen? ⟨w.heap.size, 0, none⟩ = false := (World.frozen?_of_block (w := w.alloc (.cells #[.int .i64 0] 27)) (a := ⟨w.heap.size, 0, none⟩) hblk).trans (by simp)
    rcases hR r L' hr with ⟨rfl, h1⟩ | ⟨c, rfl, h1⟩
    · cases e with
      | returned u =>
        simp only [ResR, RA] at hres
        obtain ⟨us, rfl, hu⟩ := hres
        have : us = #[] := by
          have := hu.length
          simp at this
          exact Array.eq_empty_of_size_eq_zero this.symm
        subst this
        exact .inl ⟨rfl, h0, z0, L', M', m', h1, hC2⟩
      | panicked c => exact hres.elim
      | outgrown => exact hres.elim
    · cases e with
      | returned u => exact hres.elim
      | panicked ch =>
        obtain ⟨u, rfl, hu⟩ := hres
        obtain rfl := hu.v_inv.1
        exact .inr ⟨c, rfl, h0, z0, L', M', m', h1, hC2⟩
      | outgrown => exact hres.elim
  · have fin : ∀ (c : Int) (w1 : World), (∃ L' M' m', R' (.ret (.d (.v (.int .i64 c)))) L' ∧ C W0 ⟨w.alloc (.cells #[.int .i64 0] 27), fun k => M k ∨ k = w.heap.size, m, L.length, []⟩ M' m' ⟨0, [], L'⟩ nobody w1) →
        ∃ r L' M' m', R' r L' ∧ ResR M' m' (w1.setCell ⟨w.heap.size, 0, none⟩ (.int .i64 c)) r (.returned (.int .i64 c)) ∧ C W0 ⟨w, M, m, L.length, []⟩ M' m' ⟨0, [], L'⟩ nobody (w1.setCell ⟨w.heap.size, 0, none⟩ (.int .i64 c)) := by
      rintro c w1 ⟨L', M', m', h1, h2⟩
      have hk : M' w.heap.size := h2.mUp _ (.inr rfl)
      have hblk : w1.heap[w.heap.size]? = (w.alloc (.cells #[.int .i64 0] 27)).heap[w.heap.size]? := h2.fr.block _ (by simp) (fun ⟨b, _, hb⟩ => by
        have := hC.mLt _ (hC.mIn b _ hb)
        omega)
      have hcell : w1.heap[w.heap.size]? = some (Obj.cells #[.int .i64 0] 27 (0, 0)) := hblk.trans (heap_alloc_new w _)
      have hset : w1.setCell ⟨w.heap.size, 0, none⟩ (.int .i64 c) = w1.setRow w.heap.size #[.int .i64 c] := by
        rw [setCell_eq_setRow w1 w.heap.size 0 _ _ (0, 0) _ hcell]
        rfl
      have hf : Fr (fun i => i = w.heap.size) w1 (w1.setCell ⟨w.heap.size, 0, none⟩ (.int .i64 c)) := by
        rw [hset]
        exact Fr.setRow w1 _ _ _ _ hcell rfl rfl
      have hE : ∀ i, i < w1.heap.size → i = w.heap.size → M' i := fun i _ e => e ▸ hk
      have nob : ∀ b, m' b ≠ .at_ w.heap.size := fun b hb => by
        by_cases hbl : b < L.length
        · rcases h2.oldr b _ hbl hb with h3 | h3
          · have := hC.mLt _ (hC.mIn b _ h3)
            omega
          · simp at h3
            omega
        · have h3 := h2.new b _ (by simpa using hbl) hb
          simp at h3
          omega
      refine ⟨_, L', M', m', h1, RA.v_mk (M := M') (m := m') (w := w1.setCell ⟨w.heap.size, 0, none⟩ (.int .i64 c)) (x := .int .i64 c) rfl, { h2 with base := ?_, fr := ?_, eLt := hC.mLt, mUp := fun k hk => h2.mUp k (.inl hk), mNew := ?_, mLt := ?_, oldv := h2.oldv, oldr := ?_, new := ?_, box := ?_, env := ?_ }⟩
      · exact ⟨hf.os.trans h2.base.os, hf.tape.trans h2.base.tape, hf.output.trans h2.base.output, Nat.le_trans h2.base.size hf.size, fun i hi he => (hf.block i (Nat.lt_of_lt_of_le hi h2.base.size) (by omega)).trans (h2.base.block i hi he),
          fun i D t hi => by
            obtain ⟨D', h3, h4⟩ := h2.base.keep i D t hi
            obtain ⟨D'', h5, h6⟩ := hf.keep i D' t h3
            exact ⟨D'', h5, h6.trans h4⟩⟩
      · have h3 : Fr (fun k => ∃ b, b < L.length ∧ m b = .at_ k) w w1 := (Fr.weak hf1 fun _ _ x => x.elim).trans h2.fr
        refine ⟨hf.os.trans h3.os, hf.tape.trans h3.tape, hf.output.trans h3.output, Nat.le_trans h3.size hf.size, fun i hi he => (hf.block i (Nat.lt_of_lt_of_le hi h3.size) (by simp only at hi; omega)).trans (h3.block i hi he), fun i D t hi => ?_⟩
        obtain ⟨D', h3, h4⟩ := h3.keep i D t hi
        obtain ⟨D'', h5, h6⟩ := hf.keep i D' t h3
        exact ⟨D'', h5, h6.trans h4⟩
      · intro k hk
        rcases h2.mNew k hk with (h3 | rfl) | h3
        · exact .inl h3
        · exact .inr (Nat.le_refl _)
        · simp at h3
          exact .inr (by simp only; omega)
      · intro k hk
        exact Nat.lt_of_lt_of_le (h2.mLt k hk) hf.size
      · intro b k hb hk
        rcases h2.oldr b k hb hk with h3 | h3
        · exact .inl h3
        · simp at h3
          exact .inr (by simp only; omega)
      · intro b k hb hk
        have h3 := h2.new b k hb hk
        simp at h3
        simp only
        omega
      · intro b x hb
        exact (h2.box b x hb).mono hf hE (fun _ _ x => x) fun k hbk e => nob b (e ▸ hbk)
      · intro t x hx
        simp [lk_nil] at hx
    rintro e w' (⟨rfl, w1, hw1, rfl⟩ | ⟨c, rfl, w1, hw1, rfl⟩)
    · exact fin 0 w1 hw1
    · exact fin c w1 hw1
end Pda
end Go.Proofs.YtfbegbpipmgfiaaDoor.Lift
end
section
/- pdata: Check. No conditions but what types allow, and that utf8's tables lie as they are laid. -/
set_option linter.unusedVariables false
set_option linter.unusedSimpArgs false
set_option maxHeartbeats 4000000
set_option maxRecDepth 100000
namespace Go.Proofs.YtfbegbpipmgfiaaDoor.Lift
open Go Go.RowKit

theorem pcaught_ends {W0 : World} {g : FuncId} {caps : List AV} {L L2 : List Box} {c : Nat} (hg : callable Tryd.prog g = true) (h : ACalls Tryd.prog W0 g caps L (fun r L' => r = ends c ∧ L' = L2)) :
    ACalls Tryd.prog W0 25 [.fn g caps] L (fun r L' => r = .ret (.d (.v (.int .i64 c))) ∧ L' = L2) :=
  Pda.A_caught hg h (by
    rintro r L' ⟨rfl, rfl⟩
    by_cases hc : c = 0
    · subst hc
      exact .inl ⟨rfl, rfl, rfl⟩
    · exact .inr ⟨c, ends1 hc, rfl, rfl⟩)
theorem pcheck1_c {W0 : World} (hT : Tabs W0) (d : Da) (hd : okD d) : ACalls Tryd.prog W0 33 [.ptr 0 0] [.var ((daD d).map .d)] (fun r L' => r = ends (daE d) ∧ L' = [.var ((daD d).map .d)]) := by
  have hc := check_c' (W0 := W0) hT d hd
  refine A_body Tryd.func33 rfl (Nat.le_of_ble_eq_true rfl) ?_
  simp only [go_sem, Tryd.ntmps33, Tryd.results33, mkEnv]
  repeat (first | refine wS ?_ | refine wB ?_ | (refine wR ?_; simp only [go_sem]) | (refine wT ?_ ?_; focus (simp only [go_sem]; done)) | (refine wF ?_ ?_; focus (simp only [go_sem]; done)) | (refine wK ?_; try simp only [go_sem]) | (refine wE ?_; try simp only [go_sem]) | refine wX ?_)
  by_cases h0 : daE d = 0
  · rw [h0, ends0] at hc ⊢
    refine wC (hc) ?_
    simp only [go_sem]
    repeat (first | refine wS ?_ | refine wB ?_ | (refine wR ?_; simp only [go_sem]) | (refine wT ?_ ?_; focus (simp only [go_sem]; done)) | (refine wF ?_ ?_; focus (simp only [go_sem]; done)) | (refine wK ?_; try simp only [go_sem]) | (refine wE ?_; try simp only [go_sem]) | refine wX ?_)
    exact wRetBN [.var ((daD d).map .d)] ⟨rfl, rfl⟩
  · rw [ends1 h0] at hc ⊢
    refine wP (hc) ?_
    try simp only [go_sem]
    exact wPanB [.var ((daD d).map .d)] ⟨rfl, rfl⟩
theorem PCheck_c {W0 : World} (hT : Tabs W0) (d : Da) (hd : okD d) : APure Tryd.prog W0 13 [xa d] (· = .ret (.d (.v (.int .i64 (daE d : Nat))))) := by
  have hc := pcaught_ends (by simp only [go_sem]) (pcheck1_c (W0 := W0) hT d hd)
  simp only [go_sem] at hc
  refine A_body Tryd.func13 rfl (Nat.le_of_ble_eq_true rfl) ?_
  simp only [go_sem, Tryd.ntmps13, Tryd.results13, mkEnv]
  repeat (first | refine wS ?_ | refine wB ?_ | (refine wR ?_; simp only [go_sem]) | (refine wT ?_ ?_; focus (simp only [go_sem]; done)) | (refine wF ?_ ?_; focus (simp only [go_sem]; done)) | (refine wK ?_; try simp only [go_sem]) | (refine wE ?_; try simp only [go_sem]) | refine wX ?_)
  refine wCB [0] (hc) ?_
  simp only [go_sem]
  repeat (first | refine wS ?_ | refine wB ?_ | (refine wR ?_; simp only [go_sem]) | (refine wT ?_ ?_; focus (simp only [go_sem]; done)) | (refine wF ?_ ?_; focus (simp only [go_sem]; done)) | (refine wK ?_; try simp only [go_sem]) | (refine wE ?_; try simp only [go_sem]) | refine wX ?_)
  exact wRq
end Go.Proofs.YtfbegbpipmgfiaaDoor.Lift
end
section
/- The lift: copies of slices. No conditions. -/
set_option linter.unusedVariables false
set_option linter.unusedSimpArgs false
namespace Go.Proofs.YtfbegbpipmgfiaaDoor.Lift
open Go Go.RowKit

/-- A function that was handed no box hands back a slice of no elements. -/
theorem fin_nil {W0 : World} {st : St} {sz bt : Nat} (hsz : 0 < sz) (hbt : 0 < bt) : Fin W0 0 st (.d .e) [.vec sz bt []] (.sl 0 sz 0 0) := by
  intro E M m a w u hE h hx
  refine ⟨M, fun b' => if b' = 0 then .virt else .no, { h.bare with mNo := ?_, mIn := ?_, inj := ?_, oldv := ?_, oldr := ?_, new := ?_, len := ?_, box := ?_, env := ?_ }, ?_⟩
  · intro b' hb'
    simp only [List.length_cons, List.length_nil] at hb'
    exact if_neg (by omega)
  · intro b' k hk
    split at hk <;> cases hk
  · intro b1 b2 k h1 h2
    split at h1 <;> cases h1
  · intro b' cs hb'
    omega
  · intro b' k hb'
    omega
  · intro b' k _ hk
    split at hk <;> cases hk
  · omega
  · intro b' y hy
    match b', hy with
    | 0, hy =>
      simp only [List.getElem?_cons_zero, Option.some.injEq] at hy
      subst hy
      simp [BoxR, hsz, hbt]
  · exact fun t x hx => (by simp [lk_nil] at hx)
  · simp only [RA] at hx
    cases hx
    simp [RA]
set_option maxHeartbeats 4000000 in
set_option maxRecDepth 100000 in
theorem clone_v {W0 : World} (l : List (V)) : ACalls Tryd.prog W0 100 [.d (.rows 7 96 (l.map vD))] [] (fun r L' => r = .ret (.sl 0 7 0 l.length) ∧ L' = [.vec 7 96 (l.map vD)]) := by
  refine ACalls.known fun hk => ?_
  have hb47 : l.length * 96 ≤ 140737488355328 := by
    have := hk (.d (.rows 7 96 (l.map vD))) (by simp)
    simp only [AB] at this
    cases this with
    | rows _ _ _ h _ => simpa using h
  refine A_body Tryd.func100 rfl (by simp [Tryd.ntmps100]) ?_
  simp only [Tryd.ntmps100, Tryd.results100, mkEnv, List.length_nil]
  repeat (first
      | refine A_seq ?_
      | refine A_block ?_
      | (refine A_region (A_run ?_); simp only [go_sem]; refine A_nil ?_; simp only [Thn, InB])
      | (refine A_condt ?_ ?_; focus (simp only [evo, lk, lk1, lk2, Nat.reduceDiv, Nat.reduceMod]; done))
      | (refine A_condf ?_ ?_; focus (simp only [evo, lk, lk1, lk2, Nat.reduceDiv, Nat.reduceMod]; done))
      | (refine A_skip ?_; simp only [Thn, InB])
      | (refine A_exit ?_; simp only [Thn, InB, reduceIte, Nat.reduceEqDiff])
      | refine A_ret ?_)
  refine A_region (A_run ?_)
  simp only [go_sem]
  refine A_eqnil rfl rfl (by simp only [go_sem]; rfl) rfl (.inr ⟨_, _, _, rfl⟩) rfl ?_
  intro b hb
  refine A_run ?_
  simp only [go_sem]
  refine A_nil ?_
  simp only [Thn, InB]
  refine A_cond rfl (fun h => ?_) (fun h => ?_)
  · have hl : l = [] := by
      cases l with
      | nil => rfl
      | cons x l =>
        have := hb _ _ _ rfl (by simp)
        rw [this] at h
        cases h
    subst hl
    repeat (first
        | refine A_seq ?_
        | refine A_block ?_
        | (refine A_region (A_run ?_); simp only [go_sem]; refine A_nil ?_; simp only [Thn, InB])
        | (refine A_condt ?_ ?_; focus (simp only [evo, lk, lk1, lk2, Nat.reduceDiv, Nat.reduceMod]; done))
        | (refine A_condf ?_ ?_; focus (simp only [evo, lk, lk1, lk2, Nat.reduceDiv, Nat.reduceMod]; done))
        | (refine A_skip ?_; simp only [Thn, InB])
        | (refine A_exit ?_; simp only [Thn, InB, reduceIte, Nat.reduceEqDiff])
        | refine A_ret ?_)
    exact ⟨_, rfl, _, _, fin_nil (by decide) (by decide), rfl, rfl⟩
  · skip
    repeat (first
        | refine A_seq ?_
        | refine A_block ?_
        | (refine A_region (A_run ?_); simp only [go_sem]; refine A_nil ?_; simp only [Thn, InB])
        | (refine A_condt ?_ ?_; focus (simp only [evo, lk, lk1, lk2, Nat.reduceDiv, Nat.reduceMod]; done))
        | (refine A_condf ?_ ?_; focus (simp only [evo, lk, lk1, lk2, Nat.reduceDiv, Nat.reduceMod]; done))
        | (refine A_skip ?_; simp only [Thn, InB])
        | (refine A_exit ?_; simp only [Thn, InB, reduceIte, Nat.reduceEqDiff])
        | refine A_ret ?_)
    refine A_region (A_run ?_)
    simp only [go_sem]
    refine A_nilslice rfl rfl (by simp only [go_sem]; rfl) (by simp only [go_sem]; rfl) rfl ?_
    refine A_run ?_
    simp only [go_sem]
    refine O_sub _ (Sb.opn (t := 5) (sz := 7) (bt := 96) rfl (by decide) (by decide)) ?_
    simp only [go_sem]
    refine A_append (l := []) (l2 := l.map vD) (sz := 7) (bt := 96) (b := 0) (k := 0) rfl rfl (by simp only [go_sem] <;> rfl) (by simp only [go_sem] <;> rfl) (by simp only [go_sem] <;> rfl) (by simp only [go_sem] <;> rfl) ?_ rfl rfl rfl rfl (by simp [apR]) rfl (by simpa using hb47) ?_
    · rfl
    simp only [killE, mapE, killA, killB, List.length_append, List.length_map, go_sem]
    refine A_run ?_
    simp only [go_sem]
    refine A_nil ?_
    simp only [Thn, InB]
    repeat (first
        | refine A_seq ?_
        | refine A_block ?_
        | (refine A_region (A_run ?_); simp only [go_sem]; refine A_nil ?_; simp only [Thn, InB])
        | (refine A_condt ?_ ?_; focus (simp only [evo, lk, lk1, lk2, Nat.reduceDiv, Nat.reduceMod]; done))
        | (refine A_condf ?_ ?_; focus (simp only [evo, lk, lk1, lk2, Nat.reduceDiv, Nat.reduceMod]; done))
        | (refine A_skip ?_; simp only [Thn, InB])
        | (refine A_exit ?_; simp only [Thn, InB, reduceIte, Nat.reduceEqDiff])
        | refine A_ret ?_)
    exact ⟨_, rfl, _, _, fin_own _ rfl rfl, by simp, by simp⟩

set_option maxHeartbeats 4000000 in
set_option maxRecDepth 100000 in
theorem clone_p {W0 : World} (l : List (ByteArray × V)) : ACalls Tryd.prog W0 98 [.d (.rows 8 112 (l.map pD))] [] (fun r L' => r = .ret (.sl 0 8 0 l.length) ∧ L' = [.vec 8 112 (l.map pD)]) := by
  refine ACalls.known fun hk => ?_
  have hb47 : l.length * 112 ≤ 140737488355328 := by
    have := hk (.d (.rows 8 112 (l.map pD))) (by simp)
    simp only [AB] at this
    cases this with
    | rows _ _ _ h _ => simpa using h
  refine A_body Tryd.func98 rfl (by simp [Tryd.ntmps98]) ?_
  simp only [Tryd.ntmps98, Tryd.results98, mkEnv, List.length_nil]
  repeat (first
      | refine A_seq ?_
      | refine A_block ?_
      | (refine A_region (A_run ?_); simp only [go_sem]; refine A_nil ?_; simp only [Thn, InB])
      | (refine A_condt ?_ ?_; focus (simp only [evo, lk, lk1, lk2, Nat.reduceDiv, Nat.reduceMod]; done))
      | (refine A_condf ?_ ?_; focus (simp only [evo, lk, lk1, lk2, Nat.reduceDiv, Nat.reduceMod]; done))
      | (refine A_skip ?_; simp only [Thn, InB])
      | (refine A_exit ?_; simp only [Thn, InB, reduceIte, Nat.reduceEqDiff])
      | refine A_ret ?_)
  refine A_region (A_run ?_)
  simp only [go_sem]
  refine A_eqnil rfl rfl (by simp only [go_sem]; rfl) rfl (.inr ⟨_, _, _, rfl⟩) rfl ?_
  intro b hb
  refine A_run ?_
  simp only [go_sem]
  refine A_nil ?_
  simp only [Thn, InB]
  refine A_cond rfl (fun h => ?_) (fun h => ?_)
  · have hl : l = [] := by
      cases l with
      | nil => rfl
      | cons x l =>
        have := hb _ _ _ rfl (by simp)
        rw [this] at h
        cases h
    subst hl
    repeat (first
        | refine A_seq ?_
        | refine A_block ?_
        | (refine A_region (A_run ?_); simp only [go_sem]; refine A_nil ?_; simp only [Thn, InB])
        | (refine A_condt ?_ ?_; focus (simp only [evo, lk, lk1, lk2, Nat.reduceDiv, Nat.reduceMod]; done))
        | (refine A_condf ?_ ?_; focus (simp only [evo, lk, lk1, lk2, Nat.reduceDiv, Nat.reduceMod]; done))
        | (refine A_skip ?_; simp only [Thn, InB])
        | (refine A_exit ?_; simp only [Thn, InB, reduceIte, Nat.reduceEqDiff])
        | refine A_ret ?_)
    exact ⟨_, rfl, _, _, fin_nil (by decide) (by decide), rfl, rfl⟩
  · skip
    repeat (first
        | refine A_seq ?_
        | refine A_block ?_
        | (refine A_region (A_run ?_); simp only [go_sem]; refine A_nil ?_; simp only [Thn, InB])
        | (refine A_condt ?_ ?_; focus (simp only [evo, lk, lk1, lk2, Nat.reduceDiv, Nat.reduceMod]; done))
        | (refine A_condf ?_ ?_; focus (simp only [evo, lk, lk1, lk2, Nat.reduceDiv, Nat.reduceMod]; done))
        | (refine A_skip ?_; simp only [Thn, InB])
        | (refine A_exit ?_; simp only [Thn, InB, reduceIte, Nat.reduceEqDiff])
        | refine A_ret ?_)
    refine A_region (A_run ?_)
    simp only [go_sem]
    refine A_nilslice rfl rfl (by simp only [go_sem]; rfl) (by simp only [go_sem]; rfl) rfl ?_
    refine A_run ?_
    simp only [go_sem]
    refine O_sub _ (Sb.opn (t := 5) (sz := 8) (bt := 112) rfl (by decide) (by decide)) ?_
    simp only [go_sem]
    refine A_append (l := []) (l2 := l.map pD) (sz := 8) (bt := 112) (b := 0) (k := 0) rfl rfl (by simp only [go_sem] <;> rfl) (by simp only [go_sem] <;> rfl) (by simp only [go_sem] <;> rfl) (by simp only [go_sem] <;> rfl) ?_ rfl rfl rfl rfl (by simp [apR]) rfl (by simpa using hb47) ?_
    · rfl
    simp only [killE, mapE, killA, killB, List.length_append, List.length_map, go_sem]
    refine A_run ?_
    simp only [go_sem]
    refine A_nil ?_
    simp only [Thn, InB]
    repeat (first
        | refine A_seq ?_
        | refine A_block ?_
        | (refine A_region (A_run ?_); simp only [go_sem]; refine A_nil ?_; simp only [Thn, InB])
        | (refine A_condt ?_ ?_; focus (simp only [evo, lk, lk1, lk2, Nat.reduceDiv, Nat.reduceMod]; done))
        | (refine A_condf ?_ ?_; focus (simp only [evo, lk, lk1, lk2, Nat.reduceDiv, Nat.reduceMod]; done))
        | (refine A_skip ?_; simp only [Thn, InB])
        | (refine A_exit ?_; simp only [Thn, InB, reduceIte, Nat.reduceEqDiff])
        | refine A_ret ?_)
    exact ⟨_, rfl, _, _, fin_own _ rfl rfl, by simp, by simp⟩

end Go.Proofs.YtfbegbpipmgfiaaDoor.Lift
end
section
/- The lift: values of one's own memory. No conditions. -/
set_option linter.unusedVariables false
set_option linter.unusedSimpArgs false
namespace Go.Proofs.YtfbegbpipmgfiaaDoor.Lift
open Go Go.RowKit

theorem set_same {α : Type} {l : List α} {i : Nat} {x : α} (h : l[i]? = some x) : l.set i x = l := by
  obtain ⟨h1, rfl⟩ := List.getElem?_eq_some_iff.1 h
  exact List.set_getElem_self h1
set_option maxHeartbeats 4000000 in
set_option maxRecDepth 100000 in
theorem ownPairs_of {W0 : World} (m : List (ByteArray × V)) (ih : ∀ p ∈ m, APure Tryd.prog W0 94 [va p.2] (· = .ret (va p.2))) : ACalls Tryd.prog W0 91 [rP m] [] (fun r L' => r = .ret (.sl 0 8 0 m.length) ∧ L' = [.vec 8 112 (m.map pD)]) := by
  refine ACalls.known fun hk => ?_
  have hb47 := ab_rP (hk (rP m) (by simp))
  refine A_body Tryd.func91 rfl (by simp [Tryd.ntmps91]) ?_
  simp only [Tryd.ntmps91, Tryd.results91, mkEnv, List.length_nil, rP]
  repeat (first
      | refine A_seq ?_
      | refine A_block ?_
      | (refine A_region (A_run ?_); simp only [go_sem]; refine A_nil ?_; simp only [Thn, InB])
      | (refine A_condt ?_ ?_; focus (simp only [evo, lk, lk1, lk2, Nat.reduceDiv, Nat.reduceMod]; done))
      | (refine A_condf ?_ ?_; focus (simp only [evo, lk, lk1, lk2, Nat.reduceDiv, Nat.reduceMod]; done))
      | (refine A_skip ?_; simp only [Thn, InB])
      | (refine A_exit ?_; simp only [Thn, InB, reduceIte, Nat.reduceEqDiff])
      | refine A_ret ?_)
  refine A_region (A_run ?_)
  simp only [go_sem]
  refine A_callB [] (clone_p m) rfl rfl rfl rfl (by simp only [go_sem]) rfl (by simp) rfl (fun i b h => by simp at h) rfl ?_
  rintro r L' ⟨rfl, rfl⟩
  refine ⟨rfl, A_run ?_⟩
  simp only [St.aft, killPE, mapE, killP, killPB, moved, setAll, renB, renA, sg_nil, go_sem]
  refine A_nil ?_
  simp only [Thn, InB]
  repeat (first
      | refine A_seq ?_
      | refine A_block ?_
      | (refine A_region (A_run ?_); simp only [go_sem]; refine A_nil ?_; simp only [Thn, InB])
      | (refine A_condt ?_ ?_; focus (simp only [evo, lk, lk1, lk2, Nat.reduceDiv, Nat.reduceMod]; done))
      | (refine A_condf ?_ ?_; focus (simp only [evo, lk, lk1, lk2, Nat.reduceDiv, Nat.reduceMod]; done))
      | (refine A_skip ?_; simp only [Thn, InB])
      | (refine A_exit ?_; simp only [Thn, InB, reduceIte, Nat.reduceEqDiff])
      | refine A_ret ?_)
  refine A_lp (σ := { i : Nat // i ≤ m.length }) (fun s => ⟨23, ofL [(0, .sl 0 8 0 m.length), (7, .d (.v (.int .i64 m.length))), (8, .d (.v (.int .i64 (s.1 : Nat))))], [.vec 8 112 (m.map pD)]⟩) (fun s => m.length - s.1) ⟨0, Nat.zero_le _⟩ ?_ ?_
  · ((try dsimp only); refine Sb.mk ?_ ?_ ?_ ?_ ?_ ?_; (focus rfl); (focus (repeat (first | exact eSub_nil _ | refine eSub_cons rfl ?_))); (focus exact ⟨_, rfl⟩); (focus (first | exact Nat.zero_le _ | exact Nat.le_refl _)); (focus (first | rfl | simp only [envBelow, List.all_cons, List.all_nil, namesAll, AV.names, names_ds, go_sem])); (focus (first | rfl | simp only [List.all_cons, List.all_nil, boxBelow, namesAll, AV.names, names_ds, go_sem])))
  · rintro ⟨i, hi⟩ R hR
    simp only
    repeat (first
        | refine A_seq ?_
        | refine A_block ?_
        | (refine A_region (A_run ?_); simp only [go_sem]; refine A_nil ?_; simp only [Thn, InB])
        | (refine A_condt ?_ ?_; focus (simp only [evo, lk, lk1, lk2, Nat.reduceDiv, Nat.reduceMod]; done))
        | (refine A_condf ?_ ?_; focus (simp only [evo, lk, lk1, lk2, Nat.reduceDiv, Nat.reduceMod]; done))
        | (refine A_skip ?_; simp only [Thn, InB])
        | (refine A_exit ?_; simp only [Thn, InB, reduceIte, Nat.reduceEqDiff])
        | refine A_ret ?_)
    refine A_cond rfl (fun h => ?_) (fun h => ?_)
    · have hlt : i < m.length := by simpa using h
      have hlt2 : (i : Int) < (m.length : Int) := by omega
      have hx : (m.map pD)[i]? = some (.v (.string m[i].1) :: vD m[i].2) := by rw [List.getElem?_map, List.getElem?_eq_getElem hlt]; rfl
      have tx := take_len (l := (vD m[i].2).map AV.d) (n := 7) (by rw [List.length_map, vD_len])
      have dx := drop_len (l := vD m[i].2) (n := 7) (vD_len _)
      have lx := vD_len m[i].2
      have sx := set_same hx
      have hw := wrap_succ (i := i) (by omega)
      repeat (first
          | refine A_seq ?_
          | refine A_block ?_
          | (refine A_region (A_run ?_); simp only [go_sem, hx, tx, lx, hlt2]; refine A_nil ?_; simp only [Thn, InB])
          | (refine A_condt ?_ ?_; focus (simp only [evo, lk, lk1, lk2, Nat.reduceDiv, Nat.reduceMod]; done))
          | (refine A_condf ?_ ?_; focus (simp only [evo, lk, lk1, lk2, Nat.reduceDiv, Nat.reduceMod]; done))
          | (refine A_skip ?_; simp only [Thn, InB])
          | (refine A_exit ?_; simp only [Thn, InB, reduceIte, Nat.reduceEqDiff])
          | refine A_ret ?_)
      refine A_region (A_run ?_)
      simp only [go_sem, hx, tx, lx, hlt2]
      (refine A_call (ih m[i] (List.getElem_mem hlt)) rfl rfl rfl rfl (by first | assumption | simp only [go_sem]) rfl (by first | rfl | simp only [noNames, namesAll, AV.names, names_ds, go_sem, List.append_nil, List.cons_append, List.nil_append, Bool.and_self]) ?_; rintro r rfl; refine ⟨(by first | rfl | simp only [noName, namesAll, AV.names, names_ds, go_sem, Bool.and_self]), A_run ?_⟩; simp only [go_sem, hx, tx, lx, hlt2, dx, sx])
      refine A_nil ?_
      simp only [Thn, InB]
      repeat (first
          | refine A_seq ?_
          | refine A_block ?_
          | (refine A_region (A_run ?_); simp only [go_sem, hw]; refine A_nil ?_; simp only [Thn, InB])
          | (refine A_condt ?_ ?_; focus (simp only [evo, lk, lk1, lk2, Nat.reduceDiv, Nat.reduceMod]; done))
          | (refine A_condf ?_ ?_; focus (simp only [evo, lk, lk1, lk2, Nat.reduceDiv, Nat.reduceMod]; done))
          | (refine A_skip ?_; simp only [Thn, InB])
          | (refine A_exit ?_; simp only [Thn, InB, reduceIte, Nat.reduceEqDiff])
          | refine A_ret ?_)
      refine hR _ ⟨⟨i + 1, by omega⟩, by simp only; omega, ?_⟩
      ((try dsimp only); refine Sb.mk ?_ ?_ ?_ ?_ ?_ ?_; (focus rfl); (focus (repeat (first | exact eSub_nil _ | refine eSub_cons rfl ?_))); (focus exact ⟨_, rfl⟩); (focus (first | exact Nat.zero_le _ | exact Nat.le_refl _)); (focus (first | rfl | simp only [envBelow, List.all_cons, List.all_nil, namesAll, AV.names, names_ds, go_sem])); (focus (first | rfl | simp only [List.all_cons, List.all_nil, boxBelow, namesAll, AV.names, names_ds, go_sem])))
    · have hge : i = m.length := by simp at h; omega
      subst hge
      repeat (first
          | refine A_seq ?_
          | refine A_block ?_
          | (refine A_region (A_run ?_); simp only [go_sem]; refine A_nil ?_; simp only [Thn, InB])
          | (refine A_condt ?_ ?_; focus (simp only [evo, lk, lk1, lk2, Nat.reduceDiv, Nat.reduceMod]; done))
          | (refine A_condf ?_ ?_; focus (simp only [evo, lk, lk1, lk2, Nat.reduceDiv, Nat.reduceMod]; done))
          | (refine A_skip ?_; simp only [Thn, InB])
          | (refine A_exit ?_; simp only [Thn, InB, reduceIte, Nat.reduceEqDiff])
          | refine A_ret ?_)
      exact ⟨_, rfl, _, _, fin_own _ rfl rfl, rfl, rfl⟩
set_option maxHeartbeats 4000000 in
set_option maxRecDepth 100000 in
theorem own_c {W0 : World} : ∀ x : V, APure Tryd.prog W0 94 [va x] (· = .ret (va x)) := by
  intro x
  refine V.ind (p := fun x => APure Tryd.prog W0 94 [va x] (· = .ret (va x))) ?_ x
  intro k s b n f l m hl hm
  refine APure.known fun hk => ?_
  obtain ⟨hb1, hb2⟩ := ab_va (hk (va (.mk k s b n f l m)) (by simp))
  refine A_body Tryd.func94 rfl (by simp [Tryd.ntmps94]) ?_
  simp only [Tryd.ntmps94, Tryd.results94, mkEnv, List.length_nil, va, vD, vDs_map, pDs_map, List.map_cons, List.map_nil]
  repeat (first
      | refine A_seq ?_
      | refine A_block ?_
      | (refine A_region (A_run ?_); simp only [go_sem]; refine A_nil ?_; simp only [Thn, InB])
      | (refine A_condt ?_ ?_; focus (simp only [evo, lk, lk1, lk2, Nat.reduceDiv, Nat.reduceMod]; done))
      | (refine A_condf ?_ ?_; focus (simp only [evo, lk, lk1, lk2, Nat.reduceDiv, Nat.reduceMod]; done))
      | (refine A_skip ?_; simp only [Thn, InB])
      | (refine A_exit ?_; simp only [Thn, InB, reduceIte, Nat.reduceEqDiff])
      | refine A_ret ?_)
  refine A_region (A_run ?_)
  simp only [go_sem]
  refine A_callB [] (clone_v l) rfl rfl rfl rfl (by simp only [go_sem]) rfl (by simp) rfl (fun i b h => by simp at h) rfl ?_
  rintro r L' ⟨rfl, rfl⟩
  refine ⟨rfl, A_run ?_⟩
  simp only [St.aft, killPE, mapE, killP, killPB, killPL, moved, setAll, renB, renA, sg_nil, go_sem]
  refine A_nil ?_
  simp only [Thn, InB]
  repeat (first
      | refine A_seq ?_
      | refine A_block ?_
      | (refine A_region (A_run ?_); simp only [go_sem]; refine A_nil ?_; simp only [Thn, InB])
      | (refine A_condt ?_ ?_; focus (simp only [evo, lk, lk1, lk2, Nat.reduceDiv, Nat.reduceMod]; done))
      | (refine A_condf ?_ ?_; focus (simp only [evo, lk, lk1, lk2, Nat.reduceDiv, Nat.reduceMod]; done))
      | (refine A_skip ?_; simp only [Thn, InB])
      | (refine A_exit ?_; simp only [Thn, InB, reduceIte, Nat.reduceEqDiff])
      | refine A_ret ?_)
  refine A_lp (σ := { i : Nat // i ≤ l.length }) (fun j => ⟨30, ofL [(1, .ptr 0 0), (2, .ptr 1 0), (10, .d (.v (.int .i64 l.length))), (11, .d (.v (.int .i64 (j.1 : Nat))))], [.var [.d (.v (.int .u8 k)), .d (.v (.string s)), .d (.v (.bool b)), .d (.v (.int .i64 n)), .d (.v (.float .f64 f)), .sl 2 7 0 l.length, .d (.rows 8 112 (m.map pD))], .var [.d (.v (.int .u8 0)), .d (.v (.string ByteArray.empty)), .d (.v (.bool false)), .d (.v (.int .i64 0)), .d (.v (.float .f64 0)), .d .e, .d .e], .vec 7 96 (l.map vD)]⟩) (fun j => l.length - j.1) ⟨0, Nat.zero_le _⟩ ?_ ?_
  · ((try dsimp only); refine Sb.mk ?_ ?_ ?_ ?_ ?_ ?_; (focus rfl); (focus (repeat (first | exact eSub_nil _ | refine eSub_cons rfl ?_))); (focus exact ⟨_, rfl⟩); (focus (first | exact Nat.zero_le _ | exact Nat.le_refl _)); (focus (first | rfl | simp only [envBelow, List.all_cons, List.all_nil, namesAll, AV.names, names_ds, go_sem])); (focus (first | rfl | simp only [List.all_cons, List.all_nil, boxBelow, namesAll, AV.names, names_ds, go_sem])))
  · rintro ⟨i, hi⟩ R hR
    simp only
    repeat (first
        | refine A_seq ?_
        | refine A_block ?_
        | (refine A_region (A_run ?_); simp only [go_sem]; refine A_nil ?_; simp only [Thn, InB])
        | (refine A_condt ?_ ?_; focus (simp only [evo, lk, lk1, lk2, Nat.reduceDiv, Nat.reduceMod]; done))
        | (refine A_condf ?_ ?_; focus (simp only [evo, lk, lk1, lk2, Nat.reduceDiv, Nat.reduceMod]; done))
        | (refine A_skip ?_; simp only [Thn, InB])
        | (refine A_exit ?_; simp only [Thn, InB, reduceIte, Nat.reduceEqDiff])
        | refine A_ret ?_)
    refine A_cond rfl (fun h => ?_) (fun h => ?_)
    · have hlt : i < l.length := by simpa using h
      have hlt2 : (i : Int) < (l.length : Int) := by omega
      have hx : (l.map vD)[i]? = some (vD l[i]) := by rw [List.getElem?_map, List.getElem?_eq_getElem hlt]; rfl
      have tx := take_len (l := (vD l[i]).map AV.d) (n := 7) (by rw [List.length_map, vD_len])
      have dx := drop_len (l := vD l[i]) (n := 7) (vD_len _)
      have lx := vD_len l[i]
      have sx := set_same hx
      have hw := wrap_succ (i := i) (by omega)
      repeat (first
          | refine A_seq ?_
          | refine A_block ?_
          | (refine A_region (A_run ?_); simp only [go_sem]; refine A_nil ?_; simp only [Thn, InB])
          | (refine A_condt ?_ ?_; focus (simp only [evo, lk, lk1, lk2, Nat.reduceDiv, Nat.reduceMod]; done))
          | (refine A_condf ?_ ?_; focus (simp only [evo, lk, lk1, lk2, Nat.reduceDiv, Nat.reduceMod]; done))
          | (refine A_skip ?_; simp only [Thn, InB])
          | (refine A_exit ?_; simp only [Thn, InB, reduceIte, Nat.reduceEqDiff])
          | refine A_ret ?_)
      (repeat (first | refine A_seq ?_ | refine A_block ?_))
      refine A_drawn (gs := [none, none, none, none, none, none, none, none, none, none]) 10 [] mixedO (by simp only [List.take_succ_cons, List.take_zero] <;> rfl) (by kernel_rfl) (by kernel_rfl) rfl (by decide) (aqg_run ?_)
      simp only [runG, go_sem, hx, tx, lx, hlt2]
      (try (refine aqg_nil ?_))
      (refine aqg_call (caps := []) (hl l[i] (List.getElem_mem hlt)) rfl rfl rfl (by first | assumption | simp only [go_sem]) (by first | rfl | simp only [noNames, namesAll, AV.names, names_ds, go_sem, List.append_nil, List.cons_append, List.nil_append, Bool.and_self]) (by first | rfl | simp only [noName, namesAll, AV.names, names_ds, go_sem, Bool.and_self]) ?_)
      refine aqg_run ?_
      simp only [runG, stepG_n, stepG_s, opW, bsD, opV, mkOp, resE_ap, resA, go_sem, hx, tx, lx, hlt2]
      refine aqg_nil ?_
      refine T_one 10 _ (by kernel_rfl) (by simp only [List.getElem?_toArray, List.getElem?_cons_succ, List.getElem?_cons_zero] <;> rfl) (by rfl) (by rfl) (A_run ?_)
      simp only [go_sem, hx, tx, lx, hlt2, dx, sx]
      refine A_nil ?_
      try simp only [TQ, true_and]
      refine T_nil (by kernel_rfl) ?_
      simp only [Thn, InB]
      repeat (first
          | refine A_seq ?_
          | refine A_block ?_
          | (refine A_region (A_run ?_); simp only [go_sem, hw]; refine A_nil ?_; simp only [Thn, InB])
          | (refine A_condt ?_ ?_; focus (simp only [evo, lk, lk1, lk2, Nat.reduceDiv, Nat.reduceMod]; done))
          | (refine A_condf ?_ ?_; focus (simp only [evo, lk, lk1, lk2, Nat.reduceDiv, Nat.reduceMod]; done))
          | (refine A_skip ?_; simp only [Thn, InB])
          | (refine A_exit ?_; simp only [Thn, InB, reduceIte, Nat.reduceEqDiff])
          | refine A_ret ?_)
      refine hR _ ⟨⟨i + 1, by omega⟩, by simp only; omega, ?_⟩
      ((try dsimp only); refine Sb.mk ?_ ?_ ?_ ?_ ?_ ?_; (focus rfl); (focus (repeat (first | exact eSub_nil _ | refine eSub_cons rfl ?_))); (focus exact ⟨_, rfl⟩); (focus (first | exact Nat.zero_le _ | exact Nat.le_refl _)); (focus (first | rfl | simp only [envBelow, List.all_cons, List.all_nil, namesAll, AV.names, names_ds, go_sem])); (focus (first | rfl | simp only [List.all_cons, List.all_nil, boxBelow, namesAll, AV.names, names_ds, go_sem])))
    · have hge : i = l.length := by simp at h; omega
      subst hge
      repeat (first
          | refine A_seq ?_
          | refine A_block ?_
          | (refine A_region (A_run ?_); simp only [go_sem]; refine A_nil ?_; simp only [Thn, InB])
          | (refine A_condt ?_ ?_; focus (simp only [evo, lk, lk1, lk2, Nat.reduceDiv, Nat.reduceMod]; done))
          | (refine A_condf ?_ ?_; focus (simp only [evo, lk, lk1, lk2, Nat.reduceDiv, Nat.reduceMod]; done))
          | (refine A_skip ?_; simp only [Thn, InB])
          | (refine A_exit ?_; simp only [Thn, InB, reduceIte, Nat.reduceEqDiff])
          | refine A_ret ?_)
      refine A_sub _ (Sb.freeze 2 rfl (Nat.zero_le _)) ?_
      simp only [fzE, mapE, fzA, fzL, fzB, go_sem, take_len (l := l.map vD) (n := l.length) (List.length_map ..)]
      refine A_region (A_run ?_)
      simp only [go_sem]
      refine A_callB [] (ownPairs_of m hm) rfl rfl rfl rfl (by simp only [go_sem]) rfl (by simp) rfl (fun i b h => by simp at h) rfl ?_
      rintro r L' ⟨rfl, rfl⟩
      refine ⟨rfl, ?_⟩
      simp only [St.aft, killPE, mapE, killP, killPB, killPL, moved, setAll, renB, renA, sg_nil, go_sem]
      refine O_sub _ (Sb.freeze 3 rfl (Nat.zero_le _)) (A_run ?_)
      simp only [fzE, mapE, fzA, fzL, fzB, go_sem, take_len (l := m.map pD) (n := m.length) (List.length_map ..)]
      refine A_nil ?_
      simp only [Thn, InB]
      repeat (first
          | refine A_seq ?_
          | refine A_block ?_
          | (refine A_region (A_run ?_); simp only [go_sem]; refine A_nil ?_; simp only [Thn, InB])
          | (refine A_condt ?_ ?_; focus (simp only [evo, lk, lk1, lk2, Nat.reduceDiv, Nat.reduceMod]; done))
          | (refine A_condf ?_ ?_; focus (simp only [evo, lk, lk1, lk2, Nat.reduceDiv, Nat.reduceMod]; done))
          | (refine A_skip ?_; simp only [Thn, InB])
          | (refine A_exit ?_; simp only [Thn, InB, reduceIte, Nat.reduceEqDiff])
          | refine A_ret ?_)
      exact ⟨_, rfl, _, _, fin_pure rfl (Le.refl _), rfl, rfl⟩
end Go.Proofs.YtfbegbpipmgfiaaDoor.Lift
end
section
/- The lift: Get, Put of attributes. No conditions. -/
set_option linter.unusedVariables false
set_option linter.unusedSimpArgs false
namespace Go.Proofs.YtfbegbpipmgfiaaDoor.Lift
open Go Go.RowKit

/-- The first place of an element that is so. -/
def fI {α : Type} (p : α → Bool) : List α → Option Nat
  | [] => none
  | x :: l => if p x = true then some 0 else (fI p l).map (· + 1)
theorem fI_hit {α : Type} {p : α → Bool} : ∀ {l : List α} {i : Nat} {x : α}, (l.take i).any p = false → l[i]? = some x → p x = true → fI p l = some i
  | [], i, x, _, h, _ => by simp at h
  | y :: l, 0, x, _, h, hp => by
    simp only [List.getElem?_cons_zero, Option.some.injEq] at h
    subst h
    simp [fI, hp]
  | y :: l, i + 1, x, h0, h, hp => by
    simp only [List.take_succ_cons, List.any_cons, Bool.or_eq_false_iff] at h0
    simp only [fI, h0.1, Bool.false_eq_true, if_false]
    rw [fI_hit h0.2 (by simpa using h) hp]
    rfl
theorem fI_none {α : Type} {p : α → Bool} : ∀ {l : List α}, l.any p = false → fI p l = none
  | [], _ => rfl
  | y :: l, h => by
    simp only [List.any_cons, Bool.or_eq_false_iff] at h
    simp only [fI, h.1, Bool.false_eq_true, if_false, fI_none h.2, Option.map_none]
theorem fI_some {α : Type} {p : α → Bool} : ∀ {l : List α} {i : Nat}, fI p l = some i → ∃ x, l[i]? = some x ∧ p x = true
  | [], i, h => by simp [fI] at h
  | y :: l, i, h => by
    simp only [fI] at h
    split at h
    · rename_i hp
      cases h
      exact ⟨y, rfl, hp⟩
    · simp only [Option.map_eq_some_iff] at h
      obtain ⟨j, hj, rfl⟩ := h
      obtain ⟨x, h1, h2⟩ := fI_some hj
      exact ⟨x, by simpa using h1, h2⟩
def fN (o : Option Nat) : Int := match o with | some i => (i : Int) | none => -1
def isK (key : ByteArray) (p : ByteArray × V) : Bool := p.1.toList == key.toList
def kf (key : ByteArray) : AV := .fn 99 [.dp [.v (.string key)]]

set_option maxHeartbeats 4000000 in
set_option maxRecDepth 100000 in
theorem named_c {W0 : World} (key : ByteArray) : APure Tryd.prog W0 92 [.d (.v (.string key))] (· = .ret (kf key)) := by
  refine A_body Tryd.func92 rfl (by simp [Tryd.ntmps92]) ?_
  simp only [Tryd.ntmps92, Tryd.results92, mkEnv, List.length_nil]
  refine A_seq (A_region (A_run ?_))
  simp only [go_sem]
  refine A_nil ?_
  simp only [Thn, InB]
  refine A_sub _ (Sb.freezeV 0 rfl rfl (Nat.zero_le _)) ?_
  simp only [fvE, mapE, fvA, fvL, fvB, go_sem]
  repeat (first
      | refine A_seq ?_
      | refine A_block ?_
      | (refine A_region (A_run ?_); simp only [go_sem]; refine A_nil ?_; simp only [Thn, InB])
      | (refine A_condt ?_ ?_; focus (simp only [evo, lk, lk1, lk2, Nat.reduceDiv, Nat.reduceMod]; done))
      | (refine A_condf ?_ ?_; focus (simp only [evo, lk, lk1, lk2, Nat.reduceDiv, Nat.reduceMod]; done))
      | (refine A_skip ?_; simp only [Thn, InB])
      | (refine A_exit ?_; simp only [Thn, InB, reduceIte, Nat.reduceEqDiff])
      | refine A_ret ?_)
  exact ⟨_, rfl, _, _, fin_pure rfl (Le.refl _), rfl, rfl⟩
set_option maxHeartbeats 4000000 in
set_option maxRecDepth 100000 in
theorem isK_c {W0 : World} (key : ByteArray) (p : ByteArray × V) : APure Tryd.prog W0 99 [pa p, .dp [.v (.string key)]] (· = .ret (.d (.v (.bool (isK key p))))) := by
  refine A_body Tryd.func99 rfl (by simp [Tryd.ntmps99]) ?_
  simp only [Tryd.ntmps99, Tryd.results99, mkEnv, List.length_nil, pa, pD, List.map_cons]
  have tx := take_len (l := (vD p.2).map AV.d) (n := 7) (by rw [List.length_map, vD_len])
  have lx := vD_len p.2
  repeat (first
      | refine A_seq ?_
      | refine A_block ?_
      | (refine A_region (A_run ?_); simp only [go_sem, tx, lx]; refine A_nil ?_; simp only [Thn, InB])
      | (refine A_condt ?_ ?_; focus (simp only [evo, lk, lk1, lk2, Nat.reduceDiv, Nat.reduceMod]; done))
      | (refine A_condf ?_ ?_; focus (simp only [evo, lk, lk1, lk2, Nat.reduceDiv, Nat.reduceMod]; done))
      | (refine A_skip ?_; simp only [Thn, InB])
      | (refine A_exit ?_; simp only [Thn, InB, reduceIte, Nat.reduceEqDiff])
      | refine A_ret ?_)
  exact ⟨_, rfl, _, _, fin_pure rfl (Le.refl _), rfl, rfl⟩
set_option maxHeartbeats 4000000 in
set_option maxRecDepth 100000 in
theorem ixf_c {W0 : World} (key : ByteArray) (m : List (ByteArray × V)) : APure Tryd.prog W0 93 [rP m, kf key] (· = .ret (.d (.v (.int .i64 (fN (fI (isK key) m)))))) := by
  refine APure.known fun hk => ?_
  have hb47 := ab_rP (hk (rP m) (by simp))
  refine A_body Tryd.func93 rfl (by simp [Tryd.ntmps93]) ?_
  simp only [Tryd.ntmps93, Tryd.results93, mkEnv, List.length_nil, rP, kf]
  repeat (first
      | refine A_seq ?_
      | refine A_block ?_
      | (refine A_region (A_run ?_); simp only [go_sem]; refine A_nil ?_; simp only [Thn, InB])
      | (refine A_condt ?_ ?_; focus (simp only [evo, lk, lk1, lk2, Nat.reduceDiv, Nat.reduceMod]; done))
      | (refine A_condf ?_ ?_; focus (simp only [evo, lk, lk1, lk2, Nat.reduceDiv, Nat.reduceMod]; done))
      | (refine A_skip ?_; simp only [Thn, InB])
      | (refine A_exit ?_; simp only [Thn, InB, reduceIte, Nat.reduceEqDiff])
      | refine A_ret ?_)
  refine A_lp (σ := { i : Nat // i ≤ m.length ∧ (m.take i).any (isK key) = false }) (fun s => ⟨19, ofL [(0, .d (.rows 8 112 (m.map pD))), (1, .fn 99 [.dp [.v (.string key)]]), (7, .d (.v (.int .i64 m.length))), (8, .d (.v (.int .i64 (s.1 : Nat))))], []⟩) (fun s => m.length - s.1) ⟨0, Nat.zero_le _, rfl⟩ ?_ ?_
  · ((try dsimp only); refine Sb.mk ?_ ?_ ?_ ?_ ?_ ?_; (focus rfl); (focus (repeat (first | exact eSub_nil _ | refine eSub_cons rfl ?_))); (focus exact ⟨_, rfl⟩); (focus (first | exact Nat.zero_le _ | exact Nat.le_refl _)); (focus (first | rfl | simp only [envBelow, List.all_cons, List.all_nil, namesAll, AV.names, names_ds, go_sem])); (focus (first | rfl | simp only [List.all_cons, List.all_nil, boxBelow, namesAll, AV.names, names_ds, go_sem])))
  · rintro ⟨i, hi, hpre⟩ R hR
    simp only
    repeat (first
        | refine A_seq ?_
        | refine A_block ?_
        | (refine A_region (A_run ?_); simp only [go_sem]; refine A_nil ?_; simp only [Thn, InB])
        | (refine A_condt ?_ ?_; focus (simp only [evo, lk, lk1, lk2, Nat.reduceDiv, Nat.reduceMod]; done))
        | (refine A_condf ?_ ?_; focus (simp only [evo, lk, lk1, lk2, Nat.reduceDiv, Nat.reduceMod]; done))
        | (refine A_skip ?_; simp only [Thn, InB])
        | (refine A_exit ?_; simp only [Thn, InB, reduceIte, Nat.reduceEqDiff])
        | refine A_ret ?_)
    refine A_cond rfl (fun h => ?_) (fun h => ?_)
    · have hlt : i < m.length := by simpa using h
      have hx : (m.map pD)[i]? = some (.v (.string m[i].1) :: vD m[i].2) := by rw [List.getElem?_map, List.getElem?_eq_getElem hlt]; rfl
      have tx := take_len (l := (vD m[i].2).map AV.d) (n := 7) (by rw [List.length_map, vD_len])
      have lx := vD_len m[i].2
      have hw := wrap_succ (i := i) (by omega)
      repeat (first
          | refine A_seq ?_
          | refine A_block ?_
          | (refine A_region (A_run ?_); simp only [go_sem, hx, tx, lx]; refine A_nil ?_; simp only [Thn, InB])
          | (refine A_condt ?_ ?_; focus (simp only [evo, lk, lk1, lk2, Nat.reduceDiv, Nat.reduceMod]; done))
          | (refine A_condf ?_ ?_; focus (simp only [evo, lk, lk1, lk2, Nat.reduceDiv, Nat.reduceMod]; done))
          | (refine A_skip ?_; simp only [Thn, InB])
          | (refine A_exit ?_; simp only [Thn, InB, reduceIte, Nat.reduceEqDiff])
          | refine A_ret ?_)
      refine A_region (A_run ?_)
      simp only [go_sem, hx, tx, lx]
      (refine A_call (isK_c key m[i]) rfl rfl rfl rfl (by first | assumption | simp only [go_sem]) rfl (by first | rfl | simp only [noNames, namesAll, AV.names, names_ds, go_sem, List.append_nil, List.cons_append, List.nil_append, Bool.and_self]) ?_; rintro r rfl; refine ⟨(by first | rfl | simp only [noName, namesAll, AV.names, names_ds, go_sem, Bool.and_self]), A_run ?_⟩; simp only [go_sem])
      refine A_nil ?_
      simp only [Thn, InB]
      refine A_cond rfl (fun h => ?_) (fun h => ?_)
      · have hp : isK key m[i] = true := h
        repeat (first
            | refine A_seq ?_
            | refine A_block ?_
            | (refine A_region (A_run ?_); simp only [go_sem]; refine A_nil ?_; simp only [Thn, InB])
            | (refine A_condt ?_ ?_; focus (simp only [evo, lk, lk1, lk2, Nat.reduceDiv, Nat.reduceMod]; done))
            | (refine A_condf ?_ ?_; focus (simp only [evo, lk, lk1, lk2, Nat.reduceDiv, Nat.reduceMod]; done))
            | (refine A_skip ?_; simp only [Thn, InB])
            | (refine A_exit ?_; simp only [Thn, InB, reduceIte, Nat.reduceEqDiff])
            | refine A_ret ?_)
        exact ⟨_, rfl, _, _, fin_pure rfl (Le.refl _), by rw [fI_hit hpre (List.getElem?_eq_getElem hlt) hp]; rfl, rfl⟩
      · have hp : isK key m[i] = false := h
        repeat (first
            | refine A_seq ?_
            | refine A_block ?_
            | (refine A_region (A_run ?_); simp only [go_sem, hw]; refine A_nil ?_; simp only [Thn, InB])
            | (refine A_condt ?_ ?_; focus (simp only [evo, lk, lk1, lk2, Nat.reduceDiv, Nat.reduceMod]; done))
            | (refine A_condf ?_ ?_; focus (simp only [evo, lk, lk1, lk2, Nat.reduceDiv, Nat.reduceMod]; done))
            | (refine A_skip ?_; simp only [Thn, InB])
            | (refine A_exit ?_; simp only [Thn, InB, reduceIte, Nat.reduceEqDiff])
            | refine A_ret ?_)
        refine hR _ ⟨⟨i + 1, by omega, ?_⟩, by simp only; omega, ?_⟩
        · show (m.take (i + 1)).any (isK key) = false
          rw [List.take_add_one, List.getElem?_eq_getElem hlt, List.any_append, hpre]
          simp only [Option.toList_some, List.any_cons, List.any_nil, hp, Bool.or_false]
        ((try dsimp only); refine Sb.mk ?_ ?_ ?_ ?_ ?_ ?_; (focus rfl); (focus (repeat (first | exact eSub_nil _ | refine eSub_cons rfl ?_))); (focus exact ⟨_, rfl⟩); (focus (first | exact Nat.zero_le _ | exact Nat.le_refl _)); (focus (first | rfl | simp only [envBelow, List.all_cons, List.all_nil, namesAll, AV.names, names_ds, go_sem])); (focus (first | rfl | simp only [List.all_cons, List.all_nil, boxBelow, namesAll, AV.names, names_ds, go_sem])))
    · have hge : i = m.length := by simp at h; omega
      subst hge
      repeat (first
          | refine A_seq ?_
          | refine A_block ?_
          | (refine A_region (A_run ?_); simp only [go_sem]; refine A_nil ?_; simp only [Thn, InB])
          | (refine A_condt ?_ ?_; focus (simp only [evo, lk, lk1, lk2, Nat.reduceDiv, Nat.reduceMod]; done))
          | (refine A_condf ?_ ?_; focus (simp only [evo, lk, lk1, lk2, Nat.reduceDiv, Nat.reduceMod]; done))
          | (refine A_skip ?_; simp only [Thn, InB])
          | (refine A_exit ?_; simp only [Thn, InB, reduceIte, Nat.reduceEqDiff])
          | refine A_ret ?_)
      exact ⟨_, rfl, _, _, fin_pure rfl (Le.refl _), by rw [fI_none (by simpa using hpre)]; rfl, rfl⟩
end Go.Proofs.YtfbegbpipmgfiaaDoor.Lift
end
section
/- The lift: Get, Put. No conditions but the room that one pair more takes. -/
set_option linter.unusedVariables false
set_option linter.unusedSimpArgs false
namespace Go.Proofs.YtfbegbpipmgfiaaDoor.Lift
open Go Go.RowKit

def V0 : V := .mk 0 ByteArray.empty false 0 0 [] []
/-- What a key has. -/
def getV (key : ByteArray) (m : List (ByteArray × V)) : V × Bool := match (fI (isK key) m).bind (m[·]?) with | some p => (p.2, true) | none => (V0, false)
theorem va0_le : Le (.agg [.d (.v (.int .u8 0)), .d (.v (.string ByteArray.empty)), .d (.v (.bool false)), .d (.v (.int .i64 0)), .d (.v (.float .f64 0)), .d .e, .d .e]) (va V0) := by
  simp only [va, V0, vD, vDs, pDs, List.map_cons, List.map_nil]
  intro M m w u h
  simp only [RA, RAs] at h ⊢
  obtain ⟨us, rfl, h⟩ := h
  refine ⟨us, rfl, ?_⟩
  match hu : us.toList, h with
  | [u0, u1, u2, u3, u4, u5, u6], h =>
    simp only [RAs] at h ⊢
    simp only [RA] at h ⊢
    exact ⟨h.1, h.2.1, h.2.2.1, h.2.2.2.1, h.2.2.2.2.1, h.2.2.2.2.2.1.nil 7 96 (by decide), h.2.2.2.2.2.2.1.nil 8 112 (by decide), trivial⟩

set_option maxHeartbeats 4000000 in
set_option maxRecDepth 100000 in
theorem get_c {W0 : World} (key : ByteArray) (m : List (ByteArray × V)) : APure Tryd.prog W0 79 [rP m, .d (.v (.string key))] (· = .ret (.tup [va (getV key m).1, .d (.v (.bool (getV key m).2))])) := by
  have hix := ixf_c (W0 := W0) key m
  refine A_body Tryd.func79 rfl (by simp [Tryd.ntmps79]) ?_
  simp only [Tryd.ntmps79, Tryd.results79, mkEnv, List.length_nil, rP]
  repeat (first
      | refine A_seq ?_
      | refine A_block ?_
      | (refine A_region (A_run ?_); simp only [go_sem]; refine A_nil ?_; simp only [Thn, InB])
      | (refine A_condt ?_ ?_; focus (simp only [evo, lk, lk1, lk2, Nat.reduceDiv, Nat.reduceMod]; done))
      | (refine A_condf ?_ ?_; focus (simp only [evo, lk, lk1, lk2, Nat.reduceDiv, Nat.reduceMod]; done))
      | (refine A_skip ?_; simp only [Thn, InB])
      | (refine A_exit ?_; simp only [Thn, InB, reduceIte, Nat.reduceEqDiff])
      | refine A_ret ?_)
  refine A_region (A_run ?_)
  simp only [go_sem]
  (refine A_call (named_c key) rfl rfl rfl rfl (by first | assumption | simp only [go_sem]) rfl (by first | rfl | simp only [noNames, namesAll, AV.names, names_ds, go_sem, List.append_nil, List.cons_append, List.nil_append, Bool.and_self]) ?_; rintro r rfl; refine ⟨(by first | rfl | simp only [noName, namesAll, AV.names, names_ds, go_sem, Bool.and_self]), A_run ?_⟩; simp only [go_sem, kf])
  simp only [kf, rP] at hix
  cases ho : fI (isK key) m with
  | none =>
    rw [ho] at hix
    simp only [fN] at hix
    (refine A_call (hix) rfl rfl rfl rfl (by first | assumption | simp only [go_sem]) rfl (by first | rfl | simp only [noNames, namesAll, AV.names, names_ds, go_sem, List.append_nil, List.cons_append, List.nil_append, Bool.and_self]) ?_; rintro r rfl; refine ⟨(by first | rfl | simp only [noName, namesAll, AV.names, names_ds, go_sem, Bool.and_self]), A_run ?_⟩; simp only [go_sem])
    refine A_nil ?_
    simp only [Thn, InB]
    repeat (first
        | refine A_seq ?_
        | refine A_block ?_
        | (refine A_region (A_run ?_); simp only [go_sem]; refine A_nil ?_; simp only [Thn, InB])
        | (refine A_condt ?_ ?_; focus (simp only [evo, lk, lk1, lk2, Nat.reduceDiv, Nat.reduceMod]; done))
        | (refine A_condf ?_ ?_; focus (simp only [evo, lk, lk1, lk2, Nat.reduceDiv, Nat.reduceMod]; done))
        | (refine A_skip ?_; simp only [Thn, InB])
        | (refine A_exit ?_; simp only [Thn, InB, reduceIte, Nat.reduceEqDiff])
        | refine A_ret ?_)
    refine ⟨_, rfl, _, _, fin_pure (x' := .tup [va V0, .d (.v (.bool false))]) rfl ?_, ?_, rfl⟩
    · intro M m w u h
      simp only [RA, RAs] at h ⊢
      obtain ⟨us, rfl, h⟩ := h
      refine ⟨us, rfl, ?_⟩
      match hu : us.toList, h with
      | [u0, u1], h =>
        simp only [RAs] at h ⊢
        exact ⟨va0_le _ _ _ _ h.1, h.2.1, trivial⟩
    · simp only [getV, ho, Option.bind_none]
      rfl
  | some i =>
    rw [ho] at hix
    simp only [fN] at hix
    obtain ⟨p, hp, hkp⟩ := fI_some ho
    have hx : (m.map pD)[i]? = some (.v (.string p.1) :: vD p.2) := by rw [List.getElem?_map, hp]; rfl
    have tx := take_len (l := (vD p.2).map AV.d) (n := 7) (by rw [List.length_map, vD_len])
    have lx := vD_len p.2
    have h0 : ((i : Int) < 0) = False := eq_false (by omega)
    (refine A_call (hix) rfl rfl rfl rfl (by first | assumption | simp only [go_sem]) rfl (by first | rfl | simp only [noNames, namesAll, AV.names, names_ds, go_sem, List.append_nil, List.cons_append, List.nil_append, Bool.and_self]) ?_; rintro r rfl; refine ⟨(by first | rfl | simp only [noName, namesAll, AV.names, names_ds, go_sem, Bool.and_self]), A_run ?_⟩; simp only [go_sem])
    refine A_nil ?_
    simp only [Thn, InB]
    repeat (first
        | refine A_seq ?_
        | refine A_block ?_
        | (refine A_region (A_run ?_); simp only [go_sem, h0]; refine A_nil ?_; simp only [Thn, InB])
        | (refine A_condt ?_ ?_; focus (simp only [evo, lk, lk1, lk2, Nat.reduceDiv, Nat.reduceMod]; done))
        | (refine A_condf ?_ ?_; focus (simp only [evo, lk, lk1, lk2, Nat.reduceDiv, Nat.reduceMod]; done))
        | (refine A_skip ?_; simp only [Thn, InB])
        | (refine A_exit ?_; simp only [Thn, InB, reduceIte, Nat.reduceEqDiff])
        | refine A_ret ?_)
    refine A_region (A_run ?_)
    simp only [go_sem, hx, tx, lx]
    (refine A_call (own_c p.2) rfl rfl rfl rfl (by first | assumption | simp only [go_sem]) rfl (by first | rfl | simp only [noNames, namesAll, AV.names, names_ds, go_sem, List.append_nil, List.cons_append, List.nil_append, Bool.and_self]) ?_; rintro r rfl; refine ⟨(by first | rfl | simp only [noName, namesAll, AV.names, names_ds, go_sem, Bool.and_self]), A_run ?_⟩; simp only [go_sem, tx, lx, over])
    refine A_nil ?_
    simp only [Thn, InB]
    repeat (first
        | refine A_seq ?_
        | refine A_block ?_
        | (refine A_region (A_run ?_); simp only [go_sem]; refine A_nil ?_; simp only [Thn, InB])
        | (refine A_condt ?_ ?_; focus (simp only [evo, lk, lk1, lk2, Nat.reduceDiv, Nat.reduceMod]; done))
        | (refine A_condf ?_ ?_; focus (simp only [evo, lk, lk1, lk2, Nat.reduceDiv, Nat.reduceMod]; done))
        | (refine A_skip ?_; simp only [Thn, InB])
        | (refine A_exit ?_; simp only [Thn, InB, reduceIte, Nat.reduceEqDiff])
        | refine A_ret ?_)
    have hg : getV key m = (p.2, true) := by simp only [getV, ho, Option.bind_some, hp]
    rw [hg]
    refine ⟨_, ?_, _, _, fin_pure (x' := .tup [va p.2, .d (.v (.bool true))]) ?_ (Le.refl _), rfl, rfl⟩
    · simp only [resV, rvs, rv1, tx, lx, go_sem]
    · simp only [noName, namesAll, AV.names, names_ds, go_sem, Bool.and_self]

end Go.Proofs.YtfbegbpipmgfiaaDoor.Lift
end
section
/- The lift: the reference's Same holds of a value and itself. No conditions. -/
set_option linter.unusedVariables false
set_option linter.unusedSimpArgs false
namespace Go.Proofs.YtfbegbpipmgfiaaDoor.Lift
open Go Go.RowKit

end Go.Proofs.YtfbegbpipmgfiaaDoor.Lift
end
section
/- The lift: DeleteFunc, Drop. No conditions. -/
set_option linter.unusedVariables false
set_option linter.unusedSimpArgs false
namespace Go.Proofs.YtfbegbpipmgfiaaDoor.Lift
open Go Go.RowKit

def dropV (key : ByteArray) (m : List (ByteArray × V)) : List (ByteArray × V) := m.filter fun p => !isK key p
theorem drop_none {key : ByteArray} : ∀ {m : List (ByteArray × V)}, fI (isK key) m = none → dropV key m = m
  | [], _ => rfl
  | p :: m, h => by
    simp only [fI] at h
    split at h
    · cases h
    · rename_i hp
      simp only [Option.map_eq_none_iff] at h
      have hp' : isK key p = false := by simpa using hp
      have := drop_none h
      unfold dropV at this ⊢
      rw [List.filter_cons, hp', this]
      rfl
theorem drop_hit {key : ByteArray} : ∀ {m : List (ByteArray × V)} {i : Nat}, fI (isK key) m = some i → dropV key (m.take (i + 1)) = m.take i
  | [], _, h => by simp [fI] at h
  | p :: m, i, h => by
    simp only [fI] at h
    split at h
    · rename_i hp
      cases h
      simp [dropV, hp]
    · rename_i hp
      simp only [Option.map_eq_some_iff] at h
      obtain ⟨j, hj, rfl⟩ := h
      have hp' : isK key p = false := by simpa using hp
      have := drop_hit hj
      unfold dropV at this ⊢
      rw [List.take_succ_cons, List.filter_cons, hp', this]
      rfl
/-- Where DeleteFunc stands: i are kept, j are seen, r is the row. -/
structure DelAt (key : ByteArray) (m : List (ByteArray × V)) where
  i : Nat
  j : Nat
  r : List (List D)
  hij : i < j
  hj : j ≤ m.length
  hr : r.length = m.length
  kept : r.take i = (dropV key (m.take j)).map pD
  rest : ∀ q, j ≤ q → r[q]? = (m.map pD)[q]?
  len8 : ∀ row ∈ r, row.length = 8
theorem drop_snoc {key : ByteArray} {m : List (ByteArray × V)} {j : Nat} (h : j < m.length) : dropV key (m.take (j + 1)) = dropV key (m.take j) ++ (if isK key m[j] = true then [] else [m[j]]) := by
  unfold dropV
  rw [List.take_add_one, List.getElem?_eq_getElem h, List.filter_append, Option.toList_some]
  cases hk : isK key m[j] <;> simp [hk]
def DelAt.start {key : ByteArray} {m : List (ByteArray × V)} {i : Nat} (ho : fI (isK key) m = some i) (hi : i < m.length) : DelAt key m :=
  ⟨i, i + 1, m.map pD, by omega, by omega, by simp, by rw [drop_hit ho, List.map_take], fun _ _ => rfl, fun row hr => by
    obtain ⟨p, _, rfl⟩ := List.mem_map.1 hr
    exact pD_len p⟩
def DelAt.skip {key : ByteArray} {m : List (ByteArray × V)} (s : DelAt key m) (h : s.j < m.length) (hk : isK key m[s.j] = true) : DelAt key m :=
  ⟨s.i, s.j + 1, s.r, by have := s.hij; omega, by omega, s.hr, by rw [drop_snoc h, if_pos hk, List.append_nil]; exact s.kept, fun q hq => s.rest q (by omega), s.len8⟩
def DelAt.keep {key : ByteArray} {m : List (ByteArray × V)} (s : DelAt key m) (h : s.j < m.length) (hk : isK key m[s.j] = false) : DelAt key m :=
  ⟨s.i + 1, s.j + 1, s.r.set s.i (pD m[s.j]), by have := s.hij; omega, by omega, by rw [List.length_set]; exact s.hr, by
    have hi : s.i < s.r.length := by have := s.hij; have := s.hr; omega
    rw [drop_snoc h, hk, if_neg (by simp), List.map_append, ← s.kept, List.take_add_one, List.getElem?_set_self hi, List.take_set_of_le (Nat.le_refl _)]
    rfl, fun q hq => by
    rw [List.getElem?_set_ne (by have := s.hij; omega)]
    exact s.rest q (by omega), fun row hr => by
    rcases List.mem_or_eq_of_mem_set hr with h1 | rfl
    · exact s.len8 row h1
    · exact pD_len _⟩

set_option maxHeartbeats 4000000 in
set_option maxRecDepth 100000 in
theorem del_c {W0 : World} (key : ByteArray) (m : List (ByteArray × V)) (hb47 : m.length * 112 ≤ 140737488355328) : ACalls Tryd.prog W0 90 [.sl 0 8 0 m.length, kf key] [.vec 8 112 (m.map pD)] (fun r L' => r = .ret (.sl 0 8 0 (dropV key m).length) ∧ L' = [.vec 8 112 ((dropV key m).map pD)]) := by
  have hix := ixf_c (W0 := W0) key m
  have lm : (m.map pD).length = m.length := List.length_map ..
  have tm := take_len (l := m.map pD) lm
  have hz : fzL 0 8 112 (m.map pD) ([.sl 0 8 0 m.length, .fn 99 [.dp [.v (.string key)]]] ++ []) = [rP m, kf key] := by
    simp only [List.cons_append, List.nil_append, fzL, fzA, if_true, Nat.zero_add, lm, Nat.le_refl, and_self, List.drop_zero, tm, rP, kf]
  refine A_body Tryd.func90 rfl (by simp [Tryd.ntmps90]) ?_
  simp only [Tryd.ntmps90, Tryd.results90, mkEnv, List.length_cons, List.length_nil, kf]
  repeat (first
      | refine A_seq ?_
      | refine A_block ?_
      | (refine A_region (A_run ?_); simp only [go_sem]; refine A_nil ?_; simp only [Thn, InB])
      | (refine A_condt ?_ ?_; focus (simp only [evo, lk, lk1, lk2, Nat.reduceDiv, Nat.reduceMod]; done))
      | (refine A_condf ?_ ?_; focus (simp only [evo, lk, lk1, lk2, Nat.reduceDiv, Nat.reduceMod]; done))
      | (refine A_skip ?_; simp only [Thn, InB])
      | (refine A_exit ?_; simp only [Thn, InB, reduceIte, Nat.reduceEqDiff])
      | refine A_ret ?_)
  refine A_region (A_run ?_)
  simp only [go_sem]
  refine A_lend 0 hix rfl rfl rfl rfl rfl (by simp only [go_sem]) rfl hz (by simp only [noNames, namesAll, AV.names, rP, kf, Bool.and_self]) ?_
  rintro r rfl
  refine ⟨_, .inl ⟨rfl, A_run ?_⟩⟩
  simp only [go_sem]
  refine A_nil ?_
  simp only [Thn, InB]
  cases ho : fI (isK key) m with
  | none =>
    simp only [fN]
    repeat (first
        | refine A_seq ?_
        | refine A_block ?_
        | (refine A_region (A_run ?_); simp only [go_sem]; refine A_nil ?_; simp only [Thn, InB])
        | (refine A_condt ?_ ?_; focus (simp only [evo, lk, lk1, lk2, Nat.reduceDiv, Nat.reduceMod]; done))
        | (refine A_condf ?_ ?_; focus (simp only [evo, lk, lk1, lk2, Nat.reduceDiv, Nat.reduceMod]; done))
        | (refine A_skip ?_; simp only [Thn, InB])
        | (refine A_exit ?_; simp only [Thn, InB, reduceIte, Nat.reduceEqDiff])
        | refine A_ret ?_)
    refine ⟨_, rfl, [.vec 8 112 (m.map pD)], _, fin_mk ⟨[], rfl⟩ (Nat.le_refl _) rfl rfl (Le.refl _), ?_, ?_⟩
    · rw [drop_none ho]
    · rw [drop_none ho]
  | some i0 =>
    obtain ⟨p, hp, hkp⟩ := fI_some ho
    have hi0 := (List.getElem?_eq_some_iff.1 hp).1
    have hne : ((i0 : Int) = -1) = False := eq_false (by omega)
    have hne' : ((i0 : Int) == -1) = false := by simp
    have hw0 := wrap_succ (i := i0) (by omega)
    simp only [fN]
    repeat (first
        | refine A_seq ?_
        | refine A_block ?_
        | (refine A_region (A_run ?_); simp only [go_sem, hne, hne', hw0]; refine A_nil ?_; simp only [Thn, InB])
        | (refine A_condt ?_ ?_; focus (simp only [evo, lk, lk1, lk2, Nat.reduceDiv, Nat.reduceMod]; done))
        | (refine A_condf ?_ ?_; focus (simp only [evo, lk, lk1, lk2, Nat.reduceDiv, Nat.reduceMod]; done))
        | (refine A_skip ?_; simp only [Thn, InB])
        | (refine A_exit ?_; simp only [Thn, InB, reduceIte, Nat.reduceEqDiff])
        | refine A_ret ?_)
    refine A_lp (σ := DelAt key m) (fun s => ⟨42, ofL [(0, .sl 0 8 0 m.length), (1, .fn 99 [.dp [.v (.string key)]]), (5, .d (.v (.int .i64 (s.i : Nat)))), (6, .d (.v (.int .i64 (s.j : Nat))))], [.vec 8 112 s.r]⟩) (fun s => m.length - s.j) (DelAt.start ho hi0) ?_ ?_
    · ((try dsimp only); refine Sb.mk ?_ ?_ ?_ ?_ ?_ ?_; (focus rfl); (focus (repeat (first | exact eSub_nil _ | refine eSub_cons rfl ?_))); (focus exact ⟨_, rfl⟩); (focus (first | exact Nat.zero_le _ | exact Nat.le_refl _)); (focus (first | rfl | simp only [envBelow, List.all_cons, List.all_nil, namesAll, AV.names, names_ds, go_sem])); (focus (first | rfl | simp only [List.all_cons, List.all_nil, boxBelow, namesAll, AV.names, names_ds, go_sem])))
    · intro s R hR
      have hij := s.hij
      have hjm := s.hj
      have hrm := s.hr
      try simp only
      repeat (first
          | refine A_seq ?_
          | refine A_block ?_
          | (refine A_region (A_run ?_); simp only [go_sem]; refine A_nil ?_; simp only [Thn, InB])
          | (refine A_condt ?_ ?_; focus (simp only [evo, lk, lk1, lk2, Nat.reduceDiv, Nat.reduceMod]; done))
          | (refine A_condf ?_ ?_; focus (simp only [evo, lk, lk1, lk2, Nat.reduceDiv, Nat.reduceMod]; done))
          | (refine A_skip ?_; simp only [Thn, InB])
          | (refine A_exit ?_; simp only [Thn, InB, reduceIte, Nat.reduceEqDiff])
          | refine A_ret ?_)
      refine A_cond rfl (fun h => ?_) (fun h => ?_)
      · have hlt : s.j < m.length := by simpa using h
        have hlt2 : ((s.j : Int) < (m.length : Int)) = True := eq_true (by omega)
        have hx : s.r[s.j]? = some (.v (.string m[s.j].1) :: vD m[s.j].2) := by rw [s.rest s.j (Nat.le_refl _), List.getElem?_map, List.getElem?_eq_getElem hlt]; rfl
        have tx := take_len (l := (vD m[s.j].2).map AV.d) (n := 7) (by rw [List.length_map, vD_len])
        have lx := vD_len m[s.j].2
        have hw := wrap_succ (i := s.j) (by omega)
        have hwi := wrap_succ (i := s.i) (by omega)
        have hir : s.i < s.r.length := by omega
        have hxi : s.r[s.i]? = some s.r[s.i] := List.getElem?_eq_getElem hir
        have l8 := s.len8 s.r[s.i] (List.getElem_mem hir)
        have d8 := drop_len (l := s.r[s.i]) l8
        have hlti : ((s.i : Int) < (m.length : Int)) = True := eq_true (by omega)
        repeat (first
            | refine A_seq ?_
            | refine A_block ?_
            | (refine A_region (A_run ?_); simp only [go_sem, hx, tx, lx, hlt2, over]; refine A_nil ?_; simp only [Thn, InB])
            | (refine A_condt ?_ ?_; focus (simp only [evo, lk, lk1, lk2, Nat.reduceDiv, Nat.reduceMod]; done))
            | (refine A_condf ?_ ?_; focus (simp only [evo, lk, lk1, lk2, Nat.reduceDiv, Nat.reduceMod]; done))
            | (refine A_skip ?_; simp only [Thn, InB])
            | (refine A_exit ?_; simp only [Thn, InB, reduceIte, Nat.reduceEqDiff])
            | refine A_ret ?_)
        refine A_region (A_run ?_)
        simp only [go_sem, tx, lx]
        (refine A_call (isK_c key m[s.j]) rfl rfl rfl rfl (by first | assumption | simp only [go_sem]) rfl (by first | rfl | simp only [noNames, namesAll, AV.names, names_ds, go_sem, List.append_nil, List.cons_append, List.nil_append, Bool.and_self]) ?_; rintro r rfl; refine ⟨(by first | rfl | simp only [noName, namesAll, AV.names, names_ds, go_sem, Bool.and_self]), A_run ?_⟩; simp only [go_sem])
        refine A_nil ?_
        simp only [Thn, InB]
        refine A_cond rfl (fun h => ?_) (fun h => ?_)
        · have hk : isK key m[s.j] = false := by simpa using h
          repeat (first
              | refine A_seq ?_
              | refine A_block ?_
              | (refine A_region (A_run ?_); simp only [go_sem, tx, lx, hlti, hxi, l8, d8, over, hwi, hw]; refine A_nil ?_; simp only [Thn, InB])
              | (refine A_condt ?_ ?_; focus (simp only [evo, lk, lk1, lk2, Nat.reduceDiv, Nat.reduceMod]; done))
              | (refine A_condf ?_ ?_; focus (simp only [evo, lk, lk1, lk2, Nat.reduceDiv, Nat.reduceMod]; done))
              | (refine A_skip ?_; simp only [Thn, InB])
              | (refine A_exit ?_; simp only [Thn, InB, reduceIte, Nat.reduceEqDiff])
              | refine A_ret ?_)
          refine hR _ ⟨s.keep hlt hk, by show m.length - (s.j + 1) < m.length - s.j; omega, ?_⟩
          ((try dsimp only); refine Sb.mk ?_ ?_ ?_ ?_ ?_ ?_; (focus rfl); (focus (repeat (first | exact eSub_nil _ | refine eSub_cons rfl ?_))); (focus exact ⟨_, rfl⟩); (focus (first | exact Nat.zero_le _ | exact Nat.le_refl _)); (focus (first | rfl | simp only [envBelow, List.all_cons, List.all_nil, namesAll, AV.names, names_ds, go_sem])); (focus (first | rfl | simp only [List.all_cons, List.all_nil, boxBelow, namesAll, AV.names, names_ds, go_sem])))
        · have hk : isK key m[s.j] = true := by simpa using h
          repeat (first
              | refine A_seq ?_
              | refine A_block ?_
              | (refine A_region (A_run ?_); simp only [go_sem, hw]; refine A_nil ?_; simp only [Thn, InB])
              | (refine A_condt ?_ ?_; focus (simp only [evo, lk, lk1, lk2, Nat.reduceDiv, Nat.reduceMod]; done))
              | (refine A_condf ?_ ?_; focus (simp only [evo, lk, lk1, lk2, Nat.reduceDiv, Nat.reduceMod]; done))
              | (refine A_skip ?_; simp only [Thn, InB])
              | (refine A_exit ?_; simp only [Thn, InB, reduceIte, Nat.reduceEqDiff])
              | refine A_ret ?_)
          refine hR _ ⟨s.skip hlt hk, by show m.length - (s.j + 1) < m.length - s.j; omega, ?_⟩
          ((try dsimp only); refine Sb.mk ?_ ?_ ?_ ?_ ?_ ?_; (focus rfl); (focus (repeat (first | exact eSub_nil _ | refine eSub_cons rfl ?_))); (focus exact ⟨_, rfl⟩); (focus (first | exact Nat.zero_le _ | exact Nat.le_refl _)); (focus (first | rfl | simp only [envBelow, List.all_cons, List.all_nil, namesAll, AV.names, names_ds, go_sem])); (focus (first | rfl | simp only [List.all_cons, List.all_nil, boxBelow, namesAll, AV.names, names_ds, go_sem])))
      · have hge : s.j = m.length := by simp at h; omega
        have le1 : (s.i ≤ m.length) = True := eq_true (by omega)
        have lt1 : (s.i < m.length) = True := eq_true (by omega)
        have hk : s.r.take s.i = (dropV key m).map pD := by
          have := s.kept
          rwa [hge, List.take_length] at this
        have hki : (dropV key m).length = s.i := by
          have := congrArg List.length hk
          simp only [List.length_take, List.length_map] at this
          omega
        repeat (first
            | refine A_seq ?_
            | refine A_block ?_
            | (refine A_region (A_run ?_); simp only [go_sem]; refine A_nil ?_; simp only [Thn, InB])
            | (refine A_condt ?_ ?_; focus (simp only [evo, lk, lk1, lk2, Nat.reduceDiv, Nat.reduceMod]; done))
            | (refine A_condf ?_ ?_; focus (simp only [evo, lk, lk1, lk2, Nat.reduceDiv, Nat.reduceMod]; done))
            | (refine A_skip ?_; simp only [Thn, InB])
            | (refine A_exit ?_; simp only [Thn, InB, reduceIte, Nat.reduceEqDiff])
            | refine A_ret ?_)
        refine A_region (A_run ?_)
        simp only [go_sem, le1, lt1]
        refine A_clear (b := 0) (lo := s.i) (sz := 8) (bt := 112) (l := s.r) rfl rfl rfl (by simp only [go_sem] <;> rfl) (by simp only [go_sem] <;> rfl) (by simp only [go_sem] <;> rfl) ?_ ?_ rfl rfl (by omega) (A_run ?_)
        · rfl
        · rfl
        simp only [go_sem, hk]
        refine A_nil ?_
        simp only [Thn, InB]
        repeat (first
            | refine A_seq ?_
            | refine A_block ?_
            | (refine A_region (A_run ?_); simp only [go_sem, le1, lt1]; refine A_nil ?_; simp only [Thn, InB])
            | (refine A_condt ?_ ?_; focus (simp only [evo, lk, lk1, lk2, Nat.reduceDiv, Nat.reduceMod]; done))
            | (refine A_condf ?_ ?_; focus (simp only [evo, lk, lk1, lk2, Nat.reduceDiv, Nat.reduceMod]; done))
            | (refine A_skip ?_; simp only [Thn, InB])
            | (refine A_exit ?_; simp only [Thn, InB, reduceIte, Nat.reduceEqDiff])
            | refine A_ret ?_)
        refine ⟨_, rfl, [.vec 8 112 ((dropV key m).map pD)], _, fin_mk ⟨[], rfl⟩ (Nat.le_refl _) rfl rfl (Le.refl _), ?_, rfl⟩
        rw [hki]

set_option maxHeartbeats 4000000 in
set_option maxRecDepth 100000 in
theorem drop_c {W0 : World} (key : ByteArray) (m : List (ByteArray × V)) : APure Tryd.prog W0 78 [rP m, .d (.v (.string key))] (· = .ret (rP (dropV key m))) := by
  refine APure.known fun hk => ?_
  have hb47 := ab_rP (hk (rP m) (by simp))
  refine A_body Tryd.func78 rfl (by simp [Tryd.ntmps78]) ?_
  simp only [Tryd.ntmps78, Tryd.results78, mkEnv, List.length_nil, rP]
  repeat (first
      | refine A_seq ?_
      | refine A_block ?_
      | (refine A_region (A_run ?_); simp only [go_sem]; refine A_nil ?_; simp only [Thn, InB])
      | (refine A_condt ?_ ?_; focus (simp only [evo, lk, lk1, lk2, Nat.reduceDiv, Nat.reduceMod]; done))
      | (refine A_condf ?_ ?_; focus (simp only [evo, lk, lk1, lk2, Nat.reduceDiv, Nat.reduceMod]; done))
      | (refine A_skip ?_; simp only [Thn, InB])
      | (refine A_exit ?_; simp only [Thn, InB, reduceIte, Nat.reduceEqDiff])
      | refine A_ret ?_)
  refine A_region (A_run ?_)
  simp only [go_sem]
  refine A_callB [] (ownPairs_of m fun p _ => own_c p.2) rfl rfl rfl rfl (by simp only [go_sem]) rfl (by simp) rfl (fun i b h => by simp at h) rfl ?_
  rintro r L' ⟨rfl, rfl⟩
  refine ⟨rfl, A_run ?_⟩
  simp only [St.aft, killPE, mapE, killP, killPB, killPL, moved, setAll, renB, renA, sg_nil, go_sem]
  (refine A_call (named_c key) rfl rfl rfl rfl (by first | assumption | simp only [go_sem]) rfl (by first | rfl | simp only [noNames, namesAll, AV.names, names_ds, go_sem, List.append_nil, List.cons_append, List.nil_append, Bool.and_self]) ?_; rintro r rfl; refine ⟨(by first | rfl | simp only [noName, namesAll, AV.names, names_ds, go_sem, Bool.and_self]), A_run ?_⟩; simp only [go_sem, kf])
  refine A_callB [0] (del_c key m hb47) rfl rfl rfl rfl (by simp only [go_sem]) rfl (by simp) rfl (fun i b h => ?_) rfl ?_
  · match i, h with
    | 0, h =>
      simp only [List.getElem?_cons_zero, Option.some.injEq] at h
      subst h
      rfl
  rintro r L' ⟨rfl, rfl⟩
  refine ⟨rfl, A_run ?_⟩
  have hs0 : ∀ k, sg [0] k 0 = 0 := fun k => rfl
  simp only [St.aft, killPE, mapE, killP, killPB, killPL, moved, setAll, renB, renA, hs0, go_sem]
  refine A_nil ?_
  simp only [Thn, InB]
  refine A_sub _ (Sb.freeze 0 rfl (Nat.zero_le _)) ?_
  have ht : List.take (dropV key m).length ((dropV key m).map pD) = (dropV key m).map pD := List.take_of_length_le (by simp)
  simp only [fzE, mapE, fzA, fzL, fzB, go_sem, ht]
  repeat (first
      | refine A_seq ?_
      | refine A_block ?_
      | (refine A_region (A_run ?_); simp only [go_sem]; refine A_nil ?_; simp only [Thn, InB])
      | (refine A_condt ?_ ?_; focus (simp only [evo, lk, lk1, lk2, Nat.reduceDiv, Nat.reduceMod]; done))
      | (refine A_condf ?_ ?_; focus (simp only [evo, lk, lk1, lk2, Nat.reduceDiv, Nat.reduceMod]; done))
      | (refine A_skip ?_; simp only [Thn, InB])
      | (refine A_exit ?_; simp only [Thn, InB, reduceIte, Nat.reduceEqDiff])
      | refine A_ret ?_)
  exact ⟨_, rfl, _, _, fin_pure rfl (Le.refl _), rfl, rfl⟩
end Go.Proofs.YtfbegbpipmgfiaaDoor.Lift
end
section
/- pdata: items and groups of their own memory. No conditions. -/
set_option linter.unusedVariables false
set_option linter.unusedSimpArgs false
set_option maxHeartbeats 4000000
set_option maxRecDepth 100000
namespace Go.Proofs.YtfbegbpipmgfiaaDoor.Lift
open Go Go.RowKit

set_option maxHeartbeats 4000000 in
set_option maxRecDepth 100000 in
theorem clone_f {W0 : World} (l : List (Nat)) : ACalls Tryd.prog W0 80 [.d (.rows 1 8 (l.map f64L))] [] (fun r L' => r = .ret (.sl 0 1 0 l.length) ∧ L' = [.vec 1 8 (l.map f64L)]) := by
  refine ACalls.known fun hk => ?_
  have hb47 : l.length * 8 ≤ 140737488355328 := by
    have := hk (.d (.rows 1 8 (l.map f64L))) (by simp)
    simp only [AB] at this
    cases this with
    | rows _ _ _ h _ => simpa using h
  refine A_body Tryd.func80 rfl (by simp [Tryd.ntmps80]) ?_
  simp only [Tryd.ntmps80, Tryd.results80, mkEnv, List.length_nil]
  repeat (first
      | refine A_seq ?_
      | refine A_block ?_
      | (refine A_region (A_run ?_); simp only [go_sem]; refine A_nil ?_; simp only [Thn, InB])
      | (refine A_condt ?_ ?_; focus (simp only [evo, lk, lk1, lk2, Nat.reduceDiv, Nat.reduceMod]; done))
      | (refine A_condf ?_ ?_; focus (simp only [evo, lk, lk1, lk2, Nat.reduceDiv, Nat.reduceMod]; done))
      | (refine A_skip ?_; simp only [Thn, InB])
      | (refine A_exit ?_; simp only [Thn, InB, reduceIte, Nat.reduceEqDiff])
      | refine A_ret ?_)
  refine A_region (A_run ?_)
  simp only [go_sem]
  refine A_eqnil rfl rfl (by simp only [go_sem]; rfl) rfl (.inr ⟨_, _, _, rfl⟩) rfl ?_
  intro b hb
  refine A_run ?_
  simp only [go_sem]
  refine A_nil ?_
  simp only [Thn, InB]
  refine A_cond rfl (fun h => ?_) (fun h => ?_)
  · have hl : l = [] := by
      cases l with
      | nil => rfl
      | cons x l =>
        have := hb _ _ _ rfl (by simp)
        rw [this] at h
        cases h
    subst hl
    repeat (first
        | refine A_seq ?_
        | refine A_block ?_
        | (refine A_region (A_run ?_); simp only [go_sem]; refine A_nil ?_; simp only [Thn, InB])
        | (refine A_condt ?_ ?_; focus (simp only [evo, lk, lk1, lk2, Nat.reduceDiv, Nat.reduceMod]; done))
        | (refine A_condf ?_ ?_; focus (simp only [evo, lk, lk1, lk2, Nat.reduceDiv, Nat.reduceMod]; done))
        | (refine A_skip ?_; simp only [Thn, InB])
        | (refine A_exit ?_; simp only [Thn, InB, reduceIte, Nat.reduceEqDiff])
        | refine A_ret ?_)
    exact ⟨_, rfl, _, _, fin_nil (by decide) (by decide), rfl, rfl⟩
  · skip
    repeat (first
        | refine A_seq ?_
        | refine A_block ?_
        | (refine A_region (A_run ?_); simp only [go_sem]; refine A_nil ?_; simp only [Thn, InB])
        | (refine A_condt ?_ ?_; focus (simp only [evo, lk, lk1, lk2, Nat.reduceDiv, Nat.reduceMod]; done))
        | (refine A_condf ?_ ?_; focus (simp only [evo, lk, lk1, lk2, Nat.reduceDiv, Nat.reduceMod]; done))
        | (refine A_skip ?_; simp only [Thn, InB])
        | (refine A_exit ?_; simp only [Thn, InB, reduceIte, Nat.reduceEqDiff])
        | refine A_ret ?_)
    refine A_region (A_run ?_)
    simp only [go_sem]
    refine A_nilslice rfl rfl (by simp only [go_sem]; rfl) (by simp only [go_sem]; rfl) rfl ?_
    refine A_run ?_
    simp only [go_sem]
    refine O_sub _ (Sb.opn (t := 5) (sz := 1) (bt := 8) rfl (by decide) (by decide)) ?_
    simp only [go_sem]
    refine A_append (l := []) (l2 := l.map f64L) (sz := 1) (bt := 8) (b := 0) (k := 0) rfl rfl (by simp only [go_sem] <;> rfl) (by simp only [go_sem] <;> rfl) (by simp only [go_sem] <;> rfl) (by simp only [go_sem] <;> rfl) ?_ rfl rfl rfl rfl (by simp [apR]) rfl (by simpa using hb47) ?_
    · rfl
    simp only [killE, mapE, killA, killB, List.length_append, List.length_map, go_sem]
    refine A_run ?_
    simp only [go_sem]
    refine A_nil ?_
    simp only [Thn, InB]
    repeat (first
        | refine A_seq ?_
        | refine A_block ?_
        | (refine A_region (A_run ?_); simp only [go_sem]; refine A_nil ?_; simp only [Thn, InB])
        | (refine A_condt ?_ ?_; focus (simp only [evo, lk, lk1, lk2, Nat.reduceDiv, Nat.reduceMod]; done))
        | (refine A_condf ?_ ?_; focus (simp only [evo, lk, lk1, lk2, Nat.reduceDiv, Nat.reduceMod]; done))
        | (refine A_skip ?_; simp only [Thn, InB])
        | (refine A_exit ?_; simp only [Thn, InB, reduceIte, Nat.reduceEqDiff])
        | refine A_ret ?_)
    exact ⟨_, rfl, _, _, fin_own _ rfl rfl, by simp, by simp⟩

set_option maxHeartbeats 4000000 in
set_option maxRecDepth 100000 in
theorem clone_u {W0 : World} (l : List (Nat)) : ACalls Tryd.prog W0 81 [.d (.rows 1 8 (l.map c64L))] [] (fun r L' => r = .ret (.sl 0 1 0 l.length) ∧ L' = [.vec 1 8 (l.map c64L)]) := by
  refine ACalls.known fun hk => ?_
  have hb47 : l.length * 8 ≤ 140737488355328 := by
    have := hk (.d (.rows 1 8 (l.map c64L))) (by simp)
    simp only [AB] at this
    cases this with
    | rows _ _ _ h _ => simpa using h
  refine A_body Tryd.func81 rfl (by simp [Tryd.ntmps81]) ?_
  simp only [Tryd.ntmps81, Tryd.results81, mkEnv, List.length_nil]
  repeat (first
      | refine A_seq ?_
      | refine A_block ?_
      | (refine A_region (A_run ?_); simp only [go_sem]; refine A_nil ?_; simp only [Thn, InB])
      | (refine A_condt ?_ ?_; focus (simp only [evo, lk, lk1, lk2, Nat.reduceDiv, Nat.reduceMod]; done))
      | (refine A_condf ?_ ?_; focus (simp only [evo, lk, lk1, lk2, Nat.reduceDiv, Nat.reduceMod]; done))
      | (refine A_skip ?_; simp only [Thn, InB])
      | (refine A_exit ?_; simp only [Thn, InB, reduceIte, Nat.reduceEqDiff])
      | refine A_ret ?_)
  refine A_region (A_run ?_)
  simp only [go_sem]
  refine A_eqnil rfl rfl (by simp only [go_sem]; rfl) rfl (.inr ⟨_, _, _, rfl⟩) rfl ?_
  intro b hb
  refine A_run ?_
  simp only [go_sem]
  refine A_nil ?_
  simp only [Thn, InB]
  refine A_cond rfl (fun h => ?_) (fun h => ?_)
  · have hl : l = [] := by
      cases l with
      | nil => rfl
      | cons x l =>
        have := hb _ _ _ rfl (by simp)
        rw [this] at h
        cases h
    subst hl
    repeat (first
        | refine A_seq ?_
        | refine A_block ?_
        | (refine A_region (A_run ?_); simp only [go_sem]; refine A_nil ?_; simp only [Thn, InB])
        | (refine A_condt ?_ ?_; focus (simp only [evo, lk, lk1, lk2, Nat.reduceDiv, Nat.reduceMod]; done))
        | (refine A_condf ?_ ?_; focus (simp only [evo, lk, lk1, lk2, Nat.reduceDiv, Nat.reduceMod]; done))
        | (refine A_skip ?_; simp only [Thn, InB])
        | (refine A_exit ?_; simp only [Thn, InB, reduceIte, Nat.reduceEqDiff])
        | refine A_ret ?_)
    exact ⟨_, rfl, _, _, fin_nil (by decide) (by decide), rfl, rfl⟩
  · skip
    repeat (first
        | refine A_seq ?_
        | refine A_block ?_
        | (refine A_region (A_run ?_); simp only [go_sem]; refine A_nil ?_; simp only [Thn, InB])
        | (refine A_condt ?_ ?_; focus (simp only [evo, lk, lk1, lk2, Nat.reduceDiv, Nat.reduceMod]; done))
        | (refine A_condf ?_ ?_; focus (simp only [evo, lk, lk1, lk2, Nat.reduceDiv, Nat.reduceMod]; done))
        | (refine A_skip ?_; simp only [Thn, InB])
        | (refine A_exit ?_; simp only [Thn, InB, reduceIte, Nat.reduceEqDiff])
        | refine A_ret ?_)
    refine A_region (A_run ?_)
    simp only [go_sem]
    refine A_nilslice rfl rfl (by simp only [go_sem]; rfl) (by simp only [go_sem]; rfl) rfl ?_
    refine A_run ?_
    simp only [go_sem]
    refine O_sub _ (Sb.opn (t := 5) (sz := 1) (bt := 8) rfl (by decide) (by decide)) ?_
    simp only [go_sem]
    refine A_append (l := []) (l2 := l.map c64L) (sz := 1) (bt := 8) (b := 0) (k := 0) rfl rfl (by simp only [go_sem] <;> rfl) (by simp only [go_sem] <;> rfl) (by simp only [go_sem] <;> rfl) (by simp only [go_sem] <;> rfl) ?_ rfl rfl rfl rfl (by simp [apR]) rfl (by simpa using hb47) ?_
    · rfl
    simp only [killE, mapE, killA, killB, List.length_append, List.length_map, go_sem]
    refine A_run ?_
    simp only [go_sem]
    refine A_nil ?_
    simp only [Thn, InB]
    repeat (first
        | refine A_seq ?_
        | refine A_block ?_
        | (refine A_region (A_run ?_); simp only [go_sem]; refine A_nil ?_; simp only [Thn, InB])
        | (refine A_condt ?_ ?_; focus (simp only [evo, lk, lk1, lk2, Nat.reduceDiv, Nat.reduceMod]; done))
        | (refine A_condf ?_ ?_; focus (simp only [evo, lk, lk1, lk2, Nat.reduceDiv, Nat.reduceMod]; done))
        | (refine A_skip ?_; simp only [Thn, InB])
        | (refine A_exit ?_; simp only [Thn, InB, reduceIte, Nat.reduceEqDiff])
        | refine A_ret ?_)
    exact ⟨_, rfl, _, _, fin_own _ rfl rfl, by simp, by simp⟩

set_option maxHeartbeats 4000000 in
set_option maxRecDepth 100000 in
theorem clone_q {W0 : World} (l : List (Nat × Nat)) : ACalls Tryd.prog W0 82 [.d (.rows 2 16 (l.map qD))] [] (fun r L' => r = .ret (.sl 0 2 0 l.length) ∧ L' = [.vec 2 16 (l.map qD)]) := by
  refine ACalls.known fun hk => ?_
  have hb47 : l.length * 16 ≤ 140737488355328 := by
    have := hk (.d (.rows 2 16 (l.map qD))) (by simp)
    simp only [AB] at this
    cases this with
    | rows _ _ _ h _ => simpa using h
  refine A_body Tryd.func82 rfl (by simp [Tryd.ntmps82]) ?_
  simp only [Tryd.ntmps82, Tryd.results82, mkEnv, List.length_nil]
  repeat (first
      | refine A_seq ?_
      | refine A_block ?_
      | (refine A_region (A_run ?_); simp only [go_sem]; refine A_nil ?_; simp only [Thn, InB])
      | (refine A_condt ?_ ?_; focus (simp only [evo, lk, lk1, lk2, Nat.reduceDiv, Nat.reduceMod]; done))
      | (refine A_condf ?_ ?_; focus (simp only [evo, lk, lk1, lk2, Nat.reduceDiv, Nat.reduceMod]; done))
      | (refine A_skip ?_; simp only [Thn, InB])
      | (refine A_exit ?_; simp only [Thn, InB, reduceIte, Nat.reduceEqDiff])
      | refine A_ret ?_)
  refine A_region (A_run ?_)
  simp only [go_sem]
  refine A_eqnil rfl rfl (by simp only [go_sem]; rfl) rfl (.inr ⟨_, _, _, rfl⟩) rfl ?_
  intro b hb
  refine A_run ?_
  simp only [go_sem]
  refine A_nil ?_
  simp only [Thn, InB]
  refine A_cond rfl (fun h => ?_) (fun h => ?_)
  · have hl : l = [] := by
      cases l with
      | nil => rfl
      | cons x l =>
        have := hb _ _ _ rfl (by simp)
        rw [this] at h
        cases h
    subst hl
    repeat (first
        | refine A_seq ?_
        | refine A_block ?_
        | (refine A_region (A_run ?_); simp only [go_sem]; refine A_nil ?_; simp only [Thn, InB])
        | (refine A_condt ?_ ?_; focus (simp only [evo, lk, lk1, lk2, Nat.reduceDiv, Nat.reduceMod]; done))
        | (refine A_condf ?_ ?_; focus (simp only [evo, lk, lk1, lk2, Nat.reduceDiv, Nat.reduceMod]; done))
        | (refine A_skip ?_; simp only [Thn, InB])
        | (refine A_exit ?_; simp only [Thn, InB, reduceIte, Nat.reduceEqDiff])
        | refine A_ret ?_)
    exact ⟨_, rfl, _, _, fin_nil (by decide) (by decide), rfl, rfl⟩
  · skip
    repeat (first
        | refine A_seq ?_
        | refine A_block ?_
        | (refine A_region (A_run ?_); simp only [go_sem]; refine A_nil ?_; simp only [Thn, InB])
        | (refine A_condt ?_ ?_; focus (simp only [evo, lk, lk1, lk2, Nat.reduceDiv, Nat.reduceMod]; done))
        | (refine A_condf ?_ ?_; focus (simp only [evo, lk, lk1, lk2, Nat.reduceDiv, Nat.reduceMod]; done))
        | (refine A_skip ?_; simp only [Thn, InB])
        | (refine A_exit ?_; simp only [Thn, InB, reduceIte, Nat.reduceEqDiff])
        | refine A_ret ?_)
    refine A_region (A_run ?_)
    simp only [go_sem]
    refine A_nilslice rfl rfl (by simp only [go_sem]; rfl) (by simp only [go_sem]; rfl) rfl ?_
    refine A_run ?_
    simp only [go_sem]
    refine O_sub _ (Sb.opn (t := 5) (sz := 2) (bt := 16) rfl (by decide) (by decide)) ?_
    simp only [go_sem]
    refine A_append (l := []) (l2 := l.map qD) (sz := 2) (bt := 16) (b := 0) (k := 0) rfl rfl (by simp only [go_sem] <;> rfl) (by simp only [go_sem] <;> rfl) (by simp only [go_sem] <;> rfl) (by simp only [go_sem] <;> rfl) ?_ rfl rfl rfl rfl (by simp [apR]) rfl (by simpa using hb47) ?_
    · rfl
    simp only [killE, mapE, killA, killB, List.length_append, List.length_map, go_sem]
    refine A_run ?_
    simp only [go_sem]
    refine A_nil ?_
    simp only [Thn, InB]
    repeat (first
        | refine A_seq ?_
        | refine A_block ?_
        | (refine A_region (A_run ?_); simp only [go_sem]; refine A_nil ?_; simp only [Thn, InB])
        | (refine A_condt ?_ ?_; focus (simp only [evo, lk, lk1, lk2, Nat.reduceDiv, Nat.reduceMod]; done))
        | (refine A_condf ?_ ?_; focus (simp only [evo, lk, lk1, lk2, Nat.reduceDiv, Nat.reduceMod]; done))
        | (refine A_skip ?_; simp only [Thn, InB])
        | (refine A_exit ?_; simp only [Thn, InB, reduceIte, Nat.reduceEqDiff])
        | refine A_ret ?_)
    exact ⟨_, rfl, _, _, fin_own _ rfl rfl, by simp, by simp⟩

theorem clone_fp {W0 : World} (l : List Nat) : APure Tryd.prog W0 80 [rf l] (· = .ret (rf l)) := (clone_f l).frozen (List.length_map ..).symm
theorem clone_up {W0 : World} (l : List Nat) : APure Tryd.prog W0 81 [rc l] (· = .ret (rc l)) := (clone_u l).frozen (List.length_map ..).symm
theorem clone_qp {W0 : World} (l : List (Nat × Nat)) : APure Tryd.prog W0 82 [rq l] (· = .ret (rq l)) := (clone_q l).frozen (List.length_map ..).symm
def badKey : ByteArray := ⟨#[255]⟩
def ownedI (x : It) : It := { x with attrs := dropV badKey x.attrs }
def ownedG (g : Gr) : Gr := { g with res := dropV badKey g.res, attrs := dropV badKey g.attrs, items := [] }
theorem get_body (x : V) : getV ByteArray.empty [(ByteArray.empty, x)] = (x, true) := by simp [getV, fI, isK]
theorem ownItem_c {W0 : World} (x : It) : APure Tryd.prog W0 53 [ia x] (· = .ret (ia (ownedI x))) := by
  have h1 := drop_c (W0 := W0) badKey x.attrs
  have h2 := get_c (W0 := W0) ByteArray.empty [(ByteArray.empty, x.body)]
  rw [get_body] at h2
  simp only [va, rP, pD, vD_ex, List.map_cons, List.map_nil] at h2
  have h3 := clone_fp (W0 := W0) x.pt.bnd
  have h4 := clone_up (W0 := W0) x.pt.cts
  have h5 := clone_up (W0 := W0) x.pt.neg
  have h6 := clone_qp (W0 := W0) x.pt.qts
  refine A_body Tryd.func53 rfl (Nat.le_of_ble_eq_true rfl) ?_
  simp only [go_sem, Tryd.ntmps53, Tryd.results53, mkEnv]
  repeat (first | refine wS ?_ | refine wB ?_ | (refine wR ?_; simp only [go_sem]) | (refine wT ?_ ?_; focus (simp only [go_sem]; done)) | (refine wF ?_ ?_; focus (simp only [go_sem]; done)) | (refine wK ?_; try simp only [go_sem]) | (refine wE ?_; try simp only [go_sem]) | refine wX ?_)
  refine wC (h1) ?_
  simp only [go_sem]
  repeat (first | refine wS ?_ | refine wB ?_ | (refine wR ?_; simp only [go_sem]) | (refine wT ?_ ?_; focus (simp only [go_sem]; done)) | (refine wF ?_ ?_; focus (simp only [go_sem]; done)) | (refine wK ?_; try simp only [go_sem]) | (refine wE ?_; try simp only [go_sem]) | refine wX ?_)
  refine wFzO 2 ?_
  simp only [go_sem]
  refine wC (h2) ?_
  simp only [go_sem]
  repeat (first | refine wS ?_ | refine wB ?_ | (refine wR ?_; simp only [go_sem]) | (refine wT ?_ ?_; focus (simp only [go_sem]; done)) | (refine wF ?_ ?_; focus (simp only [go_sem]; done)) | (refine wK ?_; try simp only [go_sem]) | (refine wE ?_; try simp only [go_sem]) | refine wX ?_)
  refine wMp [(0, 7), (0, 12), (0, 17), (0, 22)] ?_ mixedO (by kernel_rfl)
  simp only [go_sem]
  repeat (first | refine wS ?_ | refine wB ?_ | (refine wR ?_; simp only [go_sem]) | (refine wT ?_ ?_; focus (simp only [go_sem]; done)) | (refine wF ?_ ?_; focus (simp only [go_sem]; done)) | (refine wK ?_; try simp only [go_sem]) | (refine wE ?_; try simp only [go_sem]) | refine wX ?_)
  refine wMC (h3) ?_
  simp only [go_sem]
  repeat (first | refine wS ?_ | refine wB ?_ | (refine wR ?_; simp only [go_sem]) | (refine wT ?_ ?_; focus (simp only [go_sem]; done)) | (refine wF ?_ ?_; focus (simp only [go_sem]; done)) | (refine wK ?_; try simp only [go_sem]) | (refine wE ?_; try simp only [go_sem]) | refine wX ?_)
  refine wMC (h4) ?_
  simp only [go_sem]
  repeat (first | refine wS ?_ | refine wB ?_ | (refine wR ?_; simp only [go_sem]) | (refine wT ?_ ?_; focus (simp only [go_sem]; done)) | (refine wF ?_ ?_; focus (simp only [go_sem]; done)) | (refine wK ?_; try simp only [go_sem]) | (refine wE ?_; try simp only [go_sem]) | refine wX ?_)
  refine wMC (h5) ?_
  simp only [go_sem]
  repeat (first | refine wS ?_ | refine wB ?_ | (refine wR ?_; simp only [go_sem]) | (refine wT ?_ ?_; focus (simp only [go_sem]; done)) | (refine wF ?_ ?_; focus (simp only [go_sem]; done)) | (refine wK ?_; try simp only [go_sem]) | (refine wE ?_; try simp only [go_sem]) | refine wX ?_)
  refine wMC (h6) ?_
  simp only [go_sem]
  repeat (first | refine wS ?_ | refine wB ?_ | (refine wR ?_; simp only [go_sem]) | (refine wT ?_ ?_; focus (simp only [go_sem]; done)) | (refine wF ?_ ?_; focus (simp only [go_sem]; done)) | (refine wK ?_; try simp only [go_sem]) | (refine wE ?_; try simp only [go_sem]) | refine wX ?_)
  exact wRet ⟨rfl, rfl⟩
theorem ownGroupE_c {W0 : World} (g : Gr) : APure Tryd.prog W0 52 [ga g] (· = .ret (.agg ((ghD (ownedG g) ++ [D.e]).map .d))) := by
  have h1 := drop_c (W0 := W0) badKey g.res
  have h2 := drop_c (W0 := W0) badKey g.attrs
  refine A_body Tryd.func52 rfl (Nat.le_of_ble_eq_true rfl) ?_
  simp only [go_sem, Tryd.ntmps52, Tryd.results52, mkEnv]
  repeat (first | refine wS ?_ | refine wB ?_ | (refine wR ?_; simp only [go_sem]) | (refine wT ?_ ?_; focus (simp only [go_sem]; done)) | (refine wF ?_ ?_; focus (simp only [go_sem]; done)) | (refine wK ?_; try simp only [go_sem]) | (refine wE ?_; try simp only [go_sem]) | refine wX ?_)
  refine wMp [(0, 1), (0, 4)] ?_ mixedO (by kernel_rfl)
  simp only [go_sem]
  repeat (first | refine wS ?_ | refine wB ?_ | (refine wR ?_; simp only [go_sem]) | (refine wT ?_ ?_; focus (simp only [go_sem]; done)) | (refine wF ?_ ?_; focus (simp only [go_sem]; done)) | (refine wK ?_; try simp only [go_sem]) | (refine wE ?_; try simp only [go_sem]) | refine wX ?_)
  refine wMC (h1) ?_
  simp only [go_sem]
  repeat (first | refine wS ?_ | refine wB ?_ | (refine wR ?_; simp only [go_sem]) | (refine wT ?_ ?_; focus (simp only [go_sem]; done)) | (refine wF ?_ ?_; focus (simp only [go_sem]; done)) | (refine wK ?_; try simp only [go_sem]) | (refine wE ?_; try simp only [go_sem]) | refine wX ?_)
  refine wMC (h2) ?_
  simp only [go_sem]
  repeat (first | refine wS ?_ | refine wB ?_ | (refine wR ?_; simp only [go_sem]) | (refine wT ?_ ?_; focus (simp only [go_sem]; done)) | (refine wF ?_ ?_; focus (simp only [go_sem]; done)) | (refine wK ?_; try simp only [go_sem]) | (refine wE ?_; try simp only [go_sem]) | refine wX ?_)
  exact wRet ⟨rfl, rfl⟩
end Go.Proofs.YtfbegbpipmgfiaaDoor.Lift
end
section
/- The lift: rows of rows of one's own. No conditions: words and their laws. -/
set_option linter.unusedVariables false
set_option linter.unusedSimpArgs false
set_option maxHeartbeats 4000000
set_option maxRecDepth 100000
set_option linter.unnecessarySimpa false
namespace Go.Proofs.YtfbegbpipmgfiaaDoor.Lift
open Go Go.RowKit

section
variable {P : Program} {W0 : World} {n : Nat}
/-- No known value names a box. -/
def envNo (b : Nat) (e : List (List (Option AV))) : Bool := e.all fun r => r.all fun o => match o with | some x => x.names (· != b) | none => true
def boxNo (b : Nat) : Box → Bool
  | .var cs | .own _ _ cs => namesAll (· != b) cs
  | _ => true
theorem envNo_lk {b : Nat} {env : List (List (Option AV))} (h : envNo b env = true) (t : Nat) (x : AV) (hx : lk env t = some x) : x.names (· != b) = true := by
  have h1 : ∀ (l : List (Option AV)) (i : Nat) (x : AV), (l.all fun o => match o with | some x => x.names (· != b) | none => true) = true → lk1 l i = some x → x.names (· != b) = true := by
    intro l
    induction l with
    | nil => intro i x _ h; cases i <;> simp [lk1] at h
    | cons o l ih =>
      intro i x ha h
      simp only [List.all_cons, Bool.and_eq_true] at ha
      cases i with
      | zero => simp only [lk1] at h; subst h; exact ha.1
      | succ i => exact ih i x ha.2 (by simpa [lk1] using h)
  have h2 : ∀ (l : List (List (Option AV))) (i j : Nat) (x : AV), (l.all fun r => r.all fun o => match o with | some x => x.names (· != b) | none => true) = true → lk1 (lk2 l i) j = some x → x.names (· != b) = true := by
    intro l
    induction l with
    | nil => intro i j x _ h; cases i <;> cases j <;> simp [lk2, lk1] at h
    | cons o l ih =>
      intro i j x ha h
      simp only [List.all_cons, Bool.and_eq_true] at ha
      cases i with
      | zero => exact h1 o j x ha.1 (by simpa [lk2] using h)
      | succ i => exact ih i j x ha.2 (by simpa [lk2] using h)
  exact h2 env _ _ x h hx
/-- A cell that has no row yet gets a place that nobody uses. -/
theorem Sb.reopen {st : St} {b g j sz bt sz0 bt0 szg btg : Nat} {l0 : List (List D)} {cs : List AV} (hb : st.bs[b]? = some (.vec sz0 bt0 l0)) (hg : st.bs[g]? = some (.own szg btg cs)) (hj : cs[j]? = some (.d .e)) (he : envNo b st.env = true) (hbs : st.bs.all (boxNo b) = true) (hsz : 0 < sz) (hbt : 0 < bt) :
    Sb W0 n st ⟨st.N, st.env, (st.bs.set b (.vec sz bt [])).set g (.own szg btg (cs.set j (.sl b sz 0 0)))⟩ := by
  intro E M m a w hn hC
  have hlt : b < st.bs.length := (List.getElem?_eq_some_iff.1 hb).1
  have hglt : g < st.bs.length := (List.getElem?_eq_some_iff.1 hg).1
  have hgb : g ≠ b := by
    rintro rfl
    rw [hg] at hb
    cases hb
  let m' : Nat → Pl := fun x => if x = b then .virt else m x
  have hm : ∀ b', b' ≠ b → m' b' = m b' := fun b' h => if_neg h
  have hmb : m' b = .virt := if_pos rfl
  have at_ : ∀ b' k, m' b' = .at_ k → b' ≠ b ∧ m b' = .at_ k := by
    intro b' k h
    by_cases e : b' = b
    · rw [e, hmb] at h
      cases h
    · rw [hm b' e] at h
      exact ⟨e, h⟩
  have rmp : ∀ (x : AV) (u : Value), x.names (· != b) = true → RA M m w x u → RA M m' w x u := fun x u hx hr => RA.remap (p := (· != b)) (fun b' hb' _ => hm b' (by simpa using hb')) x u hx hr
  have rmps : ∀ (x : List AV) (u : List Value), namesAll (· != b) x = true → RAs M m w x u → RAs M m' w x u := fun x u hx hr => RAs.remap (p := (· != b)) (fun b' hb' _ => hm b' (by simpa using hb')) x u hx hr
  refine ⟨M, m', { hC with mNo := ?_, mIn := fun b' k h => hC.mIn b' k (at_ b' k h).2, inj := fun x y k hx hy => hC.inj x y k (at_ x k hx).2 (at_ y k hy).2, oldv := ?_, oldr := fun b' k h hk => hC.oldr b' k h (at_ b' k hk).2, new := fun b' k h hk => hC.new b' k h (at_ b' k hk).2, len := by simpa using hC.len, box := ?_, env := ?_ }⟩
  · intro b' hb'
    simp at hb'
    rw [hm b' (by omega)]
    exact hC.mNo b' hb'
  · intro b' cs' hb' hc
    simp only at hc
    have e1 : b' ≠ g := by
      rintro rfl
      rw [List.getElem?_set_self (by simpa using hglt)] at hc
      cases hc
    rw [List.getElem?_set_ne (Ne.symm e1)] at hc
    have e2 : b' ≠ b := by
      rintro rfl
      rw [List.getElem?_set_self hlt] at hc
      cases hc
    rw [List.getElem?_set_ne (Ne.symm e2)] at hc
    rw [hm b' e2]
    exact hC.oldv b' cs' hb' hc
  · intro b' y hy
    simp only at hy
    by_cases e1 : b' = g
    · subst e1
      rw [List.getElem?_set_self (by simpa using hglt)] at hy
      cases hy
      obtain ⟨h1, h2, h3, h4⟩ := hC.box b' _ hg
      have hno : namesAll (· != b) cs = true := List.all_eq_true.1 hbs _ (List.mem_of_getElem? hg)
      refine ⟨h1, h2, by simpa using h3, ?_⟩
      rcases h4 with ⟨h5, h6⟩ | ⟨k, C, T, h5, h6, h7, h8⟩
      · rw [h6] at hj
        simp at hj
      · refine .inr ⟨k, C, T, by rw [hm b' hgb]; exact h5, h6, by simpa using h7, ?_⟩
        rw [List.length_set]
        refine RAs.mk (by rw [List.length_set]; exact h8.length) fun i x u hx hu => ?_
        by_cases e : i = j
        · subst e
          have hlj : i < cs.length := (List.getElem?_eq_some_iff.1 hj).1
          rw [List.getElem?_set_self hlj] at hx
          cases hx
          obtain ⟨v, hv, hr⟩ := h8.get hj
          rw [hu] at hv
          cases hv
          simp only [RA] at hr ⊢
          cases hr with
          | e A => exact .inl ⟨trivial, trivial, hmb, A, rfl⟩
        · rw [List.getElem?_set_ne (Ne.symm e)] at hx
          obtain ⟨v, hv, hr⟩ := (rmps _ _ hno h8).get hx
          rw [hu] at hv
          cases hv
          exact hr
    · rw [List.getElem?_set_ne (Ne.symm e1)] at hy
      by_cases e2 : b' = b
      · subst e2
        rw [List.getElem?_set_self hlt] at hy
        cases hy
        exact ⟨hsz, hbt, by simp, .inl ⟨hmb, rfl⟩⟩
      · rw [List.getElem?_set_ne (Ne.symm e2)] at hy
        have h1 := hC.box b' y hy
        have hno := List.all_eq_true.1 hbs _ (List.mem_of_getElem? hy)
        cases y with
        | dead => trivial
        | var cs' =>
          obtain ⟨k, C, T, h2, h3, h4⟩ := h1
          exact ⟨k, C, T, (hm b' e2).trans h2, h3, rmps _ _ hno h4⟩
        | vec sz' bt' l =>
          obtain ⟨h2, h3, h4, h5⟩ := h1
          exact ⟨h2, h3, h4, by rw [hm b' e2]; exact h5⟩
        | mp es =>
          obtain ⟨k, F, c, h2, h3⟩ := h1
          exact ⟨k, F, c, (hm b' e2).trans h2, h3⟩
        | own sz' bt' cs' =>
          obtain ⟨h2, h3, h4, h5⟩ := h1
          refine ⟨h2, h3, h4, ?_⟩
          rw [hm b' e2]
          rcases h5 with h5 | ⟨k, C, T, h5, h6, h7, h8⟩
          · exact .inl h5
          · exact .inr ⟨k, C, T, h5, h6, h7, rmps _ _ hno h8⟩
  · intro t x hx
    exact rmp _ _ (envNo_lk he t x hx) (hC.env t x hx)

/-- What a row of one's own comes to as data, its cells seen as such. -/
theorem own_dataG {E : En} {M M' : Nat → Prop} {m : Nat → Pl} {st : St} {a : Act} {w : World} (h : C W0 E M m st a w) {b sz bt : Nat} {cs : List AV} {l : List (List D)} (hb : st.bs[b]? = some (.own sz bt cs)) (hrow : ∀ row ∈ l, row.length = sz) (hlen : cs.length = l.length * sz) (hM : ∀ k, m b = .at_ k → ¬ M' k)
    (hv : ∀ (i : Nat) (x : AV) (d : D) (v : Value), cs[i]? = some x → l.flatten[i]? = some d → RA M m w x v → RD M' w d v) : ∀ lo n u, lo + n ≤ l.length → RA M m w (.sl b sz lo n) u → RD M' w (.rows sz bt ((l.drop lo).take n)) u := by
  obtain ⟨hsz, hbt, ⟨q, hq, hqb⟩, hbox⟩ := h.box b _ hb
  have hql : q = l.length := Nat.eq_of_mul_eq_mul_right hsz (hq.symm.trans hlen)
  subst hql
  intro lo n u hle hr
  have hlen' : ((l.drop lo).take n).length = n := by simp; omega
  have hbn : ((l.drop lo).take n).length * bt ≤ 140737488355328 := Nat.le_trans (Nat.mul_le_mul_right _ (by omega)) hqb
  have get : ∀ (i : Nat) (row : List D), ((l.drop lo).take n)[i]? = some row → l[lo + i]? = some row := fun i row hi => by
    rw [List.getElem?_take] at hi
    split at hi
    · rwa [List.getElem?_drop] at hi
    · cases hi
  simp only [RA] at hr
  rcases hr with ⟨rfl, rfl, _, A, rfl⟩ | ⟨k, cap, C1, T1, h1, rfl, h2, h3, h4⟩
  · have := RD.rows (M := M') (w := w) sz bt [] A 0 (fun _ _ => default) hbt (by simp) (by simp) (fun i row h => by simp at h) (fun i row j d h => by simp at h)
    simpa using this
  · rcases hbox with ⟨h5, _⟩ | ⟨k', C2, T2, h5, h6, h7, h8⟩
    · rw [h1] at h5
      cases h5
    · rw [h1] at h5
      cases h5
      have cell : ∀ (i : Nat) (row : List D), ((l.drop lo).take n)[i]? = some row → row.length = sz ∧ ∀ (j : Nat) (d : D), row[j]? = some d → ∃ v, C2[(lo + i) * sz + j]? = some v ∧ RD M' w d v := fun i row hi => by
        have hi2 := get i row hi
        have hr := hrow row (List.mem_of_getElem? hi2)
        refine ⟨hr, fun j d hj => ?_⟩
        have hj' : j < sz := by rw [← hr]; exact (List.getElem?_eq_some_iff.1 hj).1
        have hil : lo + i < l.length := (List.getElem?_eq_some_iff.1 hi2).1
        have hfit : (lo + i) * sz + j < cs.length := by
          have : (lo + i + 1) * sz ≤ l.length * sz := Nat.mul_le_mul_right _ hil
          rw [Nat.add_mul] at this
          omega
        have hx : cs[(lo + i) * sz + j]? = some cs[(lo + i) * sz + j] := List.getElem?_eq_getElem hfit
        obtain ⟨v, h9, h10⟩ := h8.get hx
        rw [List.getElem?_take, if_pos hfit] at h9
        exact ⟨v, by simpa using h9, hv _ _ d v hx (by rw [flat_get hrow _ _ hj', hi2, Option.bind_some, hj]) h10⟩
      have := RD.rows (M := M') (w := w) sz bt ((l.drop lo).take n) (some ⟨k, lo * sz, none⟩) cap (fun i j => C2.getD ((lo + i) * sz + j) default) hbt hbn (by omega) (fun i row hi => ?_) (fun i row j d hi hj => ?_)
      · rw [hlen'] at this
        exact this
      · obtain ⟨g1, g2⟩ := cell i row hi
        refine ⟨g1, k, lo * sz, rfl, fun j hj => ⟨hM k h1, ?_⟩⟩
        obtain ⟨v, g3, _⟩ := g2 j row[j] (List.getElem?_eq_getElem (by omega))
        rw [cell_of_row w k _ C2 T2 (0, 0) h6, show lo * sz + i * sz + j = (lo + i) * sz + j by rw [Nat.add_mul], g3]
        simp [Array.getD_eq_getD_getElem?, g3]
      · obtain ⟨g1, g2⟩ := cell i row hi
        obtain ⟨v, g3, g4⟩ := g2 j d hj
        have : C2.getD ((lo + i) * sz + j) default = v := by simp [Array.getD_eq_getD_getElem?, g3]
        simp only [this]
        exact g4
/-- A pure function may look at a row of one's own whose cells may name others, if it answers no rows. -/
theorem A_lendO {Q : Ax → St → Prop} {st : St} {ops : Array Oper} {o : Oper} {rest : List Oper} {fo : Operand} {args : Array Operand} {ts : Array TypeId} {f : FuncId} {caps xs cargs : List AV} {R : Res → Prop} (b : Nat) {sz bt : Nat} {cs : List AV} {l : List (List D)} (hcall : APure P W0 f cargs R) (hb : st.bs[b]? = some (.own sz bt cs)) (hrow : ∀ row ∈ l, row.length = sz) (hlen : cs.length = l.length * sz) (hv : ∀ (i : Nat) (x : AV) (d : D), cs[i]? = some x → l.flatten[i]? = some d → x = .d d ∨ d = .any ∧ x.one = true)
    (hg : o.guard = none) (ho : o.op = .call ⟨.value fo, args, ts⟩) (hf : evo (lk st.env) fo = some (.fn f caps)) (ha : evl (lk st.env) args.toList = some xs) (hc : callable P f = true) (hd : dOk st.N o.dst = true) (hz : fzL b sz bt l (xs ++ caps) = cargs) (hn : noNames cargs = true)
    (h : ∀ r, R r → ∃ v, (r = .ret (.d (.v v)) ∧ AOps P W0 n ops rest Q (st.put o.dst (.d (.v v)))) ∨ (r = .panic (.d (.v v)) ∧ Q (.panic (.d (.v v))) st)) : AOps P W0 n ops (o :: rest) Q st := by
  intro E M m a w hE hC
  refine wpList_plain hg fun K hK => ?_
  obtain ⟨us, h1, h2⟩ := run_call (P := P) hC ho hf ha hc
  unfold Oper.wp
  rw [h1, Oper.upon_enter]
  have hM : ∀ k, (M k ∧ m b ≠ .at_ k) → M k := fun k hk => hk.1
  have h3 : RAs (fun k => M k ∧ m b ≠ .at_ k) m w cargs us.toList := by
    rw [← hz]
    exact RAs.fz (fun _ _ => rfl) hM (own_data hC hb hrow hlen hv) _ _ h2
  have c0 : C W0 ⟨w, fun k => M k ∧ m b ≠ .at_ k, fun _ => .no, 0, []⟩ (fun k => M k ∧ m b ≠ .at_ k) (fun _ => .no) ⟨0, [], []⟩ nobody w := by
    have := hC.callee
    exact { this with eLt := fun k hk => this.eLt k hk.1, mLow := fun k hk => this.mLow k hk.1, mUp := fun k hk => hk, mNew := fun k hk => .inl hk, mLt := fun k hk => this.mLt k hk.1, mNo := this.mNo, mIn := fun b k hb => (by cases hb), oldv := this.oldv, oldr := this.oldr, box := fun b x hb => (by simp at hb), env := fun t x hx => (by simp [lk_nil] at hx) }
  refine (hcall _ (fun _ => .no) w us c0 (RAs.remap (p := fun _ => false) (fun b hb => by cases hb) _ _ hn h3)).mono ?_
  rintro e w' ⟨r, L', M', m', ⟨hR, rfl⟩, hres, hC'⟩
  have hC1 : C W0 ⟨w, M, fun _ => .no, 0, []⟩ (fun k => M' k ∨ m b = .at_ k) m' ⟨0, [], []⟩ nobody w' :=
    { hC' with
      eLt := hC.mLt
      mLow := fun k hk => hk.elim (hC'.mLow k) fun e => hC.mLow k (hC.mIn b k e)
      mUp := fun k hk => by
        by_cases e : m b = .at_ k
        · exact .inr e
        · exact .inl (hC'.mUp k ⟨hk, e⟩)
      mNew := fun k hk => hk.elim (fun x => (hC'.mNew k x).elim (fun y => .inl y.1) .inr) fun e => .inl (hC.mIn b k e)
      mLt := fun k hk => hk.elim (hC'.mLt k) fun e => Nat.lt_of_lt_of_le (hC.mLt k (hC.mIn b k e)) hC'.fr.size
      mNo := hC'.mNo
      mIn := fun b k hb => .inl (hC'.mIn b k hb)
      oldv := fun b cs hb => absurd hb (Nat.not_lt_zero _)
      oldr := fun b k hb => absurd hb (Nat.not_lt_zero _)
      box := fun b x hb => (by simp at hb)
      env := fun t x hx => (by simp [lk_nil] at hx) }
  have hC2 := hC.after hC1
  have one : ∀ (v : Value) (u : Value), RA M' m' w' (.d (.v v)) u → RA (fun k => M' k ∨ m b = .at_ k) m w' (.d (.v v)) u := fun v u hu => by
    simp only [RA] at hu ⊢
    cases hu with
    | v _ hx => exact .v _ hx
  obtain ⟨v, ⟨rfl, h5⟩ | ⟨rfl, h5⟩⟩ := h r hR
  · cases e with
    | returned u => exact hK _ _ (h5 E _ m _ _ hE (hC2.value (dOk_iff hd) (one v u hres)))
    | panicked c => exact hres.elim
    | outgrown => exact hres.elim
  · cases e with
    | returned u => exact hres.elim
    | panicked c =>
      obtain ⟨u, rfl, h3⟩ := hres
      exact ⟨_, m, st, .panic _, hC2, h5, u, rfl, one v u h3⟩
    | outgrown => exact hres.elim

/-- The same, short. -/
theorem wLO {fo : Operand} {args : Array Operand} {ts : Array TypeId} {f : FuncId} {caps xs cargs : List AV} {v : Value} {P : Program} {W0 : World} {n : Nat} {Q : Ax → St → Prop} {st : St} {ops : Array Oper} {o : Oper} {rest : List Oper} {gs : List (Option (Option Nat × Bool))} (b : Nat) {sz bt : Nat} {cs : List AV} (l : List (List D))
    (hcall : APure P W0 f cargs (· = .ret (.d (.v v)))) (h : run2 P W0 n ops Q rest gs (st.put o.dst (.d (.v v)))) (hrow : ∀ row ∈ l, row.length = sz) (hlen : cs.length = l.length * sz) (hv : ∀ (i : Nat) (x : AV) (d : D), cs[i]? = some x → l.flatten[i]? = some d → x = .d d ∨ d = .any ∧ x.one = true)
    (hb : st.bs[b]? = some (.own sz bt cs) := by rfl) (ho : o.op = .call ⟨.value fo, args, ts⟩ := by rfl) (hf : evo (lk st.env) fo = some (.fn f caps) := by rfl) (ha : evl (lk st.env) args.toList = some xs := by rfl) (hc : callable P f = true := by first | assumption | simp only [go_sem]) (hd : dOk st.N o.dst = true := by rfl)
    (hz : fzL b sz bt l (xs ++ caps) = cargs := by rfl) (hn : noNames cargs = true := by first | rfl | simp only [go_sem]) : AOpsG P W0 n ops (o :: rest) (none :: gs) Q st := fun hG => let ⟨hg, hG⟩ := gsl_none hG;
  A_lendO b hcall hb hrow hlen hv hg ho hf ha hc hd hz hn fun r hr => ⟨v, .inl ⟨hr, run2_ops h hG⟩⟩
/-- A function that was handed no box is done: all its rows become data. -/
theorem fin_all {st : St} {x x' : AV} (hn : noName x' = true) (hx : ∀ E M m a w u, C W0 E M m st a w → RA M m w x u → RA (fun k => M k ∧ ∀ b, m b ≠ .at_ k) (fun _ => .no) w x' u) : Fin W0 0 st x [] x' := by
  intro E M m a w u hE h hr
  refine ⟨fun k => M k ∧ ∀ b, m b ≠ .at_ k, fun _ => .no, { h.bare with eLt := h.eLt, mLow := fun k hk => h.mLow k hk.1, mUp := fun k hk => ⟨h.mUp k hk, fun b hb => ?_⟩, mNew := fun k hk => h.mNew k hk.1, mLt := fun k hk => h.mLt k hk.1, mNo := fun _ _ => rfl, mIn := fun b k hb => (by cases hb), inj := fun b b' k hb => (by cases hb), oldv := fun b cs hb => ?_, oldr := fun b k hb hk => (by cases hk), new := fun b k hb hk => (by cases hk), len := ?_, box := fun b x hb => (by simp at hb), env := fun t x hx => (by simp [lk_nil] at hx) }, hx E M m a w u h hr⟩
  · have h1 := h.new b k (by omega) hb
    have h2 := h.eLt k hk
    omega
  · omega
  · simp [hE]
end
end Go.Proofs.YtfbegbpipmgfiaaDoor.Lift
end
section
/- pdata: groups that are being made: a row of one's own, and one for the items of each. No conditions: words and their laws. -/
set_option linter.unusedVariables false
set_option linter.unusedSimpArgs false
set_option maxHeartbeats 4000000
set_option maxRecDepth 100000
set_option linter.unnecessarySimpa false
namespace Go.Proofs.YtfbegbpipmgfiaaDoor.Lift
open Go Go.RowKit

/-- The cells of groups whose items lie in boxes from a place on. -/
def grC : Nat → List Gr → List AV
  | _, [] => []
  | b, g :: gs => (ghD g).map .d ++ (.sl b 34 0 g.items.length :: grC (b + 1) gs)
def itB (g : Gr) : Box := .vec 34 416 (g.items.map itD)
def emB : Box := .vec 34 416 []
def slots (K : Nat) (gs : List Gr) : List Box := gs.map itB ++ List.replicate (K - gs.length) emB
theorem slots_len {K : Nat} {gs : List Gr} (h : gs.length ≤ K) : (slots K gs).length = K := by simp [slots]; omega
theorem slots_at {K : Nat} {gs : List Gr} {i : Nat} {g : Gr} (h : gs[i]? = some g) : (slots K gs)[i]? = some (itB g) := by
  have hlt := (List.getElem?_eq_some_iff.1 h).1
  rw [slots, List.getElem?_append_left (by simpa using hlt), List.getElem?_map, h]
  rfl
theorem slots_free {K : Nat} {gs : List Gr} (h : gs.length < K) : (slots K gs)[gs.length]? = some emB := by
  rw [slots, List.getElem?_append_right (by simp), List.length_map, Nat.sub_self, List.getElem?_replicate, if_pos (by omega)]
theorem slots_set {K : Nat} {gs : List Gr} {i : Nat} {g : Gr} (h : i < gs.length) : (slots K gs).set i (itB g) = slots K (gs.set i g) := by
  rw [slots, List.set_append_left _ _ (by simpa using h), ← List.map_set, slots, List.length_set]
theorem slots_push {K : Nat} {gs : List Gr} {g : Gr} (h : gs.length < K) (hg : g.items = []) : slots K (gs ++ [g]) = slots K gs := by
  have e : itB g = emB := by simp [itB, emB, hg]
  obtain ⟨k, hk⟩ : ∃ k, K - gs.length = k + 1 := ⟨K - gs.length - 1, by omega⟩
  simp only [slots, List.map_append, List.map_cons, List.map_nil, List.length_append, List.length_cons, List.length_nil, e, hk, List.replicate_succ, List.append_assoc, List.cons_append, List.nil_append]
  rw [show K - (gs.length + (0 + 1)) = k by omega]
theorem slots_vec {K : Nat} {gs : List Gr} {x : Box} (h : x ∈ slots K gs) : ∃ l, x = .vec 34 416 l := by
  rcases List.mem_append.1 h with h | h
  · obtain ⟨g, _, rfl⟩ := List.mem_map.1 h
    exact ⟨_, rfl⟩
  · exact ⟨[], (List.mem_replicate.1 h).2⟩
theorem slots_map {K : Nat} {gs : List Gr} (f : Box → Box) (hf : ∀ l, f (.vec 34 416 l) = .vec 34 416 l) : (slots K gs).map f = slots K gs := by
  refine (List.map_congr_left fun x hx => ?_).trans (List.map_id _)
  obtain ⟨l, rfl⟩ := slots_vec hx
  exact hf l
theorem slots_all {K : Nat} {gs : List Gr} (f : Box → Bool) (hf : ∀ l, f (.vec 34 416 l) = true) : (slots K gs).all f = true := List.all_eq_true.2 fun x hx => by
  obtain ⟨l, rfl⟩ := slots_vec hx
  exact hf l
theorem grC_len : ∀ (b : Nat) (gs : List Gr), (grC b gs).length = gs.length * 5
  | _, [] => rfl
  | b, g :: gs => by
    simp only [grC, ghD, List.map_cons, List.map_nil, List.cons_append, List.nil_append, List.length_cons, grC_len (b + 1) gs]
    omega
theorem grC_app : ∀ (b : Nat) (gs : List Gr) (g : Gr), grC b (gs ++ [g]) = grC b gs ++ ((ghD g).map .d ++ [.sl (b + gs.length) 34 0 g.items.length])
  | b, [], g => by simp [grC]
  | b, x :: gs, g => by
    simp only [List.cons_append, grC, grC_app (b + 1) gs g, List.append_assoc, List.length_cons]
    rw [show b + 1 + gs.length = b + (gs.length + 1) by omega]
theorem grC_drop : ∀ (b : Nat) (gs : List Gr) (i : Nat), (grC b gs).drop (i * 5) = grC (b + i) (gs.drop i)
  | b, gs, 0 => by simp
  | b, [], i + 1 => by simp [grC]
  | b, g :: gs, i + 1 => by
    rw [show (i + 1) * 5 = i * 5 + 5 by omega, ← List.drop_drop, List.drop_succ_cons, show b + (i + 1) = b + 1 + i by omega, ← grC_drop (b + 1) gs i]
    rw [List.drop_drop, Nat.add_comm, ← List.drop_drop]
    rfl
theorem grC_at {b : Nat} {gs : List Gr} {i : Nat} {g : Gr} (h : gs[i]? = some g) : ((grC b gs).drop (i * 5)).take 5 = (ghD g).map .d ++ [.sl (b + i) 34 0 g.items.length] := by
  obtain ⟨hlt, rfl⟩ := List.getElem?_eq_some_iff.1 h
  rw [grC_drop, List.drop_eq_getElem_cons hlt]
  rfl
theorem grC_kill {c : Nat} : ∀ {b : Nat} {gs : List Gr}, (∀ i, i < gs.length → b + i ≠ c) → killL c (grC b gs) = grC b gs
  | b, [], _ => rfl
  | b, g :: gs, h => by
    simp only [grC, killL_append, killL_d, killL, killA]
    rw [if_neg (by simpa using h 0 (by simp)), grC_kill fun i hi => by have := h (i + 1) (by simpa using hi); omega]
theorem grC_names {p : Nat → Bool} : ∀ {b : Nat} {gs : List Gr}, (∀ i, i < gs.length → p (b + i) = true) → namesAll p (grC b gs) = true
  | b, [], _ => rfl
  | b, g :: gs, h => by
    have e : ∀ (l l' : List AV), namesAll p (l ++ l') = (namesAll p l && namesAll p l') := by
      intro l l'
      induction l with
      | nil => simp [namesAll]
      | cons x l ih => simp [namesAll, ih, Bool.and_assoc]
    simp only [grC, e, names_ds, namesAll, AV.names, Bool.true_and, Bool.and_eq_true]
    exact ⟨by simpa using h 0 (by simp), grC_names fun i hi => by have := h (i + 1) (by simpa using hi); rwa [show b + 1 + i = b + (i + 1) by omega]⟩
theorem grC_ren {σ : Nat → Nat} {c : Nat} : ∀ {b : Nat} {gs : List Gr}, (∀ i, i < gs.length → σ (b + i) = c + i) → renL σ (grC b gs) = grC c gs
  | b, [], _ => rfl
  | b, g :: gs, h => by
    have e : ∀ (l l' : List AV), renL σ (l ++ l') = renL σ l ++ renL σ l' := by
      intro l l'
      induction l with
      | nil => rfl
      | cons x l ih => simp [renL, ih]
    have h0 : σ b = c := by simpa using h 0 (by simp)
    simp only [grC, e, renL_ds, renL, renA, h0]
    rw [grC_ren (c := c + 1) fun i hi => by have := h (i + 1) (by simpa using hi); rw [show b + 1 + i = b + (i + 1) by omega, this]; omega]
/-- An item's row has grown. -/
theorem grC_over {i : Nat} {g' : Gr} : ∀ {b : Nat} {gs : List Gr} {g : Gr}, gs[i]? = some g → ghD g' = ghD g → over (killL (b + i) (grC b gs)) (i * 5 + 4) [.sl (b + i) 34 0 g'.items.length] = grC b (gs.set i g') := by
  induction i with
  | zero =>
    intro b gs g h hh
    cases gs with
    | nil => simp at h
    | cons x gs =>
      cases h
      simp only [Nat.add_zero, grC, killL_append, killL_d, killL, killA, if_true, List.set_cons_zero]
      rw [grC_kill (by intro i _; omega), hh]
      simp [over, ghD]
  | succ i ih =>
    intro b gs g h hh
    cases gs with
    | nil => simp at h
    | cons x gs =>
      have h1 := ih (b := b + 1) (gs := gs) (g := g) (by simpa using h) hh
      simp only [grC, killL_append, killL_d, killL, killA, List.set_cons_succ]
      rw [if_neg (by omega), show b + (i + 1) = b + 1 + i by omega, ← h1]
      simp only [over, ghD, List.map_cons, List.map_nil, List.cons_append, List.nil_append, List.length_cons, List.length_nil]
      rw [show (i + 1) * 5 + 4 = i * 5 + 4 + 5 by omega, show i * 5 + 4 + 5 + (0 + 1) = i * 5 + 4 + (0 + 1) + 5 by omega]
      simp only [List.take_succ_cons, List.drop_succ_cons, List.cons_append, show i * 5 + 4 + (0 + 1) = i * 5 + 5 by omega]
theorem grC_flat : ∀ {b : Nat} {gs : List Gr} {i : Nat} {x : AV} {d : D}, (grC b gs)[i]? = some x → (gs.map grD).flatten[i]? = some d → x = .d d ∨ ∃ q g, gs[q]? = some g ∧ x = .sl (b + q) 34 0 g.items.length ∧ d = .rows 34 416 (g.items.map itD)
  | b, [], i, x, d, h, _ => by simp [grC] at h
  | b, g :: gs, i, x, d, h, h' => by
    have e1 : grC b (g :: gs) = ((ghD g).map .d ++ [.sl b 34 0 g.items.length]) ++ grC (b + 1) gs := by simp [grC]
    have e2 : ((g :: gs).map grD).flatten = grD g ++ (gs.map grD).flatten := by simp
    rw [e1] at h
    rw [e2] at h'
    by_cases hi : i < 5
    · rw [List.getElem?_append_left (by simp [ghD]; omega)] at h
      rw [List.getElem?_append_left (by rw [grD_len]; omega)] at h'
      match i, hi with
      | 0, _ => simp [ghD, grD] at h h'; left; rw [← h, ← h']
      | 1, _ => simp [ghD, grD] at h h'; left; rw [← h, ← h']
      | 2, _ => simp [ghD, grD] at h h'; left; rw [← h, ← h']
      | 3, _ => simp [ghD, grD] at h h'; left; rw [← h, ← h']
      | 4, _ =>
        simp [ghD, grD] at h h'
        exact .inr ⟨0, g, rfl, h.symm, h'.symm⟩
    · rw [List.getElem?_append_right (by simp [ghD]; omega)] at h
      rw [List.getElem?_append_right (by rw [grD_len]; omega)] at h'
      have hl : ((ghD g).map AV.d ++ [AV.sl b 34 0 g.items.length]).length = 5 := by simp [ghD]
      rw [hl] at h
      rw [grD_len] at h'
      rcases grC_flat h h' with h1 | ⟨q, g', h1, h2, h3⟩
      · exact .inl h1
      · exact .inr ⟨q + 1, g', by simpa using h1, by rw [h2, show b + 1 + q = b + (q + 1) by omega], h3⟩
section
variable {P : Program} {W0 : World} {n : Nat}
/-- Groups of one's own are data. -/
theorem tree_data {E : En} {M : Nat → Prop} {m : Nat → Pl} {st : St} {a : Act} {w : World} (h : C W0 E M m st a w) {G base k : Nat} {gs : List Gr} {u : Value} (hG : st.bs[G]? = some (.own 5 104 (grC base gs))) (hI : ∀ (i : Nat) (g : Gr), gs[i]? = some g → st.bs[base + i]? = some (itB g)) (hk : k = gs.length) (hr : RA M m w (.sl G 5 0 k) u) :
    RD (fun k => M k ∧ ∀ b, m b ≠ .at_ k) w (.rows 5 104 (gs.map grD)) u := by
  subst hk
  have h1 := own_dataG (M' := fun k => M k ∧ ∀ b, m b ≠ .at_ k) (l := gs.map grD) h hG (by intro row hrow; obtain ⟨g, _, rfl⟩ := List.mem_map.1 hrow; rfl) (by rw [grC_len, List.length_map]) (fun k hk hM => hM.2 G hk) (fun i x d v hx hd hv => by
    rcases grC_flat hx hd with rfl | ⟨q, g, hq, rfl, rfl⟩
    · simp only [RA] at hv
      exact hv.mono (Fr.refl (fun _ => False) w) (fun _ _ x => x.elim) (fun k _ hk => hk.1)
    · have h2 := vec_data h (hI q g hq) 0 g.items.length v (by simp) hv
      rw [List.drop_zero, take_map] at h2
      exact h2.mono (Fr.refl (fun _ => False) w) (fun _ _ x => x.elim) (fun k _ hk => ⟨hk.1, hk.2 _⟩)) 0 gs.length u (by simp) hr
  rw [List.drop_zero, take_map] at h1
  exact h1
/-- More places. -/
theorem Sb.addV {st : St} (sz bt : Nat) (hsz : 0 < sz) (hbt : 0 < bt) : Sb W0 n st ⟨st.N, st.env, st.bs ++ [.vec sz bt []]⟩ := by
  intro E M m a w hn hC
  have hg : ∀ b, m b ≠ .no → mAdd m st.bs.length .virt b = m b := fun b hb => by
    unfold mAdd
    rw [if_neg]
    intro e
    exact hb (hC.mNo b (by omega))
  have at_ : ∀ b k, mAdd m st.bs.length .virt b = .at_ k → m b = .at_ k := fun b k hb => by
    unfold mAdd at hb
    split at hb
    · cases hb
    · exact hb
  refine ⟨M, mAdd m st.bs.length .virt, { hC with mNo := ?_, mIn := fun b k hb => hC.mIn b k (at_ b k hb), inj := fun b b' k hb hb' => hC.inj b b' k (at_ b k hb) (at_ b' k hb'), oldv := ?_, oldr := fun b k hb hk => hC.oldr b k hb (at_ b k hk), new := fun b k hb hk => hC.new b k hb (at_ b k hk), len := ?_, box := ?_, env := ?_ }⟩
  · intro b hb
    simp at hb
    unfold mAdd
    rw [if_neg (by omega)]
    exact hC.mNo b (by omega)
  · intro b cs hb hc
    have := hC.len
    simp only at hc
    rw [List.getElem?_append_left (by omega)] at hc
    rw [← hC.oldv b cs hb hc]
    unfold mAdd
    rw [if_neg (by omega)]
  · have := hC.len
    simp
    omega
  · intro b y hb
    by_cases hlt : b < st.bs.length
    · simp only at hb
      rw [List.getElem?_append_left hlt] at hb
      exact (hC.box b y hb).grow hg
    · have hbe : b = st.bs.length := by
        have := (List.getElem?_eq_some_iff.1 hb).1
        simp at this
        omega
      subst hbe
      simp at hb
      subst hb
      exact ⟨hsz, hbt, by simp, .inl ⟨if_pos rfl, rfl⟩⟩
  · intro t' y hy
    exact RA.grow hg (hC.env t' y hy)
theorem Sb.addVs {N : Nat} {env : List (List (Option AV))} {bs : List Box} : ∀ K : Nat, Sb W0 n ⟨N, env, bs⟩ ⟨N, env, bs ++ List.replicate K emB⟩
  | 0 => by simpa using Sb.refl _
  | K + 1 => by
    rw [List.replicate_succ', ← List.append_assoc]
    exact (Sb.addVs K).trans (Sb.addV (st := ⟨N, env, bs ++ List.replicate K emB⟩) 34 416 (by decide) (by decide))
end
end Go.Proofs.YtfbegbpipmgfiaaDoor.Lift
end
section
/- pdata: chosen: the items of data that are asked for. No conditions but that there are no more than may be. -/
set_option linter.unusedVariables false
set_option linter.unusedSimpArgs false
set_option maxHeartbeats 4000000
set_option maxRecDepth 100000
namespace Go.Proofs.YtfbegbpipmgfiaaDoor.Lift
open Go Go.RowKit

/-- Groups so far, and which one was the last. -/
structure CS where
  out : List Gr
  last : Int
def addI (g : Gr) (x : It) : Gr := { g with items := g.items ++ [x] }
def pushI (out : List Gr) (x : It) : List Gr := match out[out.length - 1]? with
  | some g => out.set (out.length - 1) (addI g x)
  | none => out
def stepC (p : Nat → Bool) (gs : List Gr) (s : CS) (n i : Nat) (x : It) : CS :=
  if p n = true then (if (i : Int) = s.last then ⟨pushI s.out (ownedI x), s.last⟩ else ⟨pushI (s.out ++ [ownedG (gs[i]?.getD ⟨[], ByteArray.empty, ByteArray.empty, [], []⟩)]) (ownedI x), i⟩) else s
def flI (gs : List Gr) : List (Nat × It) := (gs.zipIdx).flatMap fun g => g.1.items.map fun x => (g.2, x)
def runC (p : Nat → Bool) (gs : List Gr) : Nat → CS
  | 0 => ⟨[], -1⟩
  | n + 1 => match (flI gs)[n]? with
    | some (i, x) => stepC p gs (runC p gs n) n i x
    | none => runC p gs n
theorem nIt_cons (g : Gr) (gs : List Gr) : nIt (g :: gs) = g.items.length + nIt gs := by simp [nIt]
theorem flI_at {gs : List Gr} {i j : Nat} (h : i < gs.length) (h2 : j < (gs[i].items).length) : (flI gs)[nIt (gs.take i) + j]? = some (i, gs[i].items[j]) := by
  have key : ∀ (gs : List Gr) (k i j : Nat) (h : i < gs.length) (h2 : j < (gs[i].items).length), ((gs.zipIdx k).flatMap fun g => g.1.items.map fun x => (g.2, x))[nIt (gs.take i) + j]? = some (k + i, gs[i].items[j]) := by
    intro gs
    induction gs with
    | nil => intro k i j h; simp at h
    | cons g gs ih =>
      intro k i j h h2
      rw [List.zipIdx_cons, List.flatMap_cons]
      cases i with
      | zero =>
        simp only [List.take_zero, nIt, List.map_nil, List.sum_nil, Nat.zero_add, List.getElem_cons_zero] at h2 ⊢
        rw [List.getElem?_append_left (by simpa using h2), List.getElem?_map, List.getElem?_eq_getElem h2]
        rfl
      | succ i =>
        simp only [List.take_succ_cons, nIt_cons, List.getElem_cons_succ] at h2 ⊢
        rw [List.getElem?_append_right (by simp; omega), List.length_map, show g.items.length + nIt (gs.take i) + j - g.items.length = nIt (gs.take i) + j by omega]
        rw [ih (k + 1) i j (by simpa using h) h2, show k + 1 + i = k + (i + 1) by omega]
  have := key gs 0 i j h h2
  rwa [Nat.zero_add] at this
structure InvC (s : CS) (n : Nat) : Prop where
  many : s.out.length ≤ n
  long : ∀ g ∈ s.out, g.items.length ≤ n
  none_ : s.out = [] → s.last < 0
theorem pushI_some {out : List Gr} {g : Gr} {x : It} (h : out[out.length - 1]? = some g) : pushI out x = out.set (out.length - 1) (addI g x) := by
  simp only [pushI, h]
theorem last_some {out : List Gr} (h : out ≠ []) : ∃ g, out[out.length - 1]? = some g ∧ out.length - 1 < out.length := by
  have : 0 < out.length := List.length_pos_iff.2 h
  exact ⟨out[out.length - 1], List.getElem?_eq_getElem (by omega), by omega⟩
theorem InvC.push {out : List Gr} {n : Nat} {x : It} (hl : ∀ g ∈ out, g.items.length ≤ n) : ∀ g ∈ pushI out x, g.items.length ≤ n + 1 := by
  intro g hg
  unfold pushI at hg
  split at hg
  · rename_i g0 h0
    rcases List.mem_or_eq_of_mem_set hg with h | h
    · exact Nat.le_succ_of_le (hl g h)
    · subst h
      have := hl g0 (List.mem_of_getElem? h0)
      simp [addI]
      omega
  · exact Nat.le_succ_of_le (hl g hg)
theorem pushI_len (out : List Gr) (x : It) : (pushI out x).length = out.length := by
  unfold pushI
  split
  · rw [List.length_set]
  · rfl
theorem InvC.step {p : Nat → Bool} {gs : List Gr} {s : CS} {n i : Nat} {x : It} (h : InvC s n) : InvC (stepC p gs s n i x) (n + 1) := by
  unfold stepC
  split
  · split
    · rename_i hi
      refine ⟨by rw [pushI_len]; have := h.many; omega, InvC.push h.long, fun e => ?_⟩
      have : s.out = [] := List.eq_nil_of_length_eq_zero (by rw [← pushI_len s.out (ownedI x)]; exact congrArg List.length e)
      exact h.none_ this
    · refine ⟨by rw [pushI_len]; have := h.many; simp; omega, InvC.push fun g hg => ?_, fun e => ?_⟩
      · rcases List.mem_append.1 hg with hg | hg
        · exact h.long g hg
        · rw [List.mem_singleton] at hg
          subst hg
          simp [ownedG]
      · have : (s.out ++ [ownedG (gs[i]?.getD ⟨[], ByteArray.empty, ByteArray.empty, [], []⟩)]).length = 0 := by rw [← pushI_len _ (ownedI x)]; exact congrArg List.length e
        simp at this
  · exact ⟨by have := h.many; omega, fun g hg => by have := h.long g hg; omega, h.none_⟩
theorem runC_inv (p : Nat → Bool) (gs : List Gr) : ∀ n, InvC (runC p gs n) n
  | 0 => ⟨Nat.le_refl _, fun g hg => (by cases hg), fun _ => (by decide : (-1 : Int) < 0)⟩
  | n + 1 => by
    have ih := runC_inv p gs n
    unfold runC
    split
    · exact ih.step
    · exact ⟨by have := ih.many; omega, fun g hg => by have := ih.long g hg; omega, ih.none_⟩
/-- What the loop turns. -/
def chS (K sig : Nat) (is : AV) (s : CS) (n : Nat) : List Box :=
  .var [is] :: .var [.d (.v (.int .u8 sig)), .sl 4 5 0 s.out.length] :: .var [.d (.v (.int .i64 n))] :: .var [.d (.v (.int .i64 s.last))] :: .own 5 104 (grC 5 s.out) :: slots K s.out
theorem chS_len {K sig : Nat} {is : AV} {s : CS} {n : Nat} (h : s.out.length ≤ K) : (chS K sig is s n).length = K + 5 := by simp [chS, slots_len h]
end Go.Proofs.YtfbegbpipmgfiaaDoor.Lift
end
