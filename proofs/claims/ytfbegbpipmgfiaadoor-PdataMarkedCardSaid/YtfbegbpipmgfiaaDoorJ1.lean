/- Joined from Lfk, Lfl, Lfm, Lfn, Lfo, Lfp, Lfq, Lfr, Lfs, Lf0, Lft, Lfu, Lfv, Lfx, Lfz, Lga, Lt. No conditions. -/
import Derived.Test.YtfbegbpipmgfiaaDoorJ0
import Derived.Deep.AppendSrc
import Derived.Lib.ConvBytes
import Derived.Laws.BytesArg
import Derived.Laws.MakeOwn
import Derived.RangeFuncNested
import Derived.Test.YtfbegbpipmgfiaaDoorProg
section
/- The lift, eleventh part: a call that is handed boxes. No conditions: words and their laws. -/
set_option linter.unusedVariables false
set_option linter.unusedSimpArgs false
namespace Go.Proofs.YtfbegbpipmgfiaaDoor.Lift
open Go Go.RowKit

section
variable {P : Program} {W0 : World} {n : Nat}

mutual
/-- Boxes by other numbers. -/
def renA (σ : Nat → Nat) : AV → AV
  | .ptr b j => .ptr (σ b) j
  | .ep b sz i j => .ep (σ b) sz i j
  | .sl b sz lo n => .sl (σ b) sz lo n
  | .fn f l => .fn f (renL σ l)
  | .yd r ts l => .yd r ts (renL σ l)
  | .agg l => .agg (renL σ l)
  | .tup l => .tup (renL σ l)
  | .opt g x => .opt g (renA σ x)
  | .mref b => .mref (σ b)
  | x => x
def renL (σ : Nat → Nat) : List AV → List AV
  | [] => []
  | x :: l => renA σ x :: renL σ l
end
def renB (σ : Nat → Nat) : Box → Box
  | .var cs => .var (renL σ cs)
  | .own sz bt cs => .own sz bt (renL σ cs)
  | x => x
theorem renL_len (σ : Nat → Nat) : ∀ l : List AV, (renL σ l).length = l.length
  | [] => rfl
  | x :: l => by simp only [renL, List.length_cons, renL_len σ l]
mutual
theorem RA.ren {M : Nat → Prop} {m m' : Nat → Pl} {w : World} {σ : Nat → Nat} (hm : ∀ b, m (σ b) ≠ .no → m' b = m (σ b)) : ∀ (x : AV) (u : Value), RA M m w (renA σ x) u → RA M m' w x u
  | .d x, u, h => by simpa only [renA, RA] using h
  | .dp ds, u, h => by simpa only [renA, RA] using h
  | .ptr b j, u, h => by
    simp only [renA, RA] at h ⊢
    obtain ⟨k, h1, h2⟩ := h
    exact ⟨k, (hm b (by simp [h1])).trans h1, h2⟩
  | .ep b sz i j, u, h => by
    simp only [renA, RA] at h ⊢
    obtain ⟨k, h1, h2⟩ := h
    exact ⟨k, (hm b (by simp [h1])).trans h1, h2⟩
  | .sl b sz lo n, u, h => by
    simp only [renA, RA] at h ⊢
    rcases h with ⟨h1, h2, h3, h4⟩ | ⟨k, cap, C, T, h1, h2⟩
    · exact .inl ⟨h1, h2, (hm b (by simp [h3])).trans h3, h4⟩
    · exact .inr ⟨k, cap, C, T, (hm b (by simp [h1])).trans h1, h2⟩
  | .fn f l, u, h => by
    simp only [renA, RA] at h ⊢
    obtain ⟨us, h1, h2⟩ := h
    exact ⟨us, h1, RAs.ren hm _ _ h2⟩
  | .yd r ts l, u, h => by
    simp only [renA, RA] at h ⊢
    obtain ⟨k, h1, g1, g2, h2⟩ := h
    exact ⟨k, h1, g1, g2, RAs.ren hm _ _ h2⟩
  | .agg l, u, h => by
    simp only [renA, RA] at h ⊢
    obtain ⟨us, h1, h2⟩ := h
    exact ⟨us, h1, RAs.ren hm _ _ h2⟩
  | .tup l, u, h => by
    simp only [renA, RA] at h ⊢
    obtain ⟨us, h1, h2⟩ := h
    exact ⟨us, h1, RAs.ren hm _ _ h2⟩
  | .opt g x, u, h => by
    simp only [renA, RA] at h ⊢
    exact ⟨fun hg => RA.ren hm x u (h.1 hg), h.2⟩
  | .mref b, u, h => by
    simp only [renA, RA] at h ⊢
    obtain ⟨k, h1, h2⟩ := h
    exact ⟨k, (hm b (by simp [h1])).trans h1, h2⟩
  | .junk, u, h => by simp only [RA]
theorem RAs.ren {M : Nat → Prop} {m m' : Nat → Pl} {w : World} {σ : Nat → Nat} (hm : ∀ b, m (σ b) ≠ .no → m' b = m (σ b)) : ∀ (l : List AV) (us : List Value), RAs M m w (renL σ l) us → RAs M m' w l us
  | [], [], h => by simp only [RAs]
  | x :: l, u :: us, h => by
    simp only [renL, RAs] at h ⊢
    exact ⟨RA.ren hm x u h.1, RAs.ren hm l us h.2⟩
  | [], _ :: _, h => by simp only [renL, RAs] at h
  | _ :: _, [], h => by simp only [renL, RAs] at h
end
mutual
theorem RA.back {M : Nat → Prop} {m m' : Nat → Pl} {w : World} {σ : Nat → Nat} (hm : ∀ b, m' b ≠ .no → m (σ b) = m' b) : ∀ (x : AV) (u : Value), RA M m' w x u → RA M m w (renA σ x) u
  | .d x, u, h => by simpa only [renA, RA] using h
  | .dp ds, u, h => by simpa only [renA, RA] using h
  | .ptr b j, u, h => by
    simp only [renA, RA] at h ⊢
    obtain ⟨k, h1, h2⟩ := h
    exact ⟨k, (hm b (by simp [h1])).trans h1, h2⟩
  | .ep b sz i j, u, h => by
    simp only [renA, RA] at h ⊢
    obtain ⟨k, h1, h2⟩ := h
    exact ⟨k, (hm b (by simp [h1])).trans h1, h2⟩
  | .sl b sz lo n, u, h => by
    simp only [renA, RA] at h ⊢
    rcases h with ⟨h1, h2, h3, h4⟩ | ⟨k, cap, C, T, h1, h2⟩
    · exact .inl ⟨h1, h2, (hm b (by simp [h3])).trans h3, h4⟩
    · exact .inr ⟨k, cap, C, T, (hm b (by simp [h1])).trans h1, h2⟩
  | .fn f l, u, h => by
    simp only [renA, RA] at h ⊢
    obtain ⟨us, h1, h2⟩ := h
    exact ⟨us, h1, RAs.back hm _ _ h2⟩
  | .yd r ts l, u, h => by
    simp only [renA, RA] at h ⊢
    obtain ⟨k, h1, g1, g2, h2⟩ := h
    exact ⟨k, h1, g1, g2, RAs.back hm _ _ h2⟩
  | .agg l, u, h => by
    simp only [renA, RA] at h ⊢
    obtain ⟨us, h1, h2⟩ := h
    exact ⟨us, h1, RAs.back hm _ _ h2⟩
  | .tup l, u, h => by
    simp only [renA, RA] at h ⊢
    obtain ⟨us, h1, h2⟩ := h
    exact ⟨us, h1, RAs.back hm _ _ h2⟩
  | .opt g x, u, h => by
    simp only [renA, RA] at h ⊢
    exact ⟨fun hg => RA.back hm x u (h.1 hg), h.2⟩
  | .mref b, u, h => by
    simp only [renA, RA] at h ⊢
    obtain ⟨k, h1, h2⟩ := h
    exact ⟨k, (hm b (by simp [h1])).trans h1, h2⟩
  | .junk, u, h => by simp only [renA, RA]
theorem RAs.back {M : Nat → Prop} {m m' : Nat → Pl} {w : World} {σ : Nat → Nat} (hm : ∀ b, m' b ≠ .no → m (σ b) = m' b) : ∀ (l : List AV) (us : List Value), RAs M m' w l us → RAs M m w (renL σ l) us
  | [], [], h => by simp only [renL, RAs]
  | x :: l, u :: us, h => by
    simp only [renL, RAs] at h ⊢
    exact ⟨RA.back hm x u h.1, RAs.back hm l us h.2⟩
  | [], _ :: _, h => by simp only [RAs] at h
  | _ :: _, [], h => by simp only [RAs] at h
end

mutual
/-- Some boxes are no more what they were. -/
def killP (p : Nat → Bool) : AV → AV
  | .ptr b j => if p b = true then .junk else .ptr b j
  | .ep b sz i j => if p b = true then .junk else .ep b sz i j
  | .sl b sz lo n => if p b = true then .junk else .sl b sz lo n
  | .fn f l => .fn f (killPL p l)
  | .yd r ts l => .yd r ts (killPL p l)
  | .agg l => .agg (killPL p l)
  | .tup l => .tup (killPL p l)
  | .opt g x => .opt g (killP p x)
  | .mref b => if p b = true then .junk else .mref b
  | x => x
def killPL (p : Nat → Bool) : List AV → List AV
  | [] => []
  | x :: l => killP p x :: killPL p l
end
mutual
theorem RA.killP {M : Nat → Prop} {m m' : Nat → Pl} {w : World} {p : Nat → Bool} (hm : ∀ b, p b ≠ true → m b ≠ .no → m' b = m b) : ∀ (x : AV) (u : Value), RA M m w x u → RA M m' w (Lift.killP p x) u
  | .d x, u, h => by simpa only [Lift.killP, RA] using h
  | .dp ds, u, h => by simpa only [Lift.killP, RA] using h
  | .ptr b j, u, h => by
    simp only [Lift.killP]
    split
    · simp only [RA]
    · rename_i e
      simp only [RA] at h ⊢
      obtain ⟨k, h1, h2⟩ := h
      exact ⟨k, (hm b e (by simp [h1])).trans h1, h2⟩
  | .ep b sz i j, u, h => by
    simp only [Lift.killP]
    split
    · simp only [RA]
    · rename_i e
      simp only [RA] at h ⊢
      obtain ⟨k, h1, h2⟩ := h
      exact ⟨k, (hm b e (by simp [h1])).trans h1, h2⟩
  | .sl b sz lo n, u, h => by
    simp only [Lift.killP]
    split
    · simp only [RA]
    · rename_i e
      simp only [RA] at h ⊢
      rcases h with ⟨h1, h2, h3, h4⟩ | ⟨k, cap, C, T, h1, h2⟩
      · exact .inl ⟨h1, h2, (hm b e (by simp [h3])).trans h3, h4⟩
      · exact .inr ⟨k, cap, C, T, (hm b e (by simp [h1])).trans h1, h2⟩
  | .fn f l, u, h => by
    simp only [Lift.killP, RA] at h ⊢
    obtain ⟨us, h1, h2⟩ := h
    exact ⟨us, h1, RAs.killP hm _ _ h2⟩
  | .yd r ts l, u, h => by
    simp only [Lift.killP, RA] at h ⊢
    obtain ⟨k, h1, g1, g2, h2⟩ := h
    exact ⟨k, h1, g1, g2, RAs.killP hm _ _ h2⟩
  | .agg l, u, h => by
    simp only [Lift.killP, RA] at h ⊢
    obtain ⟨us, h1, h2⟩ := h
    exact ⟨us, h1, RAs.killP hm _ _ h2⟩
  | .tup l, u, h => by
    simp only [Lift.killP, RA] at h ⊢
    obtain ⟨us, h1, h2⟩ := h
    exact ⟨us, h1, RAs.killP hm _ _ h2⟩
  | .opt g x, u, h => by
    simp only [Lift.killP, RA] at h ⊢
    exact ⟨fun hg => RA.killP hm x u (h.1 hg), h.2⟩
  | .mref b, u, h => by
    simp only [Lift.killP]
    split
    · simp only [RA]
    · rename_i e
      simp only [RA] at h ⊢
      obtain ⟨k, h1, h2⟩ := h
      exact ⟨k, (hm b e (by simp [h1])).trans h1, h2⟩
  | .junk, u, h => by simp only [Lift.killP, RA]
theorem RAs.killP {M : Nat → Prop} {m m' : Nat → Pl} {w : World} {p : Nat → Bool} (hm : ∀ b, p b ≠ true → m b ≠ .no → m' b = m b) : ∀ (l : List AV) (us : List Value), RAs M m w l us → RAs M m' w (killPL p l) us
  | [], [], h => by simp only [killPL, RAs]
  | x :: l, u :: us, h => by
    simp only [killPL, RAs] at h ⊢
    exact ⟨RA.killP hm x u h.1, RAs.killP hm l us h.2⟩
  | [], _ :: _, h => by simp only [RAs] at h
  | _ :: _, [], h => by simp only [RAs] at h
end
def killPE (p : Nat → Bool) (e : List (List (Option AV))) : List (List (Option AV)) := mapE (killP p) e
def killPB (p : Nat → Bool) : Box → Box
  | .var cs => .var (killPL p cs)
  | .own sz bt cs => .own sz bt (killPL p cs)
  | x => x
theorem killPL_len (p : Nat → Bool) : ∀ l : List AV, (killPL p l).length = l.length
  | [] => rfl
  | x :: l => by simp only [killPL, List.length_cons, killPL_len p l]
theorem lk_killPE {p : Nat → Bool} {l : List (List (Option AV))} {t : Nat} {x : AV} (h : lk (killPE p l) t = some x) : ∃ y, lk l t = some y ∧ x = killP p y := by
  rw [killPE, lk_mapE, Option.map_eq_some_iff] at h
  obtain ⟨y, h1, h2⟩ := h
  exact ⟨y, h1, h2.symm⟩

/-- The callee's numbers as the caller's: first those that it was handed, then new ones. -/
def sg (sel : List Nat) (k i : Nat) : Nat := match sel[i]? with | some b => b | none => k + (i - sel.length)
def setAll (bs : List Box) : List Nat → List Box → List Box
  | b :: sel, x :: L => setAll (bs.set b x) sel L
  | _, _ => bs
theorem setAll_len : ∀ (sel : List Nat) (L bs : List Box), (setAll bs sel L).length = bs.length
  | [], _, _ => by simp [setAll]
  | _ :: _, [], _ => by simp [setAll]
  | b :: sel, x :: L, bs => by simp [setAll, setAll_len sel L]
theorem setAll_get : ∀ (sel : List Nat) (L bs : List Box) (b : Nat), sel.Nodup → (∀ b ∈ sel, b < bs.length) → sel.length ≤ L.length →
    (∀ i : Nat, sel[i]? = some b → (setAll bs sel L)[b]? = L[i]?) ∧ (b ∉ sel → (setAll bs sel L)[b]? = bs[b]?)
  | [], L, bs, b, _, _, _ => ⟨fun i h => by simp at h, fun _ => by simp [setAll]⟩
  | c :: sel, [], bs, b, _, _, h => by simp at h
  | c :: sel, x :: L, bs, b, hn, hlt, hl => by
    simp only [List.nodup_cons] at hn
    obtain ⟨h1, h2⟩ := setAll_get sel L (bs.set c x) b hn.2 (fun b hb => by simpa using hlt b (by simp [hb])) (by simpa using hl)
    refine ⟨fun i hi => ?_, fun hb => ?_⟩
    · cases i with
      | zero =>
        simp only [List.getElem?_cons_zero, Option.some.injEq] at hi
        subst hi
        simp only [setAll, List.getElem?_cons_zero]
        rw [h2 hn.1, List.getElem?_set_self (hlt c (by simp))]
      | succ i =>
        simp only [List.getElem?_cons_succ] at hi ⊢
        exact h1 i hi
    · simp only [List.mem_cons, not_or] at hb
      simp only [setAll]
      rw [h2 hb.2, List.getElem?_set_ne (Ne.symm hb.1)]
def isVar : Box → Bool
  | .var _ => true
  | _ => false
/-- The boxes that were handed and may lie elsewhere now. -/
def moved : List Nat → List Box → List Box → Nat → Bool
  | b :: sel, x :: L, y :: L', c => (b == c && !(isVar x && isVar y)) || moved sel L L' c
  | _, _, _, _ => false
theorem moved_get : ∀ {sel : List Nat} {L L' : List Box} {c i : Nat}, sel[i]? = some c → moved sel L L' c ≠ true → ∀ {x y : Box}, L[i]? = some x → L'[i]? = some y → isVar x = true ∧ isVar y = true
  | [], L, L', c, i, h, _, _, _, _, _ => by simp at h
  | b :: sel, [], L', c, i, h, _, x, y, hx, _ => by simp at hx
  | b :: sel, x' :: L, [], c, i, h, _, x, y, _, hy => by simp at hy
  | b :: sel, x' :: L, y' :: L', c, 0, h, hm, x, y, hx, hy => by
    simp only [List.getElem?_cons_zero, Option.some.injEq] at h hx hy
    subst h
    subst hx
    subst hy
    simp only [moved, beq_self_eq_true, Bool.true_and, ne_eq, Bool.or_eq_true, not_or, Bool.not_eq_true', Bool.not_eq_false] at hm
    simpa using hm.1
  | b :: sel, x' :: L, y' :: L', c, i + 1, h, hm, x, y, hx, hy => by
    simp only [List.getElem?_cons_succ] at h hx hy
    simp only [moved, ne_eq, Bool.or_eq_true, not_or] at hm
    exact moved_get h hm.2 hx hy
/-- A box that is a variable behind the call was one ahead of it. -/
def kindsOk : List Box → List Box → Bool
  | x :: L, y :: L' => (!isVar y || isVar x) && kindsOk L L'
  | _, _ => true
theorem kindsOk_get : ∀ {L L' : List Box} {i : Nat} {x y : Box}, kindsOk L L' = true → L[i]? = some x → L'[i]? = some y → isVar y = true → isVar x = true
  | [], _, _, _, _, _, hx, _, _ => by simp at hx
  | _ :: _, [], _, _, _, _, _, hy, _ => by simp at hy
  | x' :: L, y' :: L', 0, x, y, h, hx, hy, hv => by
    simp only [List.getElem?_cons_zero, Option.some.injEq] at hx hy
    subst hx
    subst hy
    simp only [kindsOk, hv, Bool.not_true, Bool.false_or, Bool.and_eq_true] at h
    exact h.1
  | x' :: L, y' :: L', i + 1, x, y, h, hx, hy, hv => by
    simp only [List.getElem?_cons_succ] at hx hy
    simp only [kindsOk, Bool.and_eq_true] at h
    exact kindsOk_get h.2 hx hy hv

/-- The state behind such a call. -/
def St.aft (st : St) (sel : List Nat) (L L' : List Box) : St :=
  ⟨st.N, killPE (moved sel L L') st.env, setAll (st.bs.map (killPB (moved sel L L'))) sel (L'.map (renB (sg sel st.bs.length))) ++ (L'.drop sel.length).map (renB (sg sel st.bs.length))⟩

theorem sg_lt {sel : List Nat} {k i b : Nat} (h : sel[i]? = some b) : sg sel k i = b := by simp [sg, h]
theorem sg_ge {sel : List Nat} {k i : Nat} (h : sel.length ≤ i) : sg sel k i = k + (i - sel.length) := by simp [sg, List.getElem?_eq_none h]

theorem C.calleeB {E : En} {M : Nat → Prop} {m : Nat → Pl} {st : St} {a : Act} {w : World} (h : C W0 E M m st a w) {sel : List Nat} {L : List Box} (hn : sel.Nodup) (hlen : L.length = sel.length) (hL : ∀ (i b : Nat), sel[i]? = some b → st.bs[b]? = (L[i]?).map (renB (sg sel st.bs.length))) :
    C W0 ⟨w, M, fun i => m (sg sel st.bs.length i), L.length, []⟩ M (fun i => m (sg sel st.bs.length i)) ⟨0, [], L⟩ nobody w where
  base := h.base
  fr := Fr.refl _ _
  eLt := h.mLt
  mLow := h.mLow
  mUp := fun _ x => x
  mNew := fun _ x => .inl x
  mLt := h.mLt
  mNo := fun b hb => by
    simp only at hb
    simp only [sg_ge (k := st.bs.length) (show sel.length ≤ b by omega)]
    exact h.mNo _ (by omega)
  mIn := fun b k hb => h.mIn _ k hb
  inj := fun b b' k hb hb' => by
    have key : ∀ c, m (sg sel st.bs.length c) = .at_ k → ∃ d, sel[c]? = some d ∧ m d = .at_ k := fun c hc => by
      rcases Nat.lt_or_ge c sel.length with h1 | h1
      · exact ⟨sel[c], List.getElem?_eq_getElem h1, by rwa [sg_lt (List.getElem?_eq_getElem h1)] at hc⟩
      · rw [sg_ge h1, h.mNo _ (by omega)] at hc
        cases hc
    obtain ⟨d, h1, h2⟩ := key b hb
    obtain ⟨d', h3, h4⟩ := key b' hb'
    have hd := h.inj d d' k h2 h4
    subst hd
    obtain ⟨q1, e1⟩ := List.getElem?_eq_some_iff.1 h1
    obtain ⟨q2, e2⟩ := List.getElem?_eq_some_iff.1 h3
    exact (List.getElem_inj (xs := sel) hn).1 (e1.trans e2.symm)
  oldv := fun b cs hb hc => rfl
  oldr := fun b k hb hk => .inl hk
  new := fun b k hb hk => by
    simp only at hb hk
    rw [sg_ge (show sel.length ≤ b by omega), h.mNo _ (by omega)] at hk
    cases hk
  len := Nat.le_refl _
  box := fun i x hx => by
    have hi : i < L.length := (List.getElem?_eq_some_iff.1 hx).1
    have hb : sel[i]? = some sel[i] := List.getElem?_eq_getElem (by omega)
    have h1 := hL i _ hb
    rw [hx, Option.map_some] at h1
    have h2 := h.box _ _ h1
    cases x with
    | dead => trivial
    | var cs =>
      obtain ⟨k, Cs, T, h3, h4, h5⟩ := h2
      exact ⟨k, Cs, T, by simp only [sg_lt hb]; exact h3, h4, RAs.ren (σ := sg sel st.bs.length) (fun b _ => rfl) _ _ h5⟩
    | vec sz bt l =>
      obtain ⟨g0, g1, g2, g3⟩ := h2
      refine ⟨g0, g1, g2, ?_⟩
      simp only [sg_lt hb]
      exact g3
    | mp es =>
      obtain ⟨k, F, c, h3, h4⟩ := h2
      exact ⟨k, F, c, by simp only [sg_lt hb]; exact h3, h4⟩
    | own sz bt cs =>
      obtain ⟨g0, g1, g2, g3⟩ := h2
      refine ⟨g0, g1, by simpa only [renL_len] using g2, ?_⟩
      simp only [sg_lt hb]
      rcases g3 with ⟨h4, h5⟩ | ⟨q, Cs, T, h4, h5, h6, h7⟩
      · exact .inl ⟨h4, List.eq_nil_of_length_eq_zero (by rw [← renL_len (sg sel st.bs.length), h5]; rfl)⟩
      · rw [renL_len] at h6 h7
        exact .inr ⟨q, Cs, T, h4, h5, h6, RAs.ren (σ := sg sel st.bs.length) (fun b _ => rfl) _ _ h7⟩
  env := fun t x hx => by simp [lk_nil] at hx
  wide := rfl
  defers := rfl

theorem C.aftB {E : En} {M M' : Nat → Prop} {m mc : Nat → Pl} {st : St} {a : Act} {w w' : World} (h : C W0 E M m st a w) {sel : List Nat} {L L' : List Box} (hn : sel.Nodup) (hlen : L.length = sel.length) (hL : ∀ (i b : Nat), sel[i]? = some b → st.bs[b]? = (L[i]?).map (renB (sg sel st.bs.length)))
    (h' : C W0 ⟨w, M, fun i => m (sg sel st.bs.length i), L.length, []⟩ M' mc ⟨0, [], L'⟩ nobody w') (hk : kindsOk L L' = true) :
    ∃ m', C W0 E M' m' (st.aft sel L L') a w' ∧ ∀ x u, RA M' mc w' x u → RA M' m' w' (renA (sg sel st.bs.length) x) u := by
  have hlt : ∀ b ∈ sel, b < st.bs.length := fun b hb => by
    obtain ⟨i, hi⟩ := List.mem_iff_getElem?.1 hb
    have h1 := hL i b hi
    have h2 : i < L.length := by rw [hlen]; exact (List.getElem?_eq_some_iff.1 hi).1
    rw [List.getElem?_eq_getElem h2] at h1
    exact (List.getElem?_eq_some_iff.1 h1).1
  have hlen' : L.length ≤ L'.length := h'.len
  have idx : ∀ b ∈ sel, ∃ i, sel[i]? = some b ∧ i < sel.length := fun b hb => by
    obtain ⟨i, hi⟩ := List.mem_iff_getElem?.1 hb
    exact ⟨i, hi, (List.getElem?_eq_some_iff.1 hi).1⟩
  -- where the boxes lie now
  let m' : Nat → Pl := fun b => if b < st.bs.length then (match sel.idxOf? b with | some i => mc i | none => m b) else mc (b - st.bs.length + sel.length)
  have m_sel : ∀ i b, sel[i]? = some b → m' b = mc i := fun i b hi => by
    have hb := hlt b (List.mem_of_getElem? hi)
    have : sel.idxOf? b = some i := by
      obtain ⟨q, e⟩ := List.getElem?_eq_some_iff.1 hi
      subst e
      rw [List.idxOf?_eq_some_iff]
      refine ⟨q, by simp, fun j hj => ?_⟩
      have hjq : j < sel.length := by omega
      intro e
      have e' : sel[j] = sel[i] := by simpa using e
      have := (List.getElem_inj (xs := sel) hn).1 e'
      omega
    simp only [m', if_pos hb, this]
  have m_old : ∀ b, b < st.bs.length → b ∉ sel → m' b = m b := fun b hb hs => by
    have : sel.idxOf? b = none := by rw [List.idxOf?_eq_none_iff]; exact hs
    simp only [m', if_pos hb, this]
  have m_new : ∀ b, st.bs.length ≤ b → m' b = mc (b - st.bs.length + sel.length) := fun b hb => by simp only [m', if_neg (Nat.not_lt.2 hb)]
  have m_sg : ∀ i, mc i ≠ .no → m' (sg sel st.bs.length i) = mc i := fun i hi => by
    rcases Nat.lt_or_ge i sel.length with h1 | h1
    · have h2 : sel[i]? = some sel[i] := List.getElem?_eq_getElem h1
      rw [sg_lt h2]
      exact m_sel i _ h2
    · rw [sg_ge h1, m_new _ (by omega)]
      congr 1
      omega
  have cases_ : ∀ b k, m' b = .at_ k → (∃ i, sel[i]? = some b ∧ mc i = .at_ k) ∨ (b < st.bs.length ∧ b ∉ sel ∧ m b = .at_ k) ∨ (st.bs.length ≤ b ∧ mc (b - st.bs.length + sel.length) = .at_ k) := fun b k hb => by
    rcases Nat.lt_or_ge b st.bs.length with h1 | h1
    · by_cases h2 : b ∈ sel
      · obtain ⟨i, hi, _⟩ := idx b h2
        rw [m_sel i b hi] at hb
        exact .inl ⟨i, hi, hb⟩
      · rw [m_old b h1 h2] at hb
        exact .inr (.inl ⟨h1, h2, hb⟩)
    · rw [m_new b h1] at hb
      exact .inr (.inr ⟨h1, hb⟩)
  let ES : Nat → Prop := fun k => ∃ b, b < L.length ∧ m (sg sel st.bs.length b) = .at_ k
  have hf : Fr ES w w' := h'.fr
  have ES_M : ∀ k, k < w.heap.size → ES k → M k := fun k _ ⟨b, _, hb⟩ => h.mIn _ k hb
  have ES_sel : ∀ k, ES k → ∃ b ∈ sel, m b = .at_ k := fun k ⟨b, hb, hk⟩ => by
    have h1 : sel[b]? = some sel[b] := List.getElem?_eq_getElem (by omega)
    rw [sg_lt h1] at hk
    exact ⟨_, List.mem_of_getElem? h1, hk⟩
  have hM : ∀ k, k < w.heap.size → M' k → M k := fun k hk hm => (h'.mNew k hm).resolve_right (by simp; omega)
  have far : ∀ b k, b ∉ sel → m b = .at_ k → ¬ ES k := fun b k hb hk he => by
    obtain ⟨c, hc, hck⟩ := ES_sel k he
    exact hb (h.inj b c k hk hck ▸ hc)
  have mc_old : ∀ i k, mc i = .at_ k → (∃ b, sel[i]? = some b ∧ m b = .at_ k) ∨ w.heap.size ≤ k := fun i k hi => by
    rcases Nat.lt_or_ge i L.length with h1 | h1
    · rcases h'.oldr i k h1 hi with h2 | h2
      · have h3 : sel[i]? = some sel[i] := List.getElem?_eq_getElem (by omega)
        simp only [sg_lt h3] at h2
        exact .inl ⟨_, h3, h2⟩
      · exact .inr h2
    · exact .inr (h'.new i k h1 hi)
  have kill : ∀ b, moved sel L L' b ≠ true → m b ≠ .no → m' b = m b := fun b hp hno => by
    have hb : b < st.bs.length := by
      rcases Nat.lt_or_ge b st.bs.length with h1 | h1
      · exact h1
      · exact absurd (h.mNo b h1) hno
    by_cases hs : b ∈ sel
    · obtain ⟨i, hi, hil⟩ := idx b hs
      rw [m_sel i b hi]
      have hx : L[i]? = some L[i] := List.getElem?_eq_getElem (by omega)
      have hy : L'[i]? = some L'[i] := List.getElem?_eq_getElem (by omega)
      obtain ⟨_, hv⟩ := moved_get hi hp hx hy
      cases hyv : L'[i] with
      | var cs =>
        have := h'.oldv i cs (show i < L.length by omega) (by simp only; rw [hy, hyv])
        simp only [sg_lt hi] at this
        exact this
      | dead => rw [hyv] at hv; cases hv
      | vec sz bt l => rw [hyv] at hv; cases hv
      | mp es => rw [hyv] at hv; cases hv
      | own sz bt cs => rw [hyv] at hv; cases hv
    · exact m_old b hb hs
  have getb : ∀ (b : Nat) (y : Box), (st.aft sel L L').bs[b]? = some y → (∃ i z, sel[i]? = some b ∧ L'[i]? = some z ∧ y = renB (sg sel st.bs.length) z) ∨ (∃ z, b < st.bs.length ∧ b ∉ sel ∧ st.bs[b]? = some z ∧ y = killPB (moved sel L L') z) ∨
      (∃ z, st.bs.length ≤ b ∧ L'[b - st.bs.length + sel.length]? = some z ∧ y = renB (sg sel st.bs.length) z) := fun b y hy => by
    simp only [St.aft] at hy
    have hl : (setAll (st.bs.map (killPB (moved sel L L'))) sel (L'.map (renB (sg sel st.bs.length)))).length = st.bs.length := by rw [setAll_len, List.length_map]
    obtain ⟨g1, g2⟩ := setAll_get sel (L'.map (renB (sg sel st.bs.length))) (st.bs.map (killPB (moved sel L L'))) b hn (fun b hb => by simpa using hlt b hb) (by simp; omega)
    rcases Nat.lt_or_ge b st.bs.length with h1 | h1
    · rw [List.getElem?_append_left (by omega)] at hy
      by_cases hs : b ∈ sel
      · obtain ⟨i, hi, _⟩ := idx b hs
        rw [g1 i hi, List.getElem?_map] at hy
        cases hz : L'[i]? with
        | none => simp [hz] at hy
        | some z =>
          simp only [hz, Option.map_some, Option.some.injEq] at hy
          exact .inl ⟨i, z, hi, hz, hy.symm⟩
      · rw [g2 hs, List.getElem?_map] at hy
        cases hz : st.bs[b]? with
        | none => simp [hz] at hy
        | some z =>
          simp only [hz, Option.map_some, Option.some.injEq] at hy
          exact .inr (.inl ⟨z, h1, hs, rfl, hy.symm⟩)
    · rw [List.getElem?_append_right (by omega), hl, List.getElem?_map, List.getElem?_drop] at hy
      rw [show b - st.bs.length + sel.length = sel.length + (b - st.bs.length) by omega]
      cases hz : L'[sel.length + (b - st.bs.length)]? with
      | none => simp [hz] at hy
      | some z =>
        simp only [hz, Option.map_some, Option.some.injEq] at hy
        exact .inr (.inr ⟨z, h1, rfl, hy.symm⟩)
  have boxren : ∀ (i b : Nat) (z : Box), m' b = mc i → BoxR M' mc w' i z → BoxR M' m' w' b (renB (sg sel st.bs.length) z) := fun i b z hb hz => by
    cases z with
    | dead => trivial
    | var cs =>
      obtain ⟨k, Cs, T, h3, h4, h5⟩ := hz
      exact ⟨k, Cs, T, hb.trans h3, h4, RAs.back m_sg _ _ h5⟩
    | vec sz bt l =>
      obtain ⟨g0, g1, g2, g3⟩ := hz
      refine ⟨g0, g1, g2, ?_⟩
      rw [hb]
      exact g3
    | mp es =>
      obtain ⟨k, F, c, h3, h4⟩ := hz
      exact ⟨k, F, c, hb.trans h3, h4⟩
    | own sz bt cs =>
      obtain ⟨g0, g1, g2, g3⟩ := hz
      refine ⟨g0, g1, by simpa only [renL_len] using g2, ?_⟩
      rw [hb]
      rcases g3 with ⟨h4, h5⟩ | ⟨q, Cs, T, h4, h5, h6, h7⟩
      · exact .inl ⟨h4, by rw [h5]; rfl⟩
      · refine .inr ⟨q, Cs, T, h4, h5, by simpa only [renL_len] using h6, ?_⟩
        rw [renL_len]
        exact RAs.back m_sg _ _ h7
  refine ⟨m', {
    base := h'.base
    fr := ?_
    eLt := h.eLt
    mLow := h'.mLow
    mUp := fun k hk => h'.mUp k (h.mUp k hk)
    mNew := fun k hk => (h'.mNew k hk).elim (h.mNew k) fun hw => .inr (Nat.le_trans h.fr.size hw)
    mLt := h'.mLt
    mNo := ?_
    mIn := ?_
    inj := ?_
    oldv := ?_
    oldr := ?_
    new := ?_
    len := ?_
    box := ?_
    env := ?_
    wide := h.wide
    defers := h.defers }, fun x u hx => RA.back m_sg x u hx⟩
  · refine ⟨hf.os.trans h.fr.os, hf.tape.trans h.fr.tape, hf.output.trans h.fr.output, Nat.le_trans h.fr.size hf.size, fun i hi he => ?_, fun i D t hi => ?_⟩
    · refine (hf.block i (Nat.lt_of_lt_of_le hi h.fr.size) fun e => ?_).trans (h.fr.block i hi he)
      obtain ⟨b, _, hb⟩ := ES_sel i e
      rcases h.own hb with h1 | h1
      · exact he h1
      · omega
    · obtain ⟨D', h1, h2⟩ := h.fr.keep i D t hi
      obtain ⟨D'', h3, h4⟩ := hf.keep i D' t h1
      exact ⟨D'', h3, h4.trans h2⟩
  · intro b hb
    simp only [St.aft, List.length_append, setAll_len, List.length_map, List.length_drop] at hb
    rw [m_new b (by omega)]
    exact h'.mNo _ (by simp only; omega)
  · intro b k hb
    rcases cases_ b k hb with ⟨i, _, h1⟩ | ⟨_, _, h1⟩ | ⟨_, h1⟩
    · exact h'.mIn i k h1
    · exact h'.mUp k (h.mIn b k h1)
    · exact h'.mIn _ k h1
  · intro b b' k hb hb'
    have cross : ∀ b b', (∃ i, mc i = .at_ k ∧ ∀ c, sel[i]? = some c → c = b) → (b' < st.bs.length ∧ b' ∉ sel ∧ m b' = .at_ k) → False := fun b b' ⟨i, hi, _⟩ ⟨h1, h2, h3⟩ => by
      rcases mc_old i k hi with ⟨c, hc, hck⟩ | hw
      · exact h2 (h.inj b' c k h3 hck ▸ List.mem_of_getElem? hc)
      · have := h.mLt k (h.mIn b' k h3)
        omega
    rcases cases_ b k hb with ⟨i, h1, h1'⟩ | h1 | ⟨h1, h1'⟩ <;> rcases cases_ b' k hb' with ⟨j, h2, h2'⟩ | h2 | ⟨h2, h2'⟩
    · have := h'.inj i j k h1' h2'
      subst this
      rw [h1] at h2
      cases h2
      rfl
    · exact (cross b b' ⟨i, h1', fun c hc => by rw [h1] at hc; cases hc; rfl⟩ h2).elim
    · have e := h'.inj i _ k h1' h2'
      have := (List.getElem?_eq_some_iff.1 h1).1
      omega
    · exact (cross b' b ⟨j, h2', fun c hc => by rw [h2] at hc; cases hc; rfl⟩ h1).elim
    · exact h.inj b b' k h1.2.2 h2.2.2
    · exact (cross b' b ⟨_, h2', fun c hc => by have := (List.getElem?_eq_some_iff.1 hc).1; omega⟩ h1).elim
    · have e := h'.inj _ j k h1' h2'
      have := (List.getElem?_eq_some_iff.1 h2).1
      omega
    · exact (cross b b' ⟨_, h1', fun c hc => by have := (List.getElem?_eq_some_iff.1 hc).1; omega⟩ h2).elim
    · have e := h'.inj _ _ k h1' h2'
      omega
  · intro b cs hb hc
    have hbl : b < st.bs.length := Nat.lt_of_lt_of_le hb h.len
    rcases getb b _ hc with ⟨i, z, hi, hz, e⟩ | ⟨z, _, hs, hz, e⟩ | ⟨z, hz, _⟩
    · have hil : i < L.length := by have := (List.getElem?_eq_some_iff.1 hi).1; omega
      have hzv : isVar z = true := by cases z <;> simp only [renB] at e <;> first | (cases e; done) | rfl
      have hx : L[i]? = some L[i] := List.getElem?_eq_getElem hil
      have hxv := kindsOk_get hk hx hz hzv
      rw [m_sel i b hi]
      have h1 := hL i b hi
      rw [hx, Option.map_some] at h1
      cases hLi : L[i] with
      | var cs0 =>
        rw [hLi] at h1
        have h2 := h.oldv b _ hb h1
        cases z with
        | var zs =>
          have h3 := h'.oldv i zs hil hz
          simp only [sg_lt hi] at h3
          exact h3.trans h2
        | dead => cases hzv
        | vec => cases hzv
        | mp => cases hzv
        | own => cases hzv
      | dead => rw [hLi] at hxv; cases hxv
      | vec => rw [hLi] at hxv; cases hxv
      | mp => rw [hLi] at hxv; cases hxv
      | own => rw [hLi] at hxv; cases hxv
    · rw [m_old b hbl hs]
      cases z <;> simp only [killPB] at e <;> first
        | (cases e; done)
        | exact h.oldv b _ hb hz
    · omega
  · intro b k hb hbk
    have hbl : b < st.bs.length := Nat.lt_of_lt_of_le hb h.len
    rcases cases_ b k hbk with ⟨i, h1, h1'⟩ | ⟨_, _, h1⟩ | ⟨h1, _⟩
    · rcases mc_old i k h1' with ⟨c, hc, hck⟩ | hw
      · rw [h1] at hc
        cases hc
        exact h.oldr b k hb hck
      · exact .inr (Nat.le_trans h.fr.size hw)
    · exact h.oldr b k hb h1
    · omega
  · intro b k hb hbk
    rcases cases_ b k hbk with ⟨i, h1, h1'⟩ | ⟨_, _, h1⟩ | ⟨_, h1'⟩
    · rcases mc_old i k h1' with ⟨c, hc, hck⟩ | hw
      · rw [h1] at hc
        cases hc
        exact h.new b k hb hck
      · exact Nat.le_trans h.fr.size hw
    · exact h.new b k hb h1
    · rcases mc_old _ k h1' with ⟨c, hc, hck⟩ | hw
      · have := (List.getElem?_eq_some_iff.1 hc).1
        omega
      · exact Nat.le_trans h.fr.size hw
  · have := h.len
    simp only [St.aft, List.length_append, setAll_len, List.length_map]
    omega
  · intro b y hy
    rcases getb b y hy with ⟨i, z, hi, hz, rfl⟩ | ⟨z, hbl, hs, hz, rfl⟩ | ⟨z, hbl, hz, rfl⟩
    · exact boxren i b z (m_sel i b hi) (h'.box i z hz)
    · have h1 := (h.box b z hz).mono hf ES_M hM fun k hk => far b k hs hk
      cases z with
      | dead => trivial
      | var cs =>
        obtain ⟨k, Cs, T, h3, h4, h5⟩ := h1
        exact ⟨k, Cs, T, (m_old b hbl hs).trans h3, h4, RAs.killP kill _ _ h5⟩
      | vec sz bt l =>
        obtain ⟨g0, g1, g2, g3⟩ := h1
        refine ⟨g0, g1, g2, ?_⟩
        rw [m_old b hbl hs]
        exact g3
      | mp es =>
        obtain ⟨k, F, c, h3, h4⟩ := h1
        exact ⟨k, F, c, (m_old b hbl hs).trans h3, h4⟩
      | own sz bt cs =>
        obtain ⟨g0, g1, g2, g3⟩ := h1
        refine ⟨g0, g1, by simpa only [killPL_len] using g2, ?_⟩
        rw [m_old b hbl hs]
        rcases g3 with ⟨h4, h5⟩ | ⟨q, Cs, T, h4, h5, h6, h7⟩
        · exact .inl ⟨h4, by rw [h5]; rfl⟩
        · refine .inr ⟨q, Cs, T, h4, h5, by simpa only [killPL_len] using h6, ?_⟩
          rw [killPL_len]
          exact RAs.killP kill _ _ h7
    · exact boxren _ b z (m_new b hbl) (h'.box _ z hz)
  · intro t x hx
    obtain ⟨y, h1, rfl⟩ := lk_killPE hx
    exact RA.killP kill _ _ (RA.mono hf ES_M hM y _ (h.env t y h1))

/-- A call that is handed some boxes. -/
theorem A_callB {Q : Ax → St → Prop} {st : St} {ops : Array Oper} {o : Oper} {rest : List Oper} {fo : Operand} {args : Array Operand} {ts : Array TypeId} {f : FuncId} {caps xs : List AV} (sel : List Nat) {cargs : List AV} {L : List Box} {R : Res → List Box → Prop} (hcall : ACalls P W0 f cargs L R)
    (hg : o.guard = none) (ho : o.op = .call ⟨.value fo, args, ts⟩) (hf : evo (lk st.env) fo = some (.fn f caps)) (ha : evl (lk st.env) args.toList = some xs) (hc : callable P f = true) (hd : dOk st.N o.dst = true)
    (hn : sel.Nodup) (hlen : L.length = sel.length) (hL : ∀ (i b : Nat), sel[i]? = some b → st.bs[b]? = (L[i]?).map (renB (sg sel st.bs.length))) (hargs : renL (sg sel st.bs.length) cargs = xs ++ caps)
    (h : ∀ r L', R r L' → kindsOk L L' = true ∧ match r with | .ret x => AOps P W0 n ops rest Q ((st.aft sel L L').put o.dst (renA (sg sel st.bs.length) x)) | .panic x => Q (.panic (renA (sg sel st.bs.length) x)) (st.aft sel L L')) : AOps P W0 n ops (o :: rest) Q st := by
  intro E M m a w hE hC
  refine wpList_plain hg fun K hK => ?_
  obtain ⟨us, h1, h2⟩ := run_call (P := P) hC ho hf ha hc
  unfold Oper.wp
  rw [h1, Oper.upon_enter]
  refine (hcall M _ w us (hC.calleeB hn hlen hL) (RAs.ren (σ := sg sel st.bs.length) (fun b _ => rfl) _ _ (by rw [hargs]; exact h2))).mono ?_
  rintro e w' ⟨r, L', M', m', hR, hres, hC'⟩
  obtain ⟨hk, hr⟩ := h r L' hR
  obtain ⟨m'', hC2, hx⟩ := hC.aftB hn hlen hL hC' hk
  cases r with
  | ret x =>
    cases e with
    | returned u => exact hK _ _ (hr E M' m'' _ _ hE (hC2.value (dOk_iff hd) (hx x u hres)))
    | panicked c => exact hres.elim
    | outgrown => exact hres.elim
  | panic x =>
    cases e with
    | returned u => exact hres.elim
    | panicked c =>
      obtain ⟨u, rfl, h3⟩ := hres
      exact ⟨M', m'', _, .panic _, hC2, hr, u, rfl, hx x u h3⟩
    | outgrown => exact hres.elim
end
end Go.Proofs.YtfbegbpipmgfiaaDoor.Lift
end
section
/- The lift, twelfth part: quiet regions with their guards' temporaries given; what the simplifier need not look at. No conditions: words and their laws. -/
set_option linter.unusedVariables false
set_option linter.unusedSimpArgs false
namespace Go.Proofs.YtfbegbpipmgfiaaDoor.Lift
open Go Go.RowKit

section
variable {P : Program} {W0 : World} {n : Nat}

@[congr] theorem AOps_congr {ops : Array Oper} {l : List Oper} {Q : Ax → St → Prop} {st st' : St} (h : st = st') : AOps P W0 n ops l Q st = AOps P W0 n ops l Q st' := by rw [h]
@[congr] theorem ACode_congr {c : Code} {Q : Ax → St → Prop} {st st' : St} (h : st = st') : ACode P W0 n c Q st = ACode P W0 n c Q st' := by rw [h]
/-- The temporaries that operations' guards are in. -/
def gsl (ops : Array Oper) (l : List Oper) : List (Option (Option Nat × Bool)) := l.map fun o => o.guard.map fun g => ((ops[g.1]?).bind (·.dst), g.2)
def Code.gs : Code → List (List (Option (Option Nat × Bool)))
  | .region _ ops _ => [gsl ops ops.toList]
  | .seq a b => Code.gs a ++ Code.gs b
  | .cond _ a b => Code.gs a ++ Code.gs b
  | .block _ a => Code.gs a
  | .loop a => Code.gs a
  | _ => []
/-- What an operation gives that turns nothing; a slice built, as data. -/
def opW (P : Program) (e : Nat → Option AV) (bs : List Box) (op : Op) : Option AV := match op with | .buildSlice _ _ _ => bsD P e op | _ => opV P e bs op
theorem opW_Q1 {bs : List Box} {e : Nat → Option AV} {o : Oper} {x : AV} (h : opW P e bs o.op = some x) : Q1 P W0 bs e o x := by
  unfold opW at h
  split at h
  · exact .data x h
  · exact .op x h
def stepG (P : Program) (bs : List Box) (env : List (List (Option AV))) (op : Op) : Option (Option Nat × Bool) → Option AV
  | none => opW P (lk env) bs op
  | some (some t, want) => match lk env t with
    | some (.d (.v (.bool b))) => (opW P (resE (if want then b else !b) (lk env)) bs op).map (.opt (if want then b else !b))
    | some (.opt g (.d (.v (.bool b)))) => (opW P (resE (g && (if want then b else !b)) (lk env)) bs op).map (.opt (g && (if want then b else !b)))
    | _ => none
  | some (none, _) => none
def runG (P : Program) (bs : List Box) (K : List Oper → List (Option (Option Nat × Bool)) → List (List (Option AV)) → Prop) : List Oper → List (Option (Option Nat × Bool)) → List (List (Option AV)) → Prop
  | [], gs, env => K [] gs env
  | o :: l, [], env => K (o :: l) [] env
  | o :: l, g :: gs, env => onSome (stepG P bs env o.op g) (fun x => runG P bs K l gs (putL o.dst x env)) (K (o :: l) (g :: gs) env)
def aqg (P : Program) (W0 : World) (bs : List Box) (ops : Array Oper) (K : List (List (Option AV)) → Prop) (l : List Oper) (gs : List (Option (Option Nat × Bool))) (env : List (List (Option AV))) : Prop := gsl ops l = gs → aqs P W0 bs ops K l env
theorem stepG_Yl {bs : List Box} {ops : Array Oper} {env : List (List (Option AV))} {o : Oper} {g : Option (Option Nat × Bool)} {x : AV} (hg : o.guard.map (fun g => ((ops[g.1]?).bind (·.dst), g.2)) = g) (h : stepG P bs env o.op g = some x) : Yl P W0 bs ops (lk env) o x := by
  unfold Yl
  subst hg
  cases hg : o.guard with
  | none =>
    simp only [hg, Option.map_none, stepG] at h ⊢
    exact opW_Q1 h
  | some g =>
    obtain ⟨j, want⟩ := g
    simp only [hg, Option.map_some] at h ⊢
    cases hd : (ops[j]?).bind (·.dst) with
    | none => rw [hd] at h; cases h
    | some t =>
      rw [hd] at h
      simp only [stepG] at h
      split at h
      · rename_i b hb
        simp only [Option.map_eq_some_iff] at h
        obtain ⟨y, h1, rfl⟩ := h
        exact ⟨t, _, y, rfl, (by rw [hb]; rfl), rfl, fun _ => opW_Q1 h1⟩
      · rename_i g b hb
        simp only [Option.map_eq_some_iff] at h
        obtain ⟨y, h1, rfl⟩ := h
        exact ⟨t, _, y, rfl, (by rw [hb]; rfl), rfl, fun _ => opW_Q1 h1⟩
      · cases h
theorem aqg_run {bs : List Box} {ops : Array Oper} {K : List (List (Option AV)) → Prop} : ∀ {l : List Oper} {gs : List (Option (Option Nat × Bool))} {env : List (List (Option AV))}, runG P bs (aqg P W0 bs ops K) l gs env → aqg P W0 bs ops K l gs env
  | [], gs, env, h => h
  | o :: l, [], env, h => h
  | o :: l, g :: gs, env, h => by
    simp only [runG] at h
    cases hs : stepG P bs env o.op g with
    | none =>
      rw [hs] at h
      exact h
    | some x =>
      rw [hs] at h
      intro hg
      simp only [gsl, List.map_cons, List.cons.injEq] at hg
      exact ⟨x, stepG_Yl hg.1 hs, aqg_run h hg.2⟩
theorem aqg_nil {bs : List Box} {ops : Array Oper} {K : List (List (Option AV)) → Prop} {gs : List (Option (Option Nat × Bool))} {env : List (List (Option AV))} (h : K env) : aqg P W0 bs ops K [] gs env := fun _ => h
theorem A_quietG {Q : Ax → St → Prop} {st : St} {id : Nat} {l : List Oper} {gs : List (Option (Option Nat × Bool))} (hm : P.follows .mixedOrders = true) (hB : Region.lexB .any l.toArray = true) (hg : gsl l.toArray l = gs) (hd : l.all (okO st.N) = true)
    (h : aqg P W0 st.bs l.toArray (fun env => Q .normal ⟨st.N, env, st.bs⟩) l gs st.env) : ACode P W0 n (.region id l.toArray true) Q st := A_quiet hm hB hd (h hg)
theorem A_calmG {Q : Ax → St → Prop} {st : St} {id : Nat} {l : List Oper} {gs : List (Option (Option Nat × Bool))} (hg : gsl l.toArray l = gs) (hd : l.all (okO st.N) = true)
    (h : aqg P W0 st.bs l.toArray (fun env => Q .normal ⟨st.N, env, st.bs⟩) l gs st.env) : ACode P W0 n (.region id l.toArray false) Q st := A_calm hd (h hg)
/-- A call of a pure function. -/
theorem aqg_call {bs : List Box} {ops : Array Oper} {K : List (List (Option AV)) → Prop} {o : Oper} {l : List Oper} {gs : List (Option (Option Nat × Bool))} {env : List (List (Option AV))} {fo : Operand} {args : Array Operand} {ts : Array TypeId} {f : FuncId} {caps xs : List AV} {y : AV}
    (hr : APure P W0 f (xs ++ caps) fun r => r = .ret y) (ho : o.op = .call ⟨.value fo, args, ts⟩) (hf : evo (lk env) fo = some (.fn f caps)) (ha : evl (lk env) args.toList = some xs) (hc : callable P f = true)
    (hn : noNames (xs ++ caps) = true) (hy : noName y = true) (h : aqg P W0 bs ops K l gs (putL o.dst y env)) : aqg P W0 bs ops K (o :: l) (none :: gs) env := by
  intro hg
  simp only [gsl, List.map_cons, List.cons.injEq, Option.map_eq_none_iff] at hg
  refine ⟨y, ?_, h hg.2⟩
  unfold Yl
  rw [hg.1]
  exact .call fo args ts f caps xs y ho hf ha hc hn hr hy
theorem aqg_callg0 {bs : List Box} {ops : Array Oper} {K : List (List (Option AV)) → Prop} {o : Oper} {l : List Oper} {gs : List (Option (Option Nat × Bool))} {env : List (List (Option AV))} {fo : Operand} {args : Array Operand} {ts : Array TypeId} {f : FuncId} {xs : List AV} {y : AV} {t : Nat} {want b : Bool}
    (hr : (if want then b else !b) = true → APure P W0 f xs fun r => r = .ret y) (hb : lk env t = some (.d (.v (.bool b)))) (ho : o.op = .call ⟨.value fo, args, ts⟩)
    (hf : (if want then b else !b) = true → evo (resE (if want then b else !b) (lk env)) fo = some (.fn f []) ∧ evl (resE (if want then b else !b) (lk env)) args.toList = some xs) (hc : callable P f = true)
    (hn : noNames xs = true) (hy : noName y = true) (h : aqg P W0 bs ops K l gs (putL o.dst (.opt (if want then b else !b) y) env)) : aqg P W0 bs ops K (o :: l) (some (some t, want) :: gs) env := by
  intro hg
  simp only [gsl, List.map_cons, List.cons.injEq, Option.map_eq_some_iff, Prod.mk.injEq] at hg
  obtain ⟨⟨⟨j, w⟩, h1, h2, h3⟩, h4⟩ := hg
  refine ⟨_, ?_, h h4⟩
  unfold Yl
  rw [h1]
  cases h3
  exact ⟨t, _, y, h2, (by rw [hb]; rfl), rfl, fun hh => .call fo args ts f [] xs y ho (hf hh).1 (hf hh).2 hc (by rw [List.append_nil]; exact hn) (by rw [List.append_nil]; exact hr hh) hy⟩

/-- Rows in data are no longer than memory has room for. -/
inductive DB : D → Prop
  | v (x : Value) : DB (.v x)
  | e : DB .e
  | any : DB .any
  | rows (sz bt : Nat) (l : List (List D)) (h : l.length * bt ≤ 140737488355328) (hs : ∀ row ∈ l, ∀ d ∈ row, DB d) : DB (.rows sz bt l)
theorem RD.db {M : Nat → Prop} {w : World} {d : D} {u : Value} (h : RD M w d u) : DB d := by
  induction h with
  | v x h => exact .v x
  | e A => exact .e
  | any u h => exact .any
  | rows sz bt l A c U hbt hb hc hA hU ih =>
    refine .rows sz bt l hb fun row hr d hd => ?_
    obtain ⟨i, hi⟩ := List.getElem?_of_mem hr
    obtain ⟨j, hj⟩ := List.getElem?_of_mem hd
    exact ih i row j d hi hj
def AB : AV → Prop
  | .d x => DB x
  | .agg l => ∀ d, AV.d d ∈ l → DB d
  | _ => True
theorem RAs.db {M : Nat → Prop} {m : Nat → Pl} {w : World} : ∀ {l : List AV} {us : List Value}, RAs M m w l us → ∀ d, AV.d d ∈ l → DB d
  | [], [], _, _, h => by cases h
  | x :: l, u :: us, h, d, hd => by
    simp only [RAs] at h
    rcases List.mem_cons.1 hd with e | e
    · subst e
      have := h.1
      simp only [RA] at this
      exact this.db
    · exact RAs.db h.2 d e
  | [], _ :: _, h, _, _ => by simp only [RAs] at h
  | _ :: _, [], h, _, _ => by simp only [RAs] at h
theorem RA.ab {M : Nat → Prop} {m : Nat → Pl} {w : World} {x : AV} {u : Value} (h : RA M m w x u) : AB x := by
  cases x <;> simp only [AB]
  · simp only [RA] at h
    exact h.db
  · simp only [RA] at h
    obtain ⟨us, _, h2⟩ := h
    exact fun d hd => h2.db d hd
theorem RAs.ab {M : Nat → Prop} {m : Nat → Pl} {w : World} : ∀ {l : List AV} {us : List Value}, RAs M m w l us → ∀ x ∈ l, AB x
  | [], [], _, _, h => by cases h
  | x :: l, u :: us, h, y, hd => by
    simp only [RAs] at h
    rcases List.mem_cons.1 hd with e | e
    · subst e
      exact h.1.ab
    · exact RAs.ab h.2 y e
  | [], _ :: _, h, _, _ => by simp only [RAs] at h
  | _ :: _, [], h, _, _ => by simp only [RAs] at h
/-- What is known of what is handed. -/
theorem ACalls.known {f : FuncId} {args : List AV} {L : List Box} {R : Res → List Box → Prop} (h : (∀ x ∈ args, AB x) → ACalls P W0 f args L R) : ACalls P W0 f args L R :=
  fun M m w us hc ha => h ha.ab M m w us hc ha
theorem APure.known {f : FuncId} {args : List AV} {R : Res → Prop} (h : (∀ x ∈ args, AB x) → APure P W0 f args R) : APure P W0 f args R := ACalls.known h

/- Not by rfl, so that congruences have a proof to take. -/
theorem stepG_n (bs : List Box) (env : List (List (Option AV))) (op : Op) : stepG P bs env op none = opW P (lk env) bs op := (Eq.refl _).trans rfl
theorem stepG_s (bs : List Box) (env : List (List (Option AV))) (op : Op) (t : Nat) (want : Bool) : stepG P bs env op (some (some t, want)) = match lk env t with
    | some (.d (.v (.bool b))) => (opW P (resE (if want then b else !b) (lk env)) bs op).map (.opt (if want then b else !b))
    | some (.opt g (.d (.v (.bool b)))) => (opW P (resE (g && (if want then b else !b)) (lk env)) bs op).map (.opt (g && (if want then b else !b)))
    | _ => none := (Eq.refl _).trans rfl
theorem putL_s (t : Nat) (x : AV) (env : List (List (Option AV))) : putL (some t) x env = putE env t x := (Eq.refl _).trans rfl
theorem putL_n (x : AV) (env : List (List (Option AV))) : putL none x env = env := (Eq.refl _).trans rfl
theorem put_s (st : St) (t : Nat) (x : AV) : st.put (some t) x = ⟨st.N, putE st.env t x, st.bs⟩ := (Eq.refl _).trans rfl
theorem put_n (st : St) (x : AV) : st.put none x = st := (Eq.refl _).trans rfl
theorem stepT_ap (st : St) (o : Oper) : stepT P st o = match o.guard with | none => opR P (lk st.env) st.bs o.op | some _ => none := (Eq.refl _).trans rfl
theorem resE_ap (g : Bool) (e : Nat → Option AV) (t : Nat) : resE g e t = (e t).map (resA g) := rfl
end
end Go.Proofs.YtfbegbpipmgfiaaDoor.Lift
end
section
/- The lift, thirteenth part: a row of one's own that is lent; functions that hand back rows. No conditions: words and their laws. -/
set_option linter.unusedVariables false
set_option linter.unusedSimpArgs false
set_option linter.unusedSectionVars false
namespace Go.Proofs.YtfbegbpipmgfiaaDoor.Lift
open Go Go.RowKit

section
variable {P : Program} {W0 : World} {n : Nat}

/-- A part of a row of one's own, as data. -/
theorem vec_data {E : En} {M : Nat → Prop} {m : Nat → Pl} {st : St} {a : Act} {w : World} (h : C W0 E M m st a w) {b sz bt : Nat} {l : List (List D)} (hb : st.bs[b]? = some (.vec sz bt l)) : ∀ lo n u, lo + n ≤ l.length → RA M m w (.sl b sz lo n) u → RD (fun k => M k ∧ m b ≠ .at_ k) w (.rows sz bt ((l.drop lo).take n)) u := by
  obtain ⟨hsz, hbt, hb47, hbox⟩ := h.box b _ hb
  intro lo n u hle hr
  have hlen : ((l.drop lo).take n).length = n := by simp; omega
  have hbn : ((l.drop lo).take n).length * bt ≤ 140737488355328 := Nat.le_trans (Nat.mul_le_mul_right _ (by omega)) hb47
  have get : ∀ (i : Nat) (row : List D), ((l.drop lo).take n)[i]? = some row → l[lo + i]? = some row := fun i row hi => by
    rw [List.getElem?_take] at hi
    split at hi
    · rwa [List.getElem?_drop] at hi
    · cases hi
  simp only [RA] at hr
  rcases hr with ⟨rfl, rfl, _, A, rfl⟩ | ⟨k, cap, C1, T1, h1, rfl, h2, h3, h4⟩
  · have := RD.rows (M := fun k => M k ∧ m b ≠ .at_ k) (w := w) sz bt [] A 0 (fun _ _ => default) hbt (by simp) (by simp) (fun i row h => by simp at h) (fun i row j d h => by simp at h)
    simpa using this
  · rcases hbox with ⟨h5, _⟩ | ⟨k', C2, T2, h5, h6, h7, h8⟩
    · rw [h1] at h5
      cases h5
    · rw [h1] at h5
      cases h5
      have := RD.rows (M := fun i => M i ∧ m b ≠ .at_ i) (w := w) sz bt ((l.drop lo).take n) (some ⟨k, lo * sz, none⟩) cap (fun i j => C2.getD ((lo + i) * sz + j) default) hbt hbn (by omega) (fun i row hi => ?_) (fun i row j d hi hj => ?_)
      · rw [hlen] at this
        exact this
      · obtain ⟨g1, g2⟩ := h8 _ row (get i row hi)
        refine ⟨g1, k, lo * sz, rfl, fun j hj => ⟨fun hk => hk.2 h1, ?_⟩⟩
        obtain ⟨v, g3, _⟩ := g2 j row[j] (List.getElem?_eq_getElem (by omega))
        rw [cell_of_row w k _ C2 T2 (0, 0) h6, show lo * sz + i * sz + j = (lo + i) * sz + j by rw [Nat.add_mul], g3]
        simp [Array.getD_eq_getD_getElem?, g3]
      · obtain ⟨g1, g2⟩ := h8 _ row (get i row hi)
        obtain ⟨v, g3, g4⟩ := g2 j d hj
        have : C2.getD ((lo + i) * sz + j) default = v := by simp [Array.getD_eq_getD_getElem?, g3]
        simp only [this]
        exact g4.mono (Fr.refl (fun _ => False) w) (fun _ _ x => x.elim) (fun k _ hk => hk.1)

/-- A pure function may look at a row of one's own, if it answers no rows. -/
theorem A_lend {Q : Ax → St → Prop} {st : St} {ops : Array Oper} {o : Oper} {rest : List Oper} {fo : Operand} {args : Array Operand} {ts : Array TypeId} {f : FuncId} {caps xs cargs : List AV} {R : Res → Prop} (b : Nat) {sz bt : Nat} {l : List (List D)} (hcall : APure P W0 f cargs R) (hb : st.bs[b]? = some (.vec sz bt l))
    (hg : o.guard = none) (ho : o.op = .call ⟨.value fo, args, ts⟩) (hf : evo (lk st.env) fo = some (.fn f caps)) (ha : evl (lk st.env) args.toList = some xs) (hc : callable P f = true) (hd : dOk st.N o.dst = true) (hz : fzL b sz bt l (xs ++ caps) = cargs) (hn : noNames cargs = true)
    (h : ∀ r, R r → ∃ v, (r = .ret (.d (.v v)) ∧ AOps P W0 n ops rest Q (st.put o.dst (.d (.v v)))) ∨ (r = .panic (.d (.v v)) ∧ Q (.panic (.d (.v v))) st)) : AOps P W0 n ops (o :: rest) Q st := by
  intro E M m a w hE hC
  refine wpList_plain hg fun K hK => ?_
  obtain ⟨us, h1, h2⟩ := run_call (P := P) hC ho hf ha hc
  unfold Oper.wp
  rw [h1, Oper.upon_enter]
  have hM : ∀ k, (M k ∧ m b ≠ .at_ k) → M k := fun k hk => hk.1
  have h3 : RAs (fun k => M k ∧ m b ≠ .at_ k) m w cargs us.toList := by
    rw [← hz]
    exact RAs.fz (fun _ _ => rfl) hM (vec_data hC hb) _ _ h2
  have c0 : C W0 ⟨w, fun k => M k ∧ m b ≠ .at_ k, fun _ => .no, 0, []⟩ (fun k => M k ∧ m b ≠ .at_ k) (fun _ => .no) ⟨0, [], []⟩ nobody w := by
    have := hC.callee
    exact { this with eLt := fun k hk => this.eLt k hk.1, mLow := fun k hk => this.mLow k hk.1, mUp := fun k hk => hk, mNew := fun k hk => .inl hk, mLt := fun k hk => this.mLt k hk.1, mNo := this.mNo, mIn := fun b k hb => (by cases hb), oldv := this.oldv, oldr := this.oldr, box := fun b x hb => (by simp at hb), env := fun t x hx => (by simp [lk_nil] at hx) }
  refine (hcall _ (fun _ => .no) w us c0 (RAs.remap (p := fun _ => false) (fun b hb => by cases hb) _ _ hn h3)).mono ?_
  rintro e w' ⟨r, L', M', m', ⟨hR, rfl⟩, hres, hC'⟩
  have hC1 : C W0 ⟨w, M, fun _ => .no, 0, []⟩ (fun k => M' k ∨ m b = .at_ k) m' ⟨0, [], []⟩ nobody w' :=
    { hC' with
      eLt := hC.mLt
      mLow := fun k hk => hk.elim (hC'.mLow k) fun e => hC.mLow k (hC.mIn b k e)
      mUp := fun k hk => by
        by_cases e : m b = .at_ k
        · exact .inr e
        · exact .inl (hC'.mUp k ⟨hk, e⟩)
      mNew := fun k hk => hk.elim (fun x => (hC'.mNew k x).elim (fun y => .inl y.1) .inr) fun e => .inl (hC.mIn b k e)
      mLt := fun k hk => hk.elim (hC'.mLt k) fun e => Nat.lt_of_lt_of_le (hC.mLt k (hC.mIn b k e)) hC'.fr.size
      mNo := hC'.mNo
      mIn := fun b k hb => .inl (hC'.mIn b k hb)
      oldv := fun b cs hb => absurd hb (Nat.not_lt_zero _)
      oldr := fun b k hb => absurd hb (Nat.not_lt_zero _)
      box := fun b x hb => (by simp at hb)
      env := fun t x hx => (by simp [lk_nil] at hx) }
  have hC2 := hC.after hC1
  have one : ∀ (v : Value) (u : Value), RA M' m' w' (.d (.v v)) u → RA (fun k => M' k ∨ m b = .at_ k) m w' (.d (.v v)) u := fun v u hu => by
    simp only [RA] at hu ⊢
    cases hu with
    | v _ hx => exact .v _ hx
  obtain ⟨v, ⟨rfl, h5⟩ | ⟨rfl, h5⟩⟩ := h r hR
  · cases e with
    | returned u => exact hK _ _ (h5 E _ m _ _ hE (hC2.value (dOk_iff hd) (one v u hres)))
    | panicked c => exact hres.elim
    | outgrown => exact hres.elim
  · cases e with
    | returned u => exact hres.elim
    | panicked c =>
      obtain ⟨u, rfl, h3⟩ := hres
      exact ⟨_, m, st, .panic _, hC2, h5, u, rfl, one v u h3⟩
    | outgrown => exact hres.elim

/-- A function is done; its first boxes stay. -/
theorem fin_mk {st : St} {x x' : AV} {L' : List Box} (hb : ∃ ex, st.bs = L' ++ ex) (hl : n ≤ L'.length) (h1 : x'.names (fun b => decide (b < L'.length)) = true) (h2 : L'.all (boxBelow L'.length) = true) (hle : Le x x') : Fin W0 n st x L' x' := by
  intro E M m a w u hE h hx
  have h3 : C W0 E M m ⟨1, ofL (mkEnv 0 [x]), st.bs⟩ ⟨#[u] ++ Array.replicate (1 - 1) undef, E.d⟩ w := h.frame (args := [x]) (us := #[u]) (N := 1) (by simp only [RAs, and_true]; exact hx) (by simp)
  obtain ⟨M', m', h4⟩ := Sb.mk (W0 := W0) (n := n) (st := ⟨1, ofL (mkEnv 0 [x]), st.bs⟩) (N := 1) (env := [(0, x')]) (bs := L') rfl ⟨⟨x, rfl, hle⟩, trivial⟩ hb hl (by simp only [envBelow, List.all_cons, List.all_nil, Bool.and_true]; exact h1) h2 E M m _ w hE h3
  exact ⟨M', m', h4.bare, by simpa using h4.env 0 x' rfl⟩
/-- A function that was handed no box hands back a row of its own. -/
theorem fin_own {st : St} {x : AV} (b : Nat) {sz bt lo k : Nat} {l : List (List D)} (hb : st.bs[b]? = some (.vec sz bt l)) (hx : x = .sl b sz lo k) : Fin W0 0 st x [.vec sz bt l] (.sl 0 sz lo k) := by
  subst hx
  intro E M m a w u hE h hx
  refine ⟨M, fun b' => if b' = 0 then m b else .no, { h.bare with mNo := ?_, mIn := ?_, inj := ?_, oldv := ?_, oldr := ?_, new := ?_, len := ?_, box := ?_, env := ?_ }, ?_⟩
  · intro b' hb'
    simp only [List.length_cons, List.length_nil] at hb'
    exact if_neg (by omega)
  · intro b' k hk
    split at hk
    · exact h.mIn b k hk
    · cases hk
  · intro b1 b2 k h1 h2
    split at h1
    · split at h2
      · omega
      · cases h2
    · cases h1
  · intro b' cs hb'
    omega
  · intro b' k hb'
    omega
  · intro b' k _ hk
    split at hk
    · exact h.new b k (by omega) hk
    · cases hk
  · omega
  · intro b' y hy
    match b', hy with
    | 0, hy =>
      simp only [List.getElem?_cons_zero, Option.some.injEq] at hy
      subst hy
      have := h.box b _ hb
      simp only [BoxR, if_true] at this ⊢
      exact this
  · exact fun t x hx => (by simp [lk_nil] at hx)
  · simp only [RA, if_true] at hx ⊢
    exact hx
end
end Go.Proofs.YtfbegbpipmgfiaaDoor.Lift
end
section
/- The lift, fourteenth part: drawn regions whose last operations turn something. No conditions: words and their laws. -/
set_option linter.unusedVariables false
set_option linter.unusedSimpArgs false
set_option linter.unusedSectionVars false
set_option linter.unnecessarySimpa false
namespace Go.Proofs.YtfbegbpipmgfiaaDoor.Lift
open Go Go.RowKit

/-- What can be listed without an operation, in the order of the text. -/
def grS (md : Region.Mode) (i : Nat) : List Oper → List Bool → List Bool
  | [], S => S
  | o :: l, S => grS md i l (S ++ [S.length != i && o.after.all fun e => !Region.binds md e || S.getD e.on false])
def backF (md : Region.Mode) : List Oper → Nat → Bool
  | [], _ => true
  | o :: l, k => (o.after.all fun e => !Region.binds md e || decide (e.on < k)) && backF md l (k + 1)
def qtf (k : Nat) (qs : List Nat) (i : Nat) : Bool := decide (i < k) || qs.contains i
def chkF (md : Region.Mode) (l : List Oper) (k : Nat) (qs : List Nat) (i : Nat) : Bool := (List.range l.length).all fun j => qtf k qs j || !(grS md i l []).getD j false
def drF (md : Region.Mode) (l : List Oper) (k : Nat) (qs : List Nat) : Nat → Nat → Array Bool → Bool
  | 0, _, _ => true
  | c + 1, i, listed => (Region.ready md l.toArray listed).contains i && Region.free md l.toArray listed i && chkF md l k qs i && drF md l k qs c (i + 1) (listed.setIfInBounds i true)
def setN : Nat → Nat → Array Bool → Array Bool
  | 0, _, L => L
  | c + 1, i, L => setN c (i + 1) (L.setIfInBounds i true)
def drB (l : List Oper) (k : Nat) (qs : List Nat) : Bool := backF .any l 0 && drF .any l k qs k 0 (Array.replicate l.length false)

theorem grS_keep {md : Region.Mode} {i : Nat} : ∀ (l : List Oper) (S : List Bool) (j : Nat), j < S.length → (grS md i l S).getD j false = S.getD j false
  | [], _, _, _ => rfl
  | o :: l, S, j, h => by
    rw [grS, grS_keep l _ j (by simp; omega)]
    simp only [List.getD_eq_getElem?_getD]
    rw [List.getElem?_append_left h]
theorem grS_at {md : Region.Mode} {i : Nat} : ∀ (l : List Oper) (S : List Bool) (j : Nat) (o : Oper), backF md l S.length = true → l[j]? = some o →
    (grS md i l S).getD (S.length + j) false = (S.length + j != i && o.after.all fun e => !Region.binds md e || (grS md i l S).getD e.on false)
  | [], S, j, o, _, h => by simp at h
  | o' :: l, S, 0, o, hb, h => by
    simp only [List.getElem?_cons_zero, Option.some.injEq] at h
    subst h
    simp only [backF, Bool.and_eq_true] at hb
    rw [grS, grS_keep l _ _ (by simp)]
    simp only [List.getD_eq_getElem?_getD, Nat.add_zero]
    rw [List.getElem?_append_right (Nat.le_refl _)]
    simp only [Nat.sub_self, List.getElem?_cons_zero, Option.getD_some]
    congr 1
    rw [Bool.eq_iff_iff, Array.all_eq_true_iff_forall_mem, Array.all_eq_true_iff_forall_mem]
    have hk : ∀ e ∈ o'.after, Region.binds md e = true → (grS md i l (S ++ [S.length != i && o'.after.all fun e => !Region.binds md e || S[e.on]?.getD false]))[e.on]?.getD false = S[e.on]?.getD false := fun e he hbd => by
      have h1 := Array.all_eq_true_iff_forall_mem.1 hb.1 e he
      simp only [hbd, Bool.not_true, Bool.false_or, decide_eq_true_eq] at h1
      have := grS_keep (md := md) (i := i) l (S ++ [S.length != i && o'.after.all fun e => !Region.binds md e || S[e.on]?.getD false]) e.on (by simp; omega)
      simp only [List.getD_eq_getElem?_getD] at this
      rw [this, List.getElem?_append_left h1]
    constructor
    · intro h e he
      have := h e he
      cases hbd : Region.binds md e
      · rfl
      · rw [hbd] at this
        rw [hk e he hbd]
        exact this
    · intro h e he
      have := h e he
      cases hbd : Region.binds md e
      · rfl
      · rw [hbd] at this
        rw [hk e he hbd] at this
        exact this
  | o' :: l, S, j + 1, o, hb, h => by
    simp only [backF, Bool.and_eq_true] at hb
    have := grS_at (md := md) (i := i) l (S ++ [S.length != i && o'.after.all fun e => !Region.binds md e || S.getD e.on false]) j o (by simpa using hb.2) (by simpa using h)
    rw [grS]
    rw [show S.length + (j + 1) = (S ++ [S.length != i && o'.after.all fun e => !Region.binds md e || S.getD e.on false]).length + j by simp; omega]
    exact this

/-- Listed only behind what it waits for. -/
def DC (md : Region.Mode) (ops : Array Oper) (listed : Array Bool) : Prop := ∀ (j : Nat) (o : Oper), ops[j]? = some o → listed.getD j false = true → ∀ e ∈ o.after, Region.binds md e = true → listed.getD e.on false = true
theorem DC.set {md : Region.Mode} {ops : Array Oper} {listed : Array Bool} (h : DC md ops listed) {i : Nat} (hi : i ∈ Region.ready md ops listed) : DC md ops (listed.setIfInBounds i true) := by
  intro j o ho hj e he hb
  by_cases hij : i = j
  · subst hij
    obtain ⟨_, o', ho', hall⟩ := mem_ready.1 hi
    rw [ho] at ho'
    cases ho'
    exact getD_set_true (hall e he hb)
  · rw [getD_set_ne false hij] at hj
    exact getD_set_true (h j o ho hj e he hb)
theorem back_spec {md : Region.Mode} : ∀ (l : List Oper) (k j : Nat) (o : Oper), backF md l k = true → l[j]? = some o → ∀ e ∈ o.after, Region.binds md e = true → e.on < k + j
  | [], _, _, _, _, h => by simp at h
  | o' :: l, k, 0, o, hb, h => by
    simp only [List.getElem?_cons_zero, Option.some.injEq] at h
    subst h
    simp only [backF, Bool.and_eq_true] at hb
    intro e he hbd
    have h1 := Array.all_eq_true_iff_forall_mem.1 hb.1 e he
    simpa [hbd] using h1
  | o' :: l, k, j + 1, o, hb, h => by
    simp only [backF, Bool.and_eq_true] at hb
    intro e he hbd
    have := back_spec l (k + 1) j o hb.2 (by simpa using h) e he hbd
    omega
theorem grS_all {md : Region.Mode} {l : List Oper} {i : Nat} (hb : backF md l 0 = true) {listed : Array Bool} (hs : listed.size = l.length) (hdc : DC md l.toArray listed) (hi : listed.getD i false = false) : ∀ j, listed.getD j false = true → (grS md i l []).getD j false = true := by
  intro j
  induction j using Nat.strongRecOn with
  | _ j ih =>
    intro hj
    have hlt : j < l.length := by
      rcases Nat.lt_or_ge j listed.size with h | h
      · omega
      · simp [Array.getElem?_eq_none h] at hj
    have ho : l[j]? = some l[j] := List.getElem?_eq_getElem hlt
    have := grS_at (md := md) (i := i) l [] j l[j] hb ho
    simp only [List.length_nil, Nat.zero_add] at this
    rw [this, Bool.and_eq_true]
    refine ⟨?_, Array.all_eq_true_iff_forall_mem.2 fun e he => ?_⟩
    · simp only [bne_iff_ne, ne_eq]
      rintro rfl
      rw [hi] at hj
      cases hj
    · cases hbd : Region.binds md e
      · rfl
      · have h1 := back_spec l 0 j l[j] hb ho e he hbd
        have h2 := hdc j l[j] (by simpa using ho) hj e he hbd
        rw [ih e.on (by omega) h2]
        rfl
theorem chk_spec {md : Region.Mode} {l : List Oper} {k : Nat} {qs : List Nat} {i : Nat} (hb : backF md l 0 = true) (hq : qtf k qs i = true) (hc : chkF md l k qs i = true) {listed : Array Bool} (hs : listed.size = l.length) (hdc : DC md l.toArray listed) (hi : listed.getD i false = false) : ∀ j ∈ Region.ready md l.toArray listed, qtf k qs j = true := by
  intro j hj
  obtain ⟨h0, o, ho, hall⟩ := mem_ready.1 hj
  have ho' : l[j]? = some o := by simpa using ho
  have hlt : j < l.length := (List.getElem?_eq_some_iff.1 ho').1
  have h1 := List.all_eq_true.1 hc j (List.mem_range.2 hlt)
  rw [Bool.or_eq_true] at h1
  by_cases hj' : qtf k qs j = true
  · exact hj'
  exfalso
  have h2 := h1.resolve_left hj'
  have h3 := grS_at (md := md) (i := i) l [] j o hb ho'
  simp only [List.length_nil, Nat.zero_add] at h3
  rw [h3] at h2
  have h4 : (o.after.all fun e => !Region.binds md e || (grS md i l []).getD e.on false) = true := Array.all_eq_true_iff_forall_mem.2 fun e he => by
    cases hbd : Region.binds md e
    · rfl
    · rw [grS_all hb hs hdc hi e.on (hall e he hbd)]
      rfl
  rw [h4, Bool.and_true] at h2
  simp only [Bool.not_eq_true', bne_eq_false_iff_eq] at h2
  subst h2
  exact hj' hq

section
variable {P : Program} {W0 : World} {n : Nat}

variable {X : Ax → St → Prop}
/-- An operation that may turn something; how it may end the call. -/
def gO (P : Program) (W0 : World) (n N : Nat) (X : Ax → St → Prop) (ops : Array Oper) (o : Oper) (K : List Box → (Nat → Option AV) → Prop) (bs : List Box) (e : Nat → Option AV) : Prop :=
  ∀ E M m a w (Q : Exit → Act → World → Prop), E.n = n → CE W0 E M m N bs e a w → (∀ e a w, e ≠ .normal → LQ W0 E X e a w → Q e a w) → if Region.wanted o (yielded ops a.tmps) then o.wp P a w (fun a' w' => ∃ M' m' bs' e', CE W0 E M' m' N bs' e' a' w' ∧ K bs' e') Q else ∃ M' m' bs' e', CE W0 E M' m' N bs' e' (a.put o.dst undef) w ∧ K bs' e'
def anyS (P : Program) (W0 : World) (n N : Nat) (X : Ax → St → Prop) (md : Region.Mode) (ops : Array Oper) (qt : Nat → Bool) (Q : List Box → (Nat → Option AV) → Prop) : Nat → Array Bool → List Box → (Nat → Option AV) → Prop
  | 0, listed, bs, e => Region.ready md ops listed = [] ∧ Q bs e
  | fuel + 1, listed, bs, e => (Region.ready md ops listed = [] → Q bs e) ∧ ∀ i ∈ Region.ready md ops listed, ∃ o, ops[i]? = some o ∧
      if qt i = true then ∃ x, Yl P W0 bs ops e o x ∧ anyS P W0 n N X md ops qt Q fuel (listed.setIfInBounds i true) bs (upd e o.dst x)
      else gO P W0 n N X ops o (fun bs' e' => anyS P W0 n N X md ops qt Q fuel (listed.setIfInBounds i true) bs' e') bs e

theorem wpAny_ofS {E : En} {N : Nat} {md : Region.Mode} {ops : Array Oper} {qt : Nat → Bool} {Q : List Box → (Nat → Option AV) → Prop} {Q' : Exit → Act → World → Prop} (hE : E.n = n) (hd : ∀ (i : Nat) (o : Oper), ops[i]? = some o → dOk N o.dst = true) (hX : ∀ e a w, e ≠ .normal → LQ W0 E X e a w → Q' e a w) (hQ : ∀ M m bs e a w, CE W0 E M m N bs e a w → Q bs e → Q' .normal a w) :
    ∀ (fuel : Nat) (listed : Array Bool) (M : Nat → Prop) (m : Nat → Pl) (bs : List Box) (e : Nat → Option AV) (a : Act) (w : World), CE W0 E M m N bs e a w → anyS P W0 n N X md ops qt Q fuel listed bs e → wpAny P md ops Q' fuel listed a w
  | 0, _, M, m, bs, e, a, w, hw, h => ⟨h.1, hQ M m bs e a w hw h.2⟩
  | fuel + 1, listed, M, m, bs, e, a, w, hw, h => ⟨fun h0 => hQ M m bs e a w hw (h.1 h0), fun i hi => by
      obtain ⟨o, ho, h1⟩ := h.2 i hi
      unfold wpOp
      simp only [ho]
      by_cases hq : qt i = true
      · rw [if_pos hq] at h1
        obtain ⟨x, hy, hk⟩ := h1
        have := Yl_sound (K := wpAny P md ops Q' fuel (listed.setIfInBounds i true)) (Q := Q') hw (hd i o ho) hy fun M' a' w' hc => wpAny_ofS hE hd hX hQ fuel _ M' m bs _ a' w' hc hk
        split
        · rename_i hwt
          rw [if_pos hwt] at this
          exact .inl this
        · rename_i hwt
          rw [if_neg hwt] at this
          exact this
      · rw [if_neg hq] at h1
        have := h1 E M m a w Q' hE hw hX
        split
        · rename_i hwt
          rw [if_pos hwt] at this
          exact .inl (Oper.wp_mono (fun a' w' ⟨M', m', bs', e', hc, hk⟩ => wpAny_ofS hE hd hX hQ fuel _ M' m' bs' e' a' w' hc hk) this)
        · rename_i hwt
          rw [if_neg hwt] at this
          obtain ⟨M', m', bs', e', hc, hk⟩ := this
          exact wpAny_ofS hE hd hX hQ fuel _ M' m' bs' e' _ w hc hk⟩

theorem anyS_first {N : Nat} {md : Region.Mode} {ops : Array Oper} {qt : Nat → Bool} {Q : List Box → (Nat → Option AV) → Prop} {bs : List Box} {i : Nat} {oi : Oper} {x : AV} (hi : ops[i]? = some oi) (hqi : qt i = true)
    (hT : ∀ listed : Array Bool, listed.size = ops.size → DC md ops listed → listed.getD i false = false → ∀ j ∈ Region.ready md ops listed, qt j = true) :
    ∀ (fuel : Nat) (listed : Array Bool) (e : Nat → Option AV), listed.size = ops.size → DC md ops listed →
      (∀ j oj, ops[j]? = some oj → j ≠ i → listed.getD j true = false → (∀ e ∈ oj.after, Region.binds md e = true → e.on ≠ i) → oi.apart ops oj = true) →
      i ∈ Region.ready md ops listed → Yl P W0 bs ops e oi x →
      anyS P W0 n N X md ops qt Q fuel (listed.setIfInBounds i true) bs (upd e oi.dst x) → anyS P W0 n N X md ops qt Q (fuel + 1) listed bs e := by
  intro fuel
  have own : ∀ (fuel : Nat) (listed : Array Bool) (e : Nat → Option AV), Yl P W0 bs ops e oi x → anyS P W0 n N X md ops qt Q fuel (listed.setIfInBounds i true) bs (upd e oi.dst x) → ∃ o, ops[i]? = some o ∧
      if qt i = true then ∃ x, Yl P W0 bs ops e o x ∧ anyS P W0 n N X md ops qt Q fuel (listed.setIfInBounds i true) bs (upd e o.dst x)
      else gO P W0 n N X ops o (fun bs' e' => anyS P W0 n N X md ops qt Q fuel (listed.setIfInBounds i true) bs' e') bs e := fun fuel listed e hy hk => by
    refine ⟨oi, hi, ?_⟩
    rw [if_pos hqi]
    exact ⟨x, hy, hk⟩
  induction fuel with
  | zero =>
    intro listed e hs hdc _ hr hy H
    refine ⟨fun h => (by rw [h] at hr; cases hr), fun j hj => ?_⟩
    by_cases hji : j = i
    · subst hji; exact own _ _ _ hy H
    · have := ready_mono hj hji
      rw [H.1] at this
      cases this
  | succ fuel ih =>
    intro listed e hs hdc hfree hr hy H
    refine ⟨fun h => (by rw [h] at hr; cases hr), fun j hj => ?_⟩
    by_cases hji : j = i
    · subst hji; exact own _ _ _ hy H
    · have hun : listed.getD i false = false := by
        have h0 := (mem_ready.1 hr).1
        rcases Nat.lt_or_ge i listed.size with h' | h'
        · simp [h'] at h0 ⊢; exact h0
        · simp [Array.getElem?_eq_none h']
      have hqj := hT listed hs hdc hun j hj
      obtain ⟨oj, hoj, h1⟩ := H.2 j (ready_mono hj hji)
      rw [if_pos hqj] at h1
      obtain ⟨hjun, oj', hoj', hall⟩ := mem_ready.1 hj
      rw [hoj] at hoj'
      cases hoj'
      have hnot : ∀ e ∈ oj.after, Region.binds md e = true → e.on ≠ i := fun e he hb heq => by
        have h1 := hall e he hb
        rw [heq, hun] at h1
        cases h1
      obtain ⟨p1, p2, p3⟩ := Oper.apart_spec (hfree j oj hoj hji hjun hnot)
      have hfree' : ∀ k ok, ops[k]? = some ok → k ≠ i → (listed.setIfInBounds j true).getD k true = false →
          (∀ e ∈ ok.after, Region.binds md e = true → e.on ≠ i) → oi.apart ops ok = true := fun k ok hk hki hun hno => by
        refine hfree k ok hk hki ?_ hno
        by_cases hjk : j = k
        · subst hjk; exact hjun
        · rw [getD_set_ne true hjk] at hun; exact hun
      obtain ⟨y, hy1, hy2⟩ := h1
      refine ⟨oj, hoj, ?_⟩
      rw [if_pos hqj]
      refine ⟨y, (Yl_upd p1).1 hy1, ih (listed.setIfInBounds j true) _ (by simpa using hs) (hdc.set hj) hfree' (ready_mono hr (Ne.symm hji)) ((Yl_upd p3).2 hy) ?_⟩
      rw [Array.setIfInBounds_comm _ _ hji, ← upd_comm e x y p2]
      exact hy2

theorem anyS_lex {N : Nat} {md : Region.Mode} {l : List Oper} {k : Nat} {qs : List Nat} {Q : List Box → (Nat → Option AV) → Prop} {bs : List Box} {fuel : Nat} (hb : backF md l 0 = true) : ∀ (l1 : List Oper) (i : Nat) (listed : Array Bool) (env : List (List (Option AV))), (∀ j : Nat, j < l1.length → l1[j]? = l[i + j]?) → i + l1.length ≤ k → listed.size = l.length → DC md l.toArray listed →
    drF md l k qs l1.length i listed = true → aqs P W0 bs l.toArray (fun env => anyS P W0 n N X md l.toArray (qtf k qs) Q fuel (setN l1.length i listed) bs (lk env)) l1 env → anyS P W0 n N X md l.toArray (qtf k qs) Q (l1.length + fuel) listed bs (lk env)
  | [], i, listed, env, _, _, _, _, _, h => by
    simp only [List.length_nil, Nat.zero_add]
    exact h
  | o :: l1, i, listed, env, hl, hk, hs, hdc, hB, h => by
    have h0 : l.toArray[i]? = some o := by
      have := hl 0 (by simp)
      simpa using this.symm
    simp only [List.length_cons, drF, Bool.and_eq_true] at hB
    obtain ⟨⟨⟨hr, hf⟩, hc⟩, hB'⟩ := hB
    obtain ⟨x, hy, hkk⟩ := h
    have hqi : qtf k qs i = true := by
      simp only [List.length_cons] at hk
      simp only [qtf, Bool.or_eq_true, decide_eq_true_eq]
      left
      omega
    have hmem : i ∈ Region.ready md l.toArray listed := by simpa using hr
    have := anyS_first (P := P) (W0 := W0) (n := n) (X := X) (N := N) (Q := Q) (bs := bs) h0 hqi (fun listed hs hdc hun => chk_spec hb hqi hc (by simpa using hs) hdc hun) (l1.length + fuel) listed (lk env) (by simpa using hs) hdc (Region.free_spec h0 hf) hmem hy ?_
    · simp only [List.length_cons]
      rw [show l1.length + 1 + fuel = l1.length + fuel + 1 by omega]
      exact this
    rw [← lk_putL]
    exact anyS_lex hb l1 (i + 1) _ _ (fun j hj => by have := hl (j + 1) (by simp; omega); simpa [Nat.add_assoc, Nat.add_comm 1 j] using this) (by simp only [List.length_cons] at hk; omega) (by simpa using hs) (hdc.set hmem) hB' hkk

/-- What is left of a drawn region. -/
def TL (P : Program) (W0 : World) (n N : Nat) (ops : Array Oper) (qt : Nat → Bool) (Q : Ax → St → Prop) (fuel : Nat) (listed : Array Bool) (bs : List Box) (env : List (List (Option AV))) : Prop :=
  anyS P W0 n N Q .any ops qt (fun bs e => ∃ env', lk env' = e ∧ Q .normal ⟨N, env', bs⟩) fuel listed bs (lk env)
theorem A_drawn {Q : Ax → St → Prop} {st : St} {id : Nat} {l l1 : List Oper} {gs : List (Option (Option Nat × Bool))} (k : Nat) (qs : List Nat) (hm : P.follows .mixedOrders = true) (h1 : l.take k = l1) (hB : drB l k qs = true) (hg : gsl l.toArray l1 = gs) (hd : l.all (okO st.N) = true) (hk : k ≤ l.length)
    (h : aqg P W0 st.bs l.toArray (fun env => TL P W0 n st.N l.toArray (qtf k qs) Q (l.length - k) (setN k 0 (Array.replicate l.length false)) st.bs env) l1 gs st.env) : ACode P W0 n (.region id l.toArray true) Q st := by
  intro E M m a w hn hC
  have hd' : ∀ (i : Nat) (o : Oper), l.toArray[i]? = some o → dOk st.N o.dst = true := fun i o ho => okO_d (List.all_eq_true.1 hd o (List.mem_of_getElem? (by simpa using ho)))
  simp only [drB, Bool.and_eq_true] at hB
  have hl1 : l1.length = k := by rw [← h1, List.length_take]; omega
  refine wpR_region_any LQ_in (okO_n hd) hm (wpAny_ofS (P := P) (W0 := W0) (n := n) (X := Q) (qt := qtf k qs) (Q := fun bs e => ∃ env', lk env' = e ∧ Q .normal ⟨st.N, env', bs⟩) hn hd' (fun _ _ _ _ h => h) (fun M m bs e a w hc ⟨env', he, hq⟩ => ⟨M, m, ⟨st.N, env', bs⟩, .normal, CE.to (by rw [he]; exact hc), hq, trivial⟩) _ _ M m st.bs (lk st.env) a _ (CE.of hC.drew) ?_)
  have := anyS_lex (P := P) (W0 := W0) (n := n) (X := Q) (N := st.N) (md := .any) (l := l) (k := k) (qs := qs) (bs := st.bs) (fuel := l.length - k) (Q := fun bs e => ∃ env', lk env' = e ∧ Q .normal ⟨st.N, env', bs⟩) hB.1 l1 0 (Array.replicate l.length false) st.env (fun j hj => by rw [← h1, List.getElem?_take, if_pos (by omega), Nat.zero_add]) (by omega) (by simp) (fun j o _ hj => by simp [Array.getD_eq_getD_getElem?, Array.getElem?_replicate] at hj; split at hj <;> simp at hj) (by rw [hl1]; exact hB.2) (by rw [hl1]; exact h hg)
  rw [hl1] at this
  simpa [show k + (l.length - k) = l.length by omega] using this
theorem T_nil {N : Nat} {ops : Array Oper} {qt : Nat → Bool} {Q : Ax → St → Prop} {fuel : Nat} {listed : Array Bool} {bs : List Box} {env : List (List (Option AV))} (hr : Region.ready .any ops listed = []) (h : Q .normal ⟨N, env, bs⟩) : TL P W0 n N ops qt Q fuel listed bs env := by
  cases fuel with
  | zero => exact ⟨hr, env, rfl, h⟩
  | succ k => exact ⟨fun _ => ⟨env, rfl, h⟩, fun i hi => by rw [hr] at hi; cases hi⟩
theorem wp_exits {o : Oper} {a : Act} {w : World} {K : Act → World → Prop} {Q Q' : Exit → Act → World → Prop} (h : ∀ e a w, e ≠ .normal → Q e a w → Q' e a w) (hh : o.wp P a w K Q) : o.wp P a w K Q' := by
  unfold Oper.wp at *
  generalize (execOp a.eval o).run P w = r at *
  cases r with
  | ok n w' =>
    cases n <;> simp only [Oper.upon] at hh ⊢ <;>
      first
        | exact hh
        | exact h _ _ _ (by simp) hh
        | exact Calls.mono hh (fun e w'' he => by cases e <;> first | exact he | exact (let ⟨a, w, h'⟩ := he; ⟨a, w, h _ _ _ (by simp) h'⟩) | exact h _ _ _ (by simp) he)
  | halt x w' => cases x <;> simp only [Oper.upon] at hh ⊢ <;> first | exact hh | exact h _ _ _ (by simp) hh
/-- What a part of a region leaves, or the whole. -/
def TQ (Q : Ax → St → Prop) (N : Nat) (K : St → Prop) : Ax → St → Prop
  | .normal, st => st.N = N ∧ K st
  | .exit i, st => Q (.exit i) st
  | .goto i, st => Q (.goto i) st
  | .ret, st => Q .ret st
  | .panic x, st => Q (.panic x) st
theorem gO_of {N : Nat} {ops : Array Oper} {o : Oper} {bs : List Box} {env : List (List (Option AV))} {K : List Box → (Nat → Option AV) → Prop} (hg : o.guard = none) (h : AOps P W0 n ops [o] (TQ X N fun st' => K st'.bs (lk st'.env)) ⟨N, env, bs⟩) : gO P W0 n N X ops o K bs (lk env) := by
  intro E M m a w Q hn hc hX
  have := h E M m a w hn hc.to
  have hw : Region.wanted o (yielded ops a.tmps) = true := by simp [Region.wanted, hg]
  unfold wpList at this
  rw [if_pos hw] at this ⊢
  have ex : ∀ e a w, e ≠ .normal → LQ W0 E (TQ X N fun st' => K st'.bs (lk st'.env)) e a w → Q e a w := by
    rintro e a w he ⟨M, m, st, ax, h1, h2, h3⟩
    refine hX e a w he ⟨M, m, st, ax, h1, ?_, h3⟩
    cases ax with
    | normal => cases e <;> first | exact (he rfl).elim | exact h3.elim
    | _ => exact h2
  rcases this with h1 | ⟨_, a, w, h1⟩
  · refine wp_exits ex (Oper.wp_mono ?_ h1)
    rintro a' w' ⟨M', m', st', ax, h2, h4, h3⟩
    cases ax with
    | normal =>
      obtain ⟨rfl, h4⟩ := h4
      exact ⟨M', m', st'.bs, lk st'.env, CE.of h2, h4⟩
    | _ => exact h3.elim
  · obtain ⟨M, m, st, ax, _, _, h3⟩ := h1
    cases ax <;> exact h3.elim
theorem T_one {N : Nat} {ops : Array Oper} {qt : Nat → Bool} {Q : Ax → St → Prop} {fuel : Nat} {listed : Array Bool} {bs : List Box} {env : List (List (Option AV))} (i : Nat) (o : Oper) (hr : Region.ready .any ops listed = [i]) (ho : ops[i]? = some o) (hq : qt i = false) (hg : o.guard = none)
    (h : AOps P W0 n ops [o] (TQ Q N fun st' => TL P W0 n N ops qt Q fuel (listed.setIfInBounds i true) st'.bs st'.env) ⟨N, env, bs⟩) : TL P W0 n N ops qt Q (fuel + 1) listed bs env := by
  refine ⟨fun h0 => (by rw [hr] at h0; cases h0), fun j hj => ?_⟩
  rw [hr, List.mem_singleton] at hj
  subst hj
  refine ⟨o, ho, ?_⟩
  rw [if_neg (by rw [hq]; simp)]
  exact gO_of hg h
end
end Go.Proofs.YtfbegbpipmgfiaaDoor.Lift
end
section
/- The lift, fifteenth part: a variable that becomes data; slices held against nil, slices of no elements, slices cleared. No conditions: words and their laws. -/
set_option linter.unusedVariables false
set_option linter.unusedSimpArgs false
set_option linter.unusedSectionVars false
namespace Go.Proofs.YtfbegbpipmgfiaaDoor.Lift
open Go Go.RowKit

mutual
/-- A variable becomes data. -/
def fvA (b : Nat) (ds : List D) : AV → AV
  | .ptr b' j => if b' = b then .dp (ds.drop j) else .ptr b' j
  | .ep b' sz' i j => if b' = b then .junk else .ep b' sz' i j
  | .sl b' sz' lo n => if b' = b then .junk else .sl b' sz' lo n
  | .fn f x => .fn f (fvL b ds x)
  | .yd r ts x => .yd r ts (fvL b ds x)
  | .agg x => .agg (fvL b ds x)
  | .tup x => .tup (fvL b ds x)
  | .opt g x => .opt g (fvA b ds x)
  | .mref b' => if b' = b then .junk else .mref b'
  | x => x
def fvL (b : Nat) (ds : List D) : List AV → List AV
  | [] => []
  | x :: xs => fvA b ds x :: fvL b ds xs
end
def fvE (b : Nat) (ds : List D) (e : List (List (Option AV))) : List (List (Option AV)) := mapE (fvA b ds) e
def fvB (b : Nat) (ds : List D) : Box → Box
  | .var cs => .var (fvL b ds cs)
  | .own sz' bt' cs => .own sz' bt' (fvL b ds cs)
  | x => x
theorem fvL_len (b : Nat) (ds : List D) : ∀ l : List AV, (fvL b ds l).length = l.length
  | [] => rfl
  | x :: l => by simp only [fvL, List.length_cons, fvL_len b ds l]

section
variable {M M' : Nat → Prop} {m m' : Nat → Pl} {w : World} {b : Nat} {ds : List D} (hm : ∀ b', b' ≠ b → m' b' = m b') (hM : ∀ k, M' k → M k) (hsl : ∀ (j : Nat) (u : Value), (∃ k, m b = .at_ k ∧ u = .pointer (some ⟨k, j, none⟩)) → ∃ g o, u = .pointer (some ⟨g, o, none⟩) ∧ PD M' w g o (ds.drop j))
include hm hM hsl
mutual
theorem RA.fv : ∀ (x : AV) (u : Value), RA M m w x u → RA M' m' w (fvA b ds x) u
  | .d x, u, h => by
    simp only [fvA, RA] at h ⊢
    exact h.mono (Fr.refl (fun _ => False) w) (fun _ _ x => x.elim) (fun k _ hk => hM k hk)
  | .dp ds', u, h => by
    simp only [fvA, RA] at h ⊢
    obtain ⟨g, o, h1, h2⟩ := h
    exact ⟨g, o, h1, h2.mono (Fr.refl (fun _ => False) w) (fun _ _ x => x.elim) (fun k _ hk => hM k hk)⟩
  | .ptr b' j, u, h => by
    simp only [fvA]
    split
    · rename_i e
      subst e
      simp only [RA] at h ⊢
      exact hsl j u h
    · rename_i e
      simp only [RA] at h ⊢
      rwa [hm b' e]
  | .ep b' sz' i j, u, h => by
    simp only [fvA]
    split
    · simp only [RA]
    · rename_i e
      simp only [RA] at h ⊢
      rwa [hm b' e]
  | .sl b' sz' lo n, u, h => by
    simp only [fvA]
    split
    · simp only [RA]
    · rename_i e
      simp only [RA] at h ⊢
      rwa [hm b' e]
  | .fn f x, u, h => by
    simp only [fvA, RA] at h ⊢
    obtain ⟨us, h1, h2⟩ := h
    exact ⟨us, h1, RAs.fv _ _ h2⟩
  | .yd r ts x, u, h => by
    simp only [fvA, RA] at h ⊢
    obtain ⟨k, h1, g1, g2, h2⟩ := h
    exact ⟨k, h1, fun x => g1 (hM k x), g2, RAs.fv _ _ h2⟩
  | .agg x, u, h => by
    simp only [fvA, RA] at h ⊢
    obtain ⟨us, h1, h2⟩ := h
    exact ⟨us, h1, RAs.fv _ _ h2⟩
  | .tup x, u, h => by
    simp only [fvA, RA] at h ⊢
    obtain ⟨us, h1, h2⟩ := h
    exact ⟨us, h1, RAs.fv _ _ h2⟩
  | .opt g x, u, h => by
    simp only [fvA, RA] at h ⊢
    exact ⟨fun hg => RA.fv x u (h.1 hg), h.2⟩
  | .mref b', u, h => by
    simp only [fvA]
    split
    · simp only [RA]
    · rename_i e
      simp only [RA] at h ⊢
      rwa [hm b' e]
  | .junk, u, h => by simp only [fvA, RA]
theorem RAs.fv : ∀ (x : List AV) (us : List Value), RAs M m w x us → RAs M' m' w (fvL b ds x) us
  | [], [], h => by simp only [fvL, RAs]
  | x :: xs, u :: us, h => by
    simp only [fvL, RAs] at h ⊢
    exact ⟨RA.fv x u h.1, RAs.fv xs us h.2⟩
  | [], _ :: _, h => by simp only [RAs] at h
  | _ :: _, [], h => by simp only [RAs] at h
end
end
theorem lk_fvE {b : Nat} {ds : List D} {x : List (List (Option AV))} {t : Nat} {y : AV} (h : lk (fvE b ds x) t = some y) : ∃ z, lk x t = some z ∧ y = fvA b ds z := by
  rw [fvE, lk_mapE, Option.map_eq_some_iff] at h
  obtain ⟨z, h1, h2⟩ := h
  exact ⟨z, h1, h2.symm⟩

section
variable {P : Program} {W0 : World} {n : Nat}

theorem Sb.freezeV {st : St} (b : Nat) {cs : List AV} {ds : List D} (hb : st.bs[b]? = some (.var cs)) (hds : toDs cs = some ds) (hn : n ≤ b) : Sb W0 n st ⟨st.N, fvE b ds st.env, (st.bs.map (fvB b ds)).set b .dead⟩ := by
  intro E M m a w hE h
  have hblt : b < st.bs.length := (List.getElem?_eq_some_iff.1 hb).1
  have hbox := h.box b _ hb
  simp only [BoxR] at hbox
  have hm : ∀ b', b' ≠ b → mAdd m b .no b' = m b' := fun b' e => if_neg e
  have hmb : mAdd m b .no b = .no := if_pos rfl
  have hMM : ∀ k, (M k ∧ m b ≠ .at_ k) → M k := fun k hk => hk.1
  have at_ : ∀ b' k, mAdd m b .no b' = .at_ k → b' ≠ b ∧ m b' = .at_ k := fun b' k hk => by
    by_cases e : b' = b
    · subst e
      rw [hmb] at hk
      cases hk
    · rw [hm b' e] at hk
      exact ⟨e, hk⟩
  have hsl : ∀ (j : Nat) (u : Value), (∃ k, m b = .at_ k ∧ u = .pointer (some ⟨k, j, none⟩)) → ∃ g o, u = .pointer (some ⟨g, o, none⟩) ∧ PD (fun k => M k ∧ m b ≠ .at_ k) w g o (ds.drop j) := by
    rintro j u ⟨k, h1, rfl⟩
    obtain ⟨k', C2, T2, h5, h6, h7⟩ := hbox
    rw [h1] at h5
    cases h5
    refine ⟨k, j, rfl, fun i d hi => ?_⟩
    rw [List.getElem?_drop] at hi
    have h8 : cs[j + i]? = some (.d d) := by rw [toDs_eq hds, List.getElem?_map, hi]; rfl
    obtain ⟨u, h9, h10⟩ := h7.get h8
    simp only [RA] at h10
    refine ⟨u, fun hk => hk.2 h1, ?_, h10.mono (Fr.refl (fun _ => False) w) (fun _ _ x => x.elim) (fun k _ hk => hk.1)⟩
    rw [cell_of_row w k _ C2 T2 (0, 0) h6]
    simpa using h9
  have getb : ∀ (b' : Nat) (y : Box), ((st.bs.map (fvB b ds)).set b .dead)[b']? = some y → (b' = b ∧ y = .dead) ∨ ∃ z, b' ≠ b ∧ st.bs[b']? = some z ∧ y = fvB b ds z := by
    intro b' y hy
    by_cases e : b' = b
    · subst e
      rw [List.getElem?_set_self (by simpa using hblt)] at hy
      cases hy
      exact .inl ⟨rfl, rfl⟩
    · rw [List.getElem?_set_ne (Ne.symm e), List.getElem?_map] at hy
      cases hx : st.bs[b']? with
      | none => simp [hx] at hy
      | some z =>
        simp only [hx, Option.map_some, Option.some.injEq] at hy
        exact .inr ⟨z, e, rfl, hy.symm⟩
  refine ⟨fun k => M k ∧ m b ≠ .at_ k, mAdd m b .no, { h with mLow := fun k hk => h.mLow k hk.1, mUp := ?_, mNew := fun k hk => h.mNew k hk.1, mLt := fun k hk => h.mLt k hk.1, mNo := ?_, mIn := ?_, inj := ?_, oldv := ?_, oldr := fun b' k hb' hk => h.oldr b' k hb' (at_ b' k hk).2, new := fun b' k hb' hk => h.new b' k hb' (at_ b' k hk).2, len := by simpa using h.len, box := ?_, env := ?_ }⟩
  · intro k hk
    refine ⟨h.mUp k hk, fun e => ?_⟩
    have h1 := h.new b k (by omega) e
    have h2 := h.eLt k hk
    omega
  · intro b' hb'
    simp at hb'
    rw [hm b' (by omega)]
    exact h.mNo b' hb'
  · intro b' k hk
    obtain ⟨e, h1⟩ := at_ b' k hk
    exact ⟨h.mIn b' k h1, fun e2 => e (h.inj b' b k h1 e2)⟩
  · intro b1 b2 k h1 h2
    exact h.inj b1 b2 k (at_ b1 k h1).2 (at_ b2 k h2).2
  · intro b' cs hb' hc
    rcases getb b' _ hc with ⟨_, h1⟩ | ⟨z, e, h1, h2⟩
    · cases h1
    · rw [hm b' e]
      cases z <;> simp only [fvB] at h2 <;> first
        | (cases h2; done)
        | exact h.oldv b' _ hb' h1
  · intro b' y hy
    rcases getb b' y hy with ⟨_, rfl⟩ | ⟨z, e, h1, rfl⟩
    · trivial
    · have hz := h.box b' z h1
      cases z with
      | dead => trivial
      | var cs =>
        obtain ⟨q, C, T, h1, h2, h3⟩ := hz
        exact ⟨q, C, T, (hm b' e).trans h1, h2, RAs.fv hm hMM hsl _ _ h3⟩
      | vec sz' bt' l' =>
        have hz' := BoxR.mono (M' := fun k => M k ∧ m b ≠ .at_ k) hz (Fr.refl (fun _ => False) w) (fun _ _ x => x.elim) (fun k _ hk => hk.1) (fun _ _ x => x)
        obtain ⟨g0, g1, g2, g3⟩ := hz'
        refine ⟨g0, g1, g2, ?_⟩
        rcases g3 with ⟨h4, h5⟩ | ⟨q, C, T, h4, h5⟩
        · exact .inl ⟨(hm b' e).trans h4, h5⟩
        · exact .inr ⟨q, C, T, (hm b' e).trans h4, h5⟩
      | mp es =>
        obtain ⟨q, F, c, h1, h2⟩ := hz
        exact ⟨q, F, c, (hm b' e).trans h1, h2⟩
      | own sz' bt' cs =>
        obtain ⟨g0, g1, g2, g3⟩ := hz
        refine ⟨g0, g1, by simpa only [fvL_len] using g2, ?_⟩
        rcases g3 with ⟨h4, h5⟩ | ⟨q, C, T, h4, h5, h6, h7⟩
        · exact .inl ⟨(hm b' e).trans h4, by rw [h5]; rfl⟩
        · refine .inr ⟨q, C, T, (hm b' e).trans h4, h5, by simpa only [fvL_len] using h6, ?_⟩
          rw [fvL_len]
          exact RAs.fv hm hMM hsl _ _ h7
  · intro t y hy
    obtain ⟨z, h1, rfl⟩ := lk_fvE hy
    exact RA.fv hm hMM hsl z _ (h.env t z h1)

theorem run_eqIn_slice {T e : TypeId} {w : World} (hu : P.underlying T = some (.slice e)) {d : Nat} {A : Option Addr} {k c : Nat} : (Op.equalIn (d + 1) T (.slice A k c) (.slice none 0 0)).run P w = .ok A.isNone w := by
  cases A <;> simp [Op.equalIn, run_underlying hu]
/-- A slice held against nil: if it has elements, it isn't nil. -/
theorem A_eqnil {Q : Ax → St → Prop} {st : St} {ops : Array Oper} {o : Oper} {rest : List Oper} {s : Operand} {T U e : TypeId} {x : D} (hg : o.guard = none) (ho : o.op = .binOp .eql T s (.const (.slice none 0 0)) U) (he : elT P T = some e) (h1 : evo (lk st.env) s = some (.d x)) (hx : x = .e ∨ ∃ sz bt l, x = .rows sz bt l) (hd : dOk st.N o.dst = true)
    (h : ∀ b : Bool, (∀ sz bt l, x = .rows sz bt l → l ≠ [] → b = false) → AOps P W0 n ops rest Q (st.put o.dst (.d (.v (.bool b))))) : AOps P W0 n ops (o :: rest) Q st := by
  intro E M m a w hE hC
  refine wpList_plain hg fun K hK => ?_
  have hs := evo_sound hC.env h1
  simp only [RA] at hs
  have key : ∃ A c k, a.eval s = .slice A k c ∧ (∀ sz bt l, x = .rows sz bt l → l ≠ [] → A.isNone = false) := by
    rcases hx with rfl | ⟨sz, bt, l, rfl⟩
    · cases hv : a.eval s <;> rw [hv] at hs <;> cases hs
      exact ⟨_, _, _, rfl, fun _ _ _ h => by cases h⟩
    · cases hv : a.eval s <;> rw [hv] at hs <;> cases hs
      rename_i A c U' hbt hb hc hA hU
      refine ⟨_, _, _, rfl, fun sz' bt' l' hl hne => ?_⟩
      cases hl
      cases l with
      | nil => exact absurd rfl hne
      | cons row l =>
        obtain ⟨_, g, o', h2, _⟩ := hA 0 row rfl
        rw [h2]
        rfl
  obtain ⟨A, c, k, hv, hb⟩ := key
  have hu := elT_iff he
  have hrun : (execOp a.eval o).run P w = .ok (.value (.bool A.isNone)) w := by
    have e2 : a.eval (.const (.slice none 0 0)) = .slice none 0 0 := rfl
    simp only [execOp, ho, hv, e2]
    have hb : (binOp .eql T (.slice A k c) (.slice none 0 0)).run P w = .ok (.bool A.isNone) w := by
      show (do pure (.bool (← Op.equalIn (9999 + 1) T (.slice A k c) (.slice none 0 0))) : Sem Value).run P w = _
      simp only [Sem.run_bind, run_eqIn_slice hu, Result.andThen_ok, Sem.run_pure]
    have hgd : eqGuard .eql T s (.const (.slice none 0 0)) (.slice A k c) (.slice none 0 0) = pure () := rfl
    simp only [hgd, Sem.run_bind, Sem.run_pure, Result.andThen_ok, hb]
  unfold Oper.wp
  rw [hrun]
  exact hK _ _ (h A.isNone hb E M m _ _ hE (hC.value (dOk_iff hd) (RA.v_mk rfl)))
/-- A slice literal without elements. -/
theorem A_nilslice {Q : Ax → St → Prop} {st : St} {ops : Array Oper} {o : Oper} {rest : List Oper} {T e sz : Nat} (hg : o.guard = none) (ho : o.op = .buildSlice T 0 #[]) (he : elT P T = some e) (hs : szT P e = some sz) (hd : dOk st.N o.dst = true)
    (h : AOps P W0 n ops rest Q (st.put o.dst (.d .e))) : AOps P W0 n ops (o :: rest) Q st := by
  intro E M m a w hE hC
  refine wpList_plain hg fun K hK => ?_
  have hu := elT_iff he
  have hrun : (execOp a.eval o).run P w = .ok (.value (.slice (some ⟨w.heap.size, 0, none⟩) 0 0)) (w.alloc (.cells #[] e)) := by
    have h0 : Array.range 0 = #[] := Array.eq_empty_of_size_eq_zero (by simp)
    simp [execOp, ho, Instr.buildSlice, run_underlying hu, run_szT hs, newRow, Instr.fill, h0]
  unfold Oper.wp
  rw [hrun]
  have hf : Fr (fun _ => False) w (w.alloc (.cells #[] e)) := Fr.alloc _ _
  have hC' := hC.chg (M' := M) hf (hC.base.trans hf) (fun _ h => h) (fun _ h => .inl h) (fun k hk => Nat.lt_of_lt_of_le (hC.mLt k hk) hf.size)
  exact hK _ _ (h E M m _ _ hE (hC'.value (dOk_iff hd) (by simp only [RA]; exact .e _)))
end
end Go.Proofs.YtfbegbpipmgfiaaDoor.Lift
end
section
/- The lift, sixteenth part: slices cleared. No conditions: words and their laws. -/
set_option linter.unusedVariables false
set_option linter.unusedSimpArgs false
set_option linter.unusedSectionVars false
namespace Go.Proofs.YtfbegbpipmgfiaaDoor.Lift
open Go Go.RowKit

section
variable {P : Program} {W0 : World} {n : Nat}

theorem zero_one {z : Value} {k : Nat} (h : z.cells.toList.all (·.oneCell') = true) : ∀ v ∈ (Builtin.zeroCells z.cells k).toList, v.oneCell' = true := by
  intro v hv
  simp only [Builtin.zeroCells, Array.toList_map, List.mem_map] at hv
  obtain ⟨i, hi, rfl⟩ := hv
  have hi' : i < k * z.cells.size := by simpa using hi
  have hpos : 0 < z.cells.size := Nat.pos_of_ne_zero fun e => by rw [e, Nat.mul_zero] at hi'; omega
  have hlt : i % z.cells.size < z.cells.size := Nat.mod_lt _ hpos
  refine List.all_eq_true.1 h _ ?_
  simp [hlt]

/-- The end of a row of one's own is cleared: of what was there nothing is known. -/
theorem A_clear {Q : Ax → St → Prop} {st : St} {ops : Array Oper} {o : Oper} {rest : List Oper} {s : Operand} {T e sz bt b lo k : Nat} {l : List (List D)} {z : List Value} (hg : o.guard = none) (ho : o.op = .call ⟨.builtin .clear, #[s], #[T]⟩) (hdst : o.dst = none) (he : elT P T = some e) (hs : szT P e = some sz) (hz : zrT P e = some z) (hzl : z.length = sz) (hz1 : z.all (·.oneCell') = true)
    (h1 : evo (lk st.env) s = some (.sl b sz lo k)) (hb : st.bs[b]? = some (.vec sz bt l)) (hlo : lo ≤ l.length)
    (h : AOps P W0 n ops rest Q ⟨st.N, st.env, st.bs.set b (.vec sz bt (l.take lo))⟩) : AOps P W0 n ops (o :: rest) Q st := by
  intro E M m a w hE hC
  refine wpList_plain hg fun K hK => ?_
  have hu := elT_iff he
  obtain ⟨hsz, hbt0, hb47, hbox⟩ := hC.box b _ hb
  have hs1 := evo_sound hC.env h1
  unfold zrT at hz
  cases hi : P.info? e with
  | none => simp [hi] at hz
  | some it =>
  simp only [hi, Option.bind_some, Option.map_eq_some_iff] at hz
  obtain ⟨zv, hzr, hzv⟩ := hz
  have hzs : zv.cells.size = sz := by rw [← Array.length_toList, hzv]; exact hzl
  have hex : ∀ v w', (Builtin.clear_ #[T] o.type #[a.eval s]).run P w = .ok v w' → (execOp a.eval o).run P w = .ok (.value v) w' := fun v w' hr => by
    simp only [execOp, ho, resolve, invoke, builtin, Sem.run_bind, Sem.run_pure, Result.andThen_ok, List.map_toArray, List.map_cons, List.map_nil, hr]
  have fin : ∀ (w' : World), (Builtin.clear_ #[T] o.type #[a.eval s]).run P w = .ok (.tuple #[]) w' → C W0 E M m ⟨st.N, st.env, st.bs.set b (.vec sz bt (l.take lo))⟩ a w' → o.wp P a w K (LQ W0 E Q) := fun w' hr hC' => by
    unfold Oper.wp
    rw [hex _ _ hr]
    refine hK _ _ (h E M m _ _ hE ?_)
    rw [hdst]
    exact hC'
  simp only [RA] at hs1
  rcases hs1 with ⟨rfl, rfl, hv, A, hse⟩ | ⟨q, cap, Cs, T', hmk, hse, hkc, hw, hfit⟩
  · have hl0 : l = [] := by
      rcases hbox with ⟨_, h2⟩ | ⟨q, _, _, h2, _⟩
      · exact h2
      · rw [hv] at h2
        cases h2
    subst hl0
    refine fin w ?_ ?_
    · rw [hse]
      cases A <;> simp [Builtin.clear_, run_underlying hu]
    · have : st.bs.set b (.vec sz bt (([] : List (List D)).take 0)) = st.bs := by
        obtain ⟨g1, g2⟩ := List.getElem?_eq_some_iff.1 hb
        rw [List.take_nil, ← g2]
        exact List.set_getElem_self g1
      rw [this]
      exact hC
  · have hrows : l.length * sz ≤ Cs.size ∧ ∀ i row, l[i]? = some row → row.length = sz ∧ ∀ j d, row[j]? = some d → ∃ u, Cs[i * sz + j]? = some u ∧ RD M w d u := by
      rcases hbox with ⟨h2, _⟩ | ⟨q', C2, T2, h2, h3, h4⟩
      · rw [hmk] at h2
        cases h2
      · rw [hmk] at h2
        cases h2
        rw [hw] at h3
        cases h3
        exact h4
    have close : ∀ Cn : Array Value, Cn.size = Cs.size → (∀ j, j < lo * sz → Cn[j]? = Cs[j]?) → C W0 E M m ⟨st.N, st.env, st.bs.set b (.vec sz bt (l.take lo))⟩ a (w.setRow q Cn) := fun Cn hsn hcn => by
      refine hC.setBox hb (fun cs hcs => by cases hcs) hmk hw hsn fun hf => ?_
      have hll : (l.take lo).length = lo := by simp; omega
      have hle : lo * sz ≤ l.length * sz := Nat.mul_le_mul_right _ hlo
      refine ⟨hsz, hbt0, Nat.le_trans (Nat.mul_le_mul_right _ (by omega)) hb47, .inr ⟨q, Cn, T', hmk, setRow_heap w q Cs Cn T' (0, 0) hw, by rw [hll]; omega, fun i row hi => ?_⟩⟩
      rw [List.getElem?_take] at hi
      split at hi
      · rename_i hilo
        obtain ⟨g1, g2⟩ := hrows.2 i row hi
        refine ⟨g1, fun j d hj => ?_⟩
        obtain ⟨u, g3, g4⟩ := g2 j d hj
        have hjs : j < sz := by rw [← g1]; exact (List.getElem?_eq_some_iff.1 hj).1
        have h6 : (i + 1) * sz ≤ lo * sz := Nat.mul_le_mul_right _ hilo
        rw [Nat.add_mul] at h6
        exact ⟨u, by rw [hcn _ (by omega)]; exact g3, g4.mono hf (fun i _ e => e ▸ hC.mIn b q hmk) (fun i _ x => x)⟩
      · cases hi
    by_cases hk0 : k = 0
    · subst hk0
      have hself : w.setRow q Cs = w := setRow_self w q Cs T' (0, 0) hw
      refine fin w ?_ (by have := close Cs rfl (fun _ _ => rfl); rwa [hself] at this)
      rw [hse]
      simp [Builtin.clear_, run_underlying hu]
    · obtain ⟨k, rfl⟩ := Nat.exists_eq_succ_of_ne_zero hk0
      have hfit' : lo * sz + (k + 1) * sz ≤ Cs.size := by
        have : (lo + (k + 1)) * sz ≤ (lo + cap) * sz := Nat.mul_le_mul_right _ (by omega)
        rw [Nat.add_mul] at this
        omega
      have hlen : (Builtin.zeroCells zv.cells (k + 1)).toList.length = (k + 1) * sz := by rw [Array.length_toList, size_zeroCells, hzs]
      have hst := run_storeCells_at P q (lo * sz) T' (Builtin.zeroCells zv.cells (k + 1)).toList 0 Cs w hw (by rw [hlen]; simpa using hfit') (zero_one (by rw [hzv]; exact hz1))
      refine fin (w.setRow q (Cs.toList.take (lo * sz + 0) ++ (Builtin.zeroCells zv.cells (k + 1)).toList ++ Cs.toList.drop (lo * sz + 0 + (Builtin.zeroCells zv.cells (k + 1)).toList.length)).toArray) ?_ (close _ ?_ ?_)
      · rw [hse]
        simp [Builtin.clear_, run_underlying hu, zeroValue, typeInfo, hi, hzr] at hst ⊢
        simp [hst]
      · simp [hlen]
        omega
      · intro j hj
        simp only [List.getElem?_toArray, Nat.add_zero]
        rw [List.append_assoc, List.getElem?_append_left (by simp; omega), List.getElem?_take, if_pos hj]
        simp
end
end Go.Proofs.YtfbegbpipmgfiaaDoor.Lift
end
section
/- The lift: appends of whatever there is, bytes and texts, rows whose cells may name others. No conditions: words and their laws. -/
set_option linter.unusedVariables false
set_option linter.unusedSimpArgs false
namespace Go.Proofs.YtfbegbpipmgfiaaDoor.Lift
open Go Go.RowKit

section
variable {P : Program}

theorem run_append_roomS (w : World) (t tx ty e : TypeId) {sz : Nat} (ht : P.underlying t = some (.slice e)) (hi : szT P e = some sz)
    (g sLen sCap : Nat) (cur : Array Value) (T : TypeId) (hg : w.heap[g]? = some (.cells cur T (0, 0)))
    {xe : Value} {m : Nat} {U : List Value} (hx : Src P sz tx xe m U w) (hroom : sLen + m ≤ sCap) (hfit : sLen * sz + U.length ≤ cur.size) :
    (Builtin.append_ #[t, tx] ty #[.slice (some ⟨g, 0, none⟩) sLen sCap, xe]).run P w = .ok (.slice (some ⟨g, 0, none⟩) (sLen + m) sCap) (w.setRow g (over cur.toList (sLen * sz) U).toArray) := by
  unfold szT at hi
  cases hq : P.info? e with
  | none => simp [hq] at hi
  | some i =>
    simp [hq] at hi
    subst hi
    have hst := run_storeCells_at P g (sLen * i.size) T U 0 cur w hg (by simpa using hfit) hx.one
    simp only [Nat.add_zero] at hst
    rcases hx.kind with ⟨e', hk⟩ | hk <;> simp [Builtin.append_, run_underlying ht, run_underlying hk, sizeOf, typeInfo, hq, hx.len, hroom, hx.cells, Addr.add_lit, hst, over]

/-- An append, in a world. -/
theorem append_run (w : World) {T tx e sz bt : Nat} {z : List Value} (he : elT P T = some e) (hs : szT P e = some sz) (hbt : btT P e = some bt) (hz : zrT P e = some z) (hzl : z.length = sz) (hbt0 : 0 < bt) (ty : TypeId)
    {se xe : Value} {k : Nat} {olds : List Value} {p : Nat → Prop}
    (hse : (∃ bA, se = .slice bA 0 0 ∧ k = 0 ∧ olds = []) ∨ ∃ q cap Cs T', p q ∧ se = .slice (some ⟨q, 0, none⟩) k cap ∧ k ≤ cap ∧ w.heap[q]? = some (Obj.cells Cs T' (0, 0)) ∧ cap * sz ≤ Cs.size ∧ olds = Cs.toList.take (k * sz))
    {n2 : Nat} {U : List Value} (hx : Src P sz tx xe n2 U w) (hbound : (k + n2) * bt ≤ 140737488355328) :
    (k = 0 ∧ n2 = 0 ∧ (∃ bA, se = .slice bA 0 0) ∧ (Builtin.append_ #[T, tx] ty #[se, xe]).run P w = .ok se w) ∨
    ∃ w' q Cn T' cap, (Builtin.append_ #[T, tx] ty #[se, xe]).run P w = .ok (.slice (some ⟨q, 0, none⟩) (k + n2) cap) w' ∧ k + n2 ≤ cap ∧ cap * sz ≤ Cn.size ∧ w'.heap[q]? = some (Obj.cells Cn T' (0, 0)) ∧
      ((p q ∧ Fr (fun i => i = q) w w') ∨ (w.heap.size ≤ q ∧ Fr (fun _ => False) w w')) ∧ ∃ r, Cn.toList = olds ++ U ++ r := by
  have hu := elT_iff he
  unfold btT at hbt
  unfold zrT at hz
  cases hi : P.info? e with
  | none => simp [hi] at hbt
  | some it =>
  simp only [hi, Option.map_some, Option.some.injEq] at hbt
  simp only [hi, Option.bind_some, Option.map_eq_some_iff] at hz
  obtain ⟨zv, hzr, hzv⟩ := hz
  have hits : it.size = sz := by simpa [szT, hi] using hs
  have hzs : zv.cells.size = sz := by rw [← Array.length_toList, hzv]; exact hzl
  have hsum : ((k + n2 : Nat) : Int) ≤ 9223372036854775807 := by
    have : k + n2 ≤ (k + n2) * bt := Nat.le_mul_of_pos_right _ hbt0
    omega
  have hb48 : (k + n2) * it.bytes ≤ 140737488355328 := by rw [hbt]; omega
  have hx' : Src P it.size tx xe n2 U w := by rw [hits]; exact hx
  have hUl : U.length = n2 * sz := hx.newsLen
  have grow : ∀ (bA : Option Addr) (cap0 : Nat), se = .slice bA k cap0 → olds.length = k * sz → (Builtin.firstCells it.size k (.slice bA k cap0)).run P w.drew = .ok olds.toArray w.drew → cap0 < k + n2 →
      ∃ w' q Cn T' cap, (Builtin.append_ #[T, tx] ty #[se, xe]).run P w = .ok (.slice (some ⟨q, 0, none⟩) (k + n2) cap) w' ∧ k + n2 ≤ cap ∧ cap * sz ≤ Cn.size ∧ w'.heap[q]? = some (Obj.cells Cn T' (0, 0)) ∧
        ((p q ∧ Fr (fun i => i = q) w w') ∨ (w.heap.size ≤ q ∧ Fr (fun _ => False) w w')) ∧ ∃ r, Cn.toList = olds ++ U ++ r := by
    intro bA cap0 hse hol hold hcap
    have hge := grownCap_ge w (k + n2) cap0 e
    have hr := run_append_grow_src (P := P) w T tx ty e it zv hu hi hzr bA k cap0 olds hold xe n2 U hx' hcap hsum (growslice_fits hcap hb48)
    subst hse
    refine ⟨_, _, _, _, _, hr, hge, ?_, heap_alloc_new w.drew _, .inr ⟨Nat.le_refl _, (Fr.drew w).trans (Fr.alloc _ _)⟩, (Builtin.zeroCells zv.cells (grownCap w (k + n2) cap0 e - (k + n2))).toList, by simp only [Array.toList_append]⟩
    simp only [Array.size_append, List.size_toArray, List.length_append, size_zeroCells, hzs, hol, hUl, ← Nat.add_mul]
    refine Nat.le_of_eq ?_
    congr 1
    omega
  rcases hse with ⟨bA, rfl, rfl, rfl⟩ | ⟨q, cap, Cs, T', hp, rfl, hlc, hw, hfit, rfl⟩
  · by_cases hne : n2 = 0
    · subst hne
      have hU0 : U = [] := List.eq_nil_of_length_eq_zero (by simpa using hUl)
      subst hU0
      refine .inl ⟨rfl, rfl, ⟨bA, rfl⟩, ?_⟩
      rcases hx.kind with ⟨e', hk⟩ | hk <;> cases bA <;> simp [Builtin.append_, run_underlying hu, run_underlying hk, sizeOf, typeInfo, hi, hx'.len, hx'.cells, storeCells]
    · refine .inr (grow bA 0 rfl (by simp) ?_ (by omega))
      cases bA with
      | none => exact run_firstCells_none (P := P) w.drew it.size 0 0 0
      | some xa => exact run_firstCells_some (P := P) w.drew it.size 0 xa 0 0 [] (by simp) (fun j v hj => by simp at hj)
  · refine .inr ?_
    have hks : k * sz ≤ Cs.size := Nat.le_trans (Nat.mul_le_mul_right _ hlc) hfit
    by_cases hroom : k + n2 ≤ cap
    · have hroom' : (k + n2) * sz ≤ Cs.size := Nat.le_trans (Nat.mul_le_mul_right _ hroom) hfit
      rw [Nat.add_mul] at hroom'
      have hr := run_append_roomS (P := P) w T tx ty e hu hs q k cap Cs T' hw hx hroom (by rw [hUl]; exact hroom')
      have hol : (over Cs.toList (k * sz) U).length = Cs.size := by rw [over_len _ _ _ (by rw [hUl]; simpa using hroom'), Array.length_toList]
      refine ⟨_, _, _, T', _, hr, hroom, by simp [hol]; exact hfit, setRow_heap w q Cs _ T' (0, 0) hw, .inl ⟨hp, Fr.setRow w q Cs _ T' hw rfl (by simpa using hol)⟩, Cs.toList.drop (k * sz + U.length), by simp only [over]⟩
    · refine grow (some ⟨q, 0, none⟩) cap rfl (by simp; omega) ?_ (by omega)
      exact run_firstCells_some (P := P) w.drew it.size k ⟨q, 0, none⟩ k cap (Cs.toList.take (k * sz)) (by rw [hits]; simp; omega) (fun j v hj => by
        rw [Addr.add_lit, Nat.zero_add]
        have h2 : w.drew.cell? ⟨q, j, none⟩ = w.cell? ⟨q, j, none⟩ := by simp
        rw [h2, cell_of_row w q j Cs T' (0, 0) hw]
        rw [List.getElem?_take] at hj
        split at hj
        · simpa using hj
        · cases hj)
end

section
variable {P : Program} {W0 : World} {n : Nat}

theorem take_app {α : Type} {x y : List α} {k : Nat} (h : x.length = k) : (x ++ y).take k = x := by subst h; simp
/-- Rows that lie in cells. -/
def RowsR (M : Nat → Prop) (w : World) (sz : Nat) (l : List (List D)) (U : List Value) : Prop := ∀ (i : Nat) (row : List D), l[i]? = some row → row.length = sz ∧ ∀ (j : Nat) (d : D), row[j]? = some d → ∃ v, U[i * sz + j]? = some v ∧ RD M w d v
theorem src_rows {E : En} {M : Nat → Prop} {m : Nat → Pl} {st : St} {a : Act} {w : World} (h : C W0 E M m st a w) {T e sz bt : Nat} (he : elT P T = some e) (hsz : 0 < sz) {x : Operand} {X : AV} {l2 : List (List D)} (h2 : evo (lk st.env) x = some X) (hX : apR st.bs sz bt X = some l2) :
    ∃ U, Src P sz T (a.eval x) l2.length U w ∧ RowsR M w sz l2 U := by
  obtain ⟨A, c, U, hxe, hUl, hU1, hUA, hUr⟩ := apR_sound h (evo_sound h.env h2) hsz hX
  refine ⟨U, ?_, hUr⟩
  rw [hxe]
  have hu := elT_iff he
  by_cases hne : l2 = []
  · subst hne
    have hU0 : U = [] := List.eq_nil_of_length_eq_zero (by simpa using hUl)
    subst hU0
    cases A with
    | none => exact Src.ofNil w hu c
    | some xa => exact Src.ofSlice w hu xa 0 c [] (by simp) (fun j u hj => by simp at hj) (by simp)
  · obtain ⟨g, o', rfl, hc⟩ := hUA hne
    exact Src.ofSlice w hu _ _ c U hUl (fun j u hj => by rw [Addr.add_lit]; exact hc j u hj) hU1
theorem RowsR.mono {M M' : Nat → Prop} {w w' : World} {sz : Nat} {l : List (List D)} {U U' : List Value} (h : RowsR M w sz l U) (off : Nat) (hU : ∀ (q : Nat) (v : Value), U[q]? = some v → U'[off + q]? = some v) (hr : ∀ (d : D) (v : Value), RD M w d v → RD M' w' d v) :
    ∀ (i : Nat) (row : List D), l[i]? = some row → row.length = sz ∧ ∀ (j : Nat) (d : D), row[j]? = some d → ∃ v, U'[off + (i * sz + j)]? = some v ∧ RD M' w' d v := fun i row hi => by
  obtain ⟨h1, h2⟩ := h i row hi
  refine ⟨h1, fun j d hj => ?_⟩
  obtain ⟨v, h3, h4⟩ := h2 j d hj
  exact ⟨v, hU _ _ h3, hr d v h4⟩

/-- An append of whatever there is to a row of one's own. -/
theorem A_appendG {Q : Ax → St → Prop} {st : St} {ops : Array Oper} {o : Oper} {rest : List Oper} {s x : Operand} {T tx e sz bt b k : Nat} {l l2 : List (List D)} {z : List Value} (hg : o.guard = none) (ho : o.op = .call ⟨.builtin .append, #[s, x], #[T, tx]⟩) (he : elT P T = some e) (hs : szT P e = some sz) (hbt : btT P e = some bt) (hz : zrT P e = some z) (hzl : z.length = sz)
    (h1 : evo (lk st.env) s = some (.sl b sz 0 k)) (hk : k = l.length) (hb : st.bs[b]? = some (.vec sz bt l)) (hsrc : ∀ E M m a w, C W0 E M m st a w → ∃ U, Src P sz tx (a.eval x) l2.length U w ∧ RowsR M w sz l2 U) (hd : dOk st.N o.dst = true) (hbound : (l.length + l2.length) * bt ≤ 140737488355328)
    (h : AOps P W0 n ops rest Q ((⟨st.N, killE b st.env, (st.bs.map (killB b)).set b (.vec sz bt (l ++ l2))⟩ : St).put o.dst (.sl b sz 0 (l ++ l2).length))) : AOps P W0 n ops (o :: rest) Q st := by
  subst hk
  intro E M m a w hE hC
  refine wpList_plain hg fun K hK => ?_
  obtain ⟨hsz, hbt0, hb47, hbox⟩ := hC.box b _ hb
  have hs1 := evo_sound hC.env h1
  obtain ⟨U, hsU, hrU⟩ := hsrc E M m a w hC
  have hex : ∀ v w', (Builtin.append_ #[T, tx] o.type #[a.eval s, a.eval x]).run P w = .ok v w' → (execOp a.eval o).run P w = .ok (.value v) w' := fun v w' hr => by
    simp only [execOp, ho, resolve, invoke, builtin, Sem.run_bind, Sem.run_pure, Result.andThen_ok, List.map_toArray, List.map_cons, List.map_nil, hr]
  simp only [RA] at hs1
  -- the row as it lies
  obtain ⟨olds, hse, hol, hrows⟩ : ∃ olds, ((∃ bA, a.eval s = .slice bA 0 0 ∧ l.length = 0 ∧ olds = []) ∨ ∃ q cap Cs T', m b = .at_ q ∧ a.eval s = .slice (some ⟨q, 0, none⟩) l.length cap ∧ l.length ≤ cap ∧ w.heap[q]? = some (Obj.cells Cs T' (0, 0)) ∧ cap * sz ≤ Cs.size ∧ olds = Cs.toList.take (l.length * sz)) ∧ olds.length = l.length * sz ∧ RowsR M w sz l olds := by
    rcases hbox with ⟨hmv, hl0⟩ | ⟨q, Cs, T', hmk, hw, hlen, hrows⟩
    · subst hl0
      rcases hs1 with ⟨_, _, _, bA, hse⟩ | ⟨q, cap, C1, T1, h3, _⟩
      · exact ⟨[], .inl ⟨bA, hse, rfl, rfl⟩, by simp, fun i row hi => by simp at hi⟩
      · rw [hmv] at h3
        cases h3
    · rcases hs1 with ⟨_, _, h3, _⟩ | ⟨q', cap, C1, T1, h3, hse, hlc, hw1, hfit⟩
      · rw [hmk] at h3
        cases h3
      · rw [hmk] at h3
        cases h3
        rw [hw] at hw1
        cases hw1
        simp only [Nat.zero_mul, Nat.zero_add] at hse hfit
        refine ⟨_, .inr ⟨q, cap, Cs, T', hmk, hse, hlc, hw, hfit, rfl⟩, by simp; omega, fun i row hi => ?_⟩
        obtain ⟨g1, g2⟩ := hrows i row hi
        refine ⟨g1, fun j d hj => ?_⟩
        obtain ⟨u, g3, g4⟩ := g2 j d hj
        have hi' : i < l.length := (List.getElem?_eq_some_iff.1 hi).1
        have hj' : j < sz := by rw [← g1]; exact (List.getElem?_eq_some_iff.1 hj).1
        have : (i + 1) * sz ≤ l.length * sz := Nat.mul_le_mul_right _ hi'
        rw [Nat.add_mul] at this
        exact ⟨u, by rw [List.getElem?_take, if_pos (by omega)]; simpa using g3, g4⟩
  rcases append_run w he hs hbt hz hzl hbt0 o.type hse hsU hbound with ⟨h0, h2, ⟨bA, hbA⟩, hr⟩ | ⟨w', q, Cn, T', cap, hr, hcap, hfit, hw, hcase, r, hCl⟩
  · have hl0 : l = [] := List.eq_nil_of_length_eq_zero h0
    have hl2 : l2 = [] := List.eq_nil_of_length_eq_zero h2
    subst hl0 hl2
    have hC' := hC.killed hb
    unfold Oper.wp
    rw [hex _ _ hr]
    refine hK _ _ (h E _ _ _ _ hE (hC'.value (dOk_iff hd) ?_))
    simpa only [RA, List.append_nil, List.length_nil, List.nil_append] using hs1
  · have hf : Fr (fun i => i = q) w w' := by
      rcases hcase with ⟨_, h1⟩ | ⟨_, h1⟩
      · exact h1
      · exact Fr.weak h1 fun _ _ x => x.elim
    have hq : q < w.heap.size → M q := fun hlt => by
      rcases hcase with ⟨h1, _⟩ | ⟨h1, _⟩
      · exact hC.mIn b q h1
      · omega
    have newRD : ∀ (d : D) (u : Value), RD M w d u → RD (fun i => M i ∨ i = q) w' d u := fun d u hr =>
      hr.mono hf (fun i hi e => e ▸ hq (e ▸ hi)) (fun i hi hx => hx.elim id fun e => e ▸ hq (e ▸ hi))
    have hR : ∀ (i : Nat) (row : List D), (l ++ l2)[i]? = some row → row.length = sz ∧ ∀ (j : Nat) (d : D), row[j]? = some d → ∃ u, Cn.toList[i * sz + j]? = some u ∧ RD (fun i => M i ∨ i = q) w' d u := by
      refine rows_append (fun i row hi => ?_) (fun i row hi => ?_)
      · have := RowsR.mono hrows 0 (U' := Cn.toList) (fun q v hv => by rw [hCl, List.append_assoc, Nat.zero_add, List.getElem?_append_left (List.getElem?_eq_some_iff.1 hv).1]; exact hv) newRD i row hi
        simpa using this
      · have := RowsR.mono hrU (l.length * sz) (U' := Cn.toList) (fun q v hv => by rw [hCl, List.append_assoc, List.getElem?_append_right (by omega), hol, Nat.add_sub_cancel_left, List.getElem?_append_left (List.getElem?_eq_some_iff.1 hv).1]; exact hv) newRD i row hi
        refine ⟨this.1, fun j d hj => ?_⟩
        obtain ⟨v, h3, h4⟩ := this.2 j d hj
        exact ⟨v, by rw [Nat.add_mul, Nat.add_assoc]; exact h3, h4⟩
    have hle : (l ++ l2).length * sz ≤ Cn.size := Nat.le_trans (Nat.mul_le_mul_right _ (by rw [List.length_append]; exact hcap)) hfit
    have hC' := hC.regrow hb hw hsz hbt0 (by rw [List.length_append]; exact hbound) hle hcase (fun i row hi => by simpa using hR i row hi)
    unfold Oper.wp
    rw [hex _ _ hr]
    refine hK _ _ (h E _ _ _ _ hE (hC'.value (dOk_iff hd) ?_))
    simp only [RA]
    exact .inr ⟨q, cap, Cn, T', if_pos rfl, by simp, by rw [List.length_append]; exact hcap, hw, by simpa using hfit⟩

theorem killL_append (b : Nat) : ∀ l l' : List AV, killL b (l ++ l') = killL b l ++ killL b l'
  | [], _ => by simp only [killL, List.nil_append]
  | x :: l, l' => by simp only [List.cons_append, killL, killL_append b l l']
theorem killL_d (b : Nat) : ∀ l : List D, killL b (l.map .d) = l.map .d
  | [] => by simp only [killL, List.map_nil]
  | x :: l => by simp only [List.map_cons, killL, killA, killL_d b l]
/-- Rows one behind another. -/
theorem flat_len {α : Type} {sz : Nat} : ∀ {l : List (List α)}, (∀ row ∈ l, row.length = sz) → l.flatten.length = l.length * sz
  | [], _ => by simp
  | r :: l, h => by
    rw [List.flatten_cons, List.length_append, flat_len (fun row hr => h row (List.mem_cons_of_mem _ hr)), h r (List.mem_cons_self ..), List.length_cons, Nat.add_mul]
    omega
theorem flat_get {α : Type} {sz : Nat} : ∀ {l : List (List α)}, (∀ row ∈ l, row.length = sz) → ∀ (i j : Nat), j < sz → l.flatten[i * sz + j]? = (l[i]?).bind (·[j]?)
  | [], _, i, j, _ => by simp
  | r :: l, h, 0, j, hj => by
    rw [List.flatten_cons, Nat.zero_mul, Nat.zero_add, List.getElem?_append_left (by rw [h r (List.mem_cons_self ..)]; exact hj)]
    simp
  | r :: l, h, i + 1, j, hj => by
    have hr := h r (List.mem_cons_self ..)
    rw [List.flatten_cons, List.getElem?_append_right (by rw [hr, Nat.add_mul]; omega), hr, show (i + 1) * sz + j - sz = i * sz + j by rw [Nat.add_mul]; omega, flat_get (fun row hr => h row (List.mem_cons_of_mem _ hr)) i j hj]
    simp
theorem RowsR.ras {M : Nat → Prop} {m : Nat → Pl} {w : World} {sz : Nat} {l : List (List D)} {U : List Value} (hsz : 0 < sz) (h : RowsR M w sz l U) (hU : U.length = l.length * sz) : RAs M m w (l.flatten.map .d) U := by
  have hrow : ∀ row ∈ l, row.length = sz := fun row hr => by
    obtain ⟨i, hi⟩ := List.getElem?_of_mem hr
    exact (h i row hi).1
  refine RAs.mk (by rw [List.length_map, flat_len hrow, hU]) fun q x u hx hu => ?_
  have hq : q = q / sz * sz + q % sz := by rw [Nat.mul_comm]; exact (Nat.div_add_mod q sz).symm
  rw [List.getElem?_map, hq, flat_get hrow _ _ (Nat.mod_lt _ hsz), Option.map_eq_some_iff] at hx
  obtain ⟨d, hd, rfl⟩ := hx
  obtain ⟨row, h1, h2⟩ := Option.bind_eq_some_iff.1 hd
  obtain ⟨v, h3, h4⟩ := (h _ row h1).2 _ d h2
  rw [← hq, hu] at h3
  cases h3
  simp only [RA]
  exact h4

/-- An append of data to a row of one's own whose cells may name others. -/
theorem A_appendO {Q : Ax → St → Prop} {st : St} {ops : Array Oper} {o : Oper} {rest : List Oper} {s x : Operand} {T tx e sz bt b k : Nat} {cs : List AV} {l2 : List (List D)} {z : List Value} (hg : o.guard = none) (ho : o.op = .call ⟨.builtin .append, #[s, x], #[T, tx]⟩) (he : elT P T = some e) (hs : szT P e = some sz) (hbt : btT P e = some bt) (hz : zrT P e = some z) (hzl : z.length = sz)
    (h1 : evo (lk st.env) s = some (.sl b sz 0 k)) (hk : cs.length = k * sz) (hb : st.bs[b]? = some (.own sz bt cs)) (hsrc : ∀ E M m a w, C W0 E M m st a w → ∃ U, Src P sz tx (a.eval x) l2.length U w ∧ RowsR M w sz l2 U) (hd : dOk st.N o.dst = true) (hbound : (k + l2.length) * bt ≤ 140737488355328)
    (h : AOps P W0 n ops rest Q ((⟨st.N, killE b st.env, (st.bs.map (killB b)).set b (.own sz bt (killL b cs ++ l2.flatten.map .d))⟩ : St).put o.dst (.sl b sz 0 (k + l2.length)))) : AOps P W0 n ops (o :: rest) Q st := by
  intro E M m a w hE hC
  refine wpList_plain hg fun K hK => ?_
  obtain ⟨hsz, hbt0, hb47, hbox⟩ := hC.box b _ hb
  have hs1 := evo_sound hC.env h1
  obtain ⟨U, hsU, hrU⟩ := hsrc E M m a w hC
  have hex : ∀ v w', (Builtin.append_ #[T, tx] o.type #[a.eval s, a.eval x]).run P w = .ok v w' → (execOp a.eval o).run P w = .ok (.value v) w' := fun v w' hr => by
    simp only [execOp, ho, resolve, invoke, builtin, Sem.run_bind, Sem.run_pure, Result.andThen_ok, List.map_toArray, List.map_cons, List.map_nil, hr]
  have hrow2 : ∀ row ∈ l2, row.length = sz := fun row hr => by
    obtain ⟨i, hi⟩ := List.getElem?_of_mem hr
    exact (hrU i row hi).1
  simp only [RA] at hs1
  obtain ⟨olds, hse, hol, hras⟩ : ∃ olds, ((∃ bA, a.eval s = .slice bA 0 0 ∧ k = 0 ∧ olds = []) ∨ ∃ q cap Cs T', m b = .at_ q ∧ a.eval s = .slice (some ⟨q, 0, none⟩) k cap ∧ k ≤ cap ∧ w.heap[q]? = some (Obj.cells Cs T' (0, 0)) ∧ cap * sz ≤ Cs.size ∧ olds = Cs.toList.take (k * sz)) ∧ olds.length = k * sz ∧ RAs M m w cs olds := by
    rcases hbox with ⟨hmv, hl0⟩ | ⟨q, Cs, T', hmk, hw, hlen, hrows⟩
    · subst hl0
      rcases hs1 with ⟨h0, _, _, bA, hse⟩ | ⟨q, cap, C1, T1, h3, _⟩
      · subst h0
        exact ⟨[], .inl ⟨bA, hse, rfl, rfl⟩, by simp, by simp only [RAs]⟩
      · rw [hmv] at h3
        cases h3
    · rcases hs1 with ⟨_, _, h3, _⟩ | ⟨q', cap, C1, T1, h3, hse, hlc, hw1, hfit⟩
      · rw [hmk] at h3
        cases h3
      · rw [hmk] at h3
        cases h3
        rw [hw] at hw1
        cases hw1
        simp only [Nat.zero_mul, Nat.zero_add] at hse hfit
        exact ⟨_, .inr ⟨q, cap, Cs, T', hmk, hse, hlc, hw, hfit, rfl⟩, by simp; omega, by rw [← hk]; exact hrows⟩
  rcases append_run w he hs hbt hz hzl hbt0 o.type hse hsU hbound with ⟨h0, h2, ⟨bA, hbA⟩, hr⟩ | ⟨w', q, Cn, T', cap, hr, hcap, hfit, hw, hcase, r, hCl⟩
  · have hl2 : l2 = [] := List.eq_nil_of_length_eq_zero h2
    have hc0 : cs = [] := List.eq_nil_of_length_eq_zero (by rw [hk, h0, Nat.zero_mul])
    subst hl2 hc0 h0
    have hC' := hC.killedG hb (fun cs e => by cases e)
    unfold Oper.wp
    rw [hex _ _ hr]
    refine hK _ _ (h E _ _ _ _ hE (hC'.value (dOk_iff hd) ?_))
    simpa only [RA, List.length_nil] using hs1
  · have hf : Fr (fun i => i = q) w w' := by
      rcases hcase with ⟨_, h1⟩ | ⟨_, h1⟩
      · exact h1
      · exact Fr.weak h1 fun _ _ x => x.elim
    have hC' := hC.regrowG (y := .own sz bt (killL b cs ++ l2.flatten.map .d)) hb hw (fun _ e => by cases e) hcase fun hm hf hE hM => by
      have hlen : (killL b cs ++ l2.flatten.map AV.d).length = (k + l2.length) * sz := by rw [List.length_append, killL_len, List.length_map, flat_len hrow2, hk, Nat.add_mul]
      refine ⟨hsz, hbt0, ⟨k + l2.length, hlen, hbound⟩, .inr ⟨q, Cn, T', if_pos rfl, hw, by rw [hlen]; exact Nat.le_trans (Nat.mul_le_mul_right _ hcap) hfit, ?_⟩⟩
      have hUl : U.length = l2.length * sz := hsU.newsLen
      rw [hlen, hCl, take_app (by rw [List.length_append, hol, hUl, Nat.add_mul])]
      refine RAs.append (RAs.kill hm _ _ (RAs.mono hf hE hM _ _ hras)) ?_
      exact RAs.grow (m := fun _ => .no) (fun b hb => absurd rfl hb) (RAs.mono hf hE hM _ _ (hrU.ras hsz hUl))
    unfold Oper.wp
    rw [hex _ _ hr]
    refine hK _ _ (h E _ _ _ _ hE (hC'.value (dOk_iff hd) ?_))
    simp only [RA]
    exact .inr ⟨q, cap, Cn, T', if_pos rfl, by simp, hcap, hw, by simpa using hfit⟩
end
end Go.Proofs.YtfbegbpipmgfiaaDoor.Lift
end
section
/- The lift: rows of one kind as rows of the other; looking at them; bytes as texts and back. No conditions: words and their laws. -/
set_option linter.unusedVariables false
set_option linter.unusedSimpArgs false
namespace Go.Proofs.YtfbegbpipmgfiaaDoor.Lift
open Go Go.RowKit

section
variable {P : Program} {W0 : World} {n : Nat}

theorem C.rebox {E : En} {M : Nat → Prop} {m : Nat → Pl} {st : St} {a : Act} {w : World} (h : C W0 E M m st a w) {b : Nat} {x y : Box} (hb : st.bs[b]? = some x) (hyv : ∀ cs, y ≠ .var cs) (hy : BoxR M m w b y) : C W0 E M m ⟨st.N, st.env, st.bs.set b y⟩ a w := by
  have hblt : b < st.bs.length := (List.getElem?_eq_some_iff.1 hb).1
  refine { h with mNo := by simpa using h.mNo, oldv := ?_, len := by simpa using h.len, box := ?_ }
  · intro b' cs hb' hc
    simp only at hc
    by_cases e : b' = b
    · subst e
      rw [List.getElem?_set_self hblt] at hc
      exact absurd (Option.some.inj hc) (hyv cs)
    · rw [List.getElem?_set_ne (Ne.symm e)] at hc
      exact h.oldv b' cs hb' hc
  · intro b' z hz
    simp only at hz
    by_cases e : b' = b
    · subst e
      rw [List.getElem?_set_self hblt] at hz
      cases hz
      exact hy
    · rw [List.getElem?_set_ne (Ne.symm e)] at hz
      exact h.box b' z hz

theorem Sb.toOwn {st : St} (b : Nat) {sz bt : Nat} {l : List (List D)} (hb : st.bs[b]? = some (.vec sz bt l)) : Sb W0 n st ⟨st.N, st.env, st.bs.set b (.own sz bt (l.flatten.map .d))⟩ := by
  intro E M m a w hE h
  obtain ⟨hsz, hbt, hb47, hbox⟩ := h.box b _ hb
  refine ⟨M, m, h.rebox hb (fun cs e => by cases e) ?_⟩
  rcases hbox with ⟨h1, h2⟩ | ⟨k, C, T, h1, h2, h3, h4⟩
  · subst h2
    exact ⟨hsz, hbt, ⟨0, by simp, by simp⟩, .inl ⟨h1, by simp⟩⟩
  · have hrow : ∀ row ∈ l, row.length = sz := fun row hr => by
      obtain ⟨i, hi⟩ := List.getElem?_of_mem hr
      exact (h4 i row hi).1
    have hfl : (l.flatten.map AV.d).length = l.length * sz := by rw [List.length_map, flat_len hrow]
    refine ⟨hsz, hbt, ⟨l.length, hfl, hb47⟩, .inr ⟨k, C, T, h1, h2, by rw [hfl]; exact h3, ?_⟩⟩
    rw [hfl]
    have hR : RowsR M w sz l (C.toList.take (l.length * sz)) := fun i row hi => by
      obtain ⟨g1, g2⟩ := h4 i row hi
      refine ⟨g1, fun j d hj => ?_⟩
      obtain ⟨u, g3, g4⟩ := g2 j d hj
      have hi' : i < l.length := (List.getElem?_eq_some_iff.1 hi).1
      have hj' : j < sz := by rw [← g1]; exact (List.getElem?_eq_some_iff.1 hj).1
      have : (i + 1) * sz ≤ l.length * sz := Nat.mul_le_mul_right _ hi'
      rw [Nat.add_mul] at this
      exact ⟨u, by rw [List.getElem?_take, if_pos (by omega)]; simpa using g3, g4⟩
    exact hR.ras hsz (by simp; omega)

/-- A part of such a row, looked at: what is no data is anything. -/
theorem own_data {E : En} {M : Nat → Prop} {m : Nat → Pl} {st : St} {a : Act} {w : World} (h : C W0 E M m st a w) {b sz bt : Nat} {cs : List AV} {l : List (List D)} (hb : st.bs[b]? = some (.own sz bt cs)) (hrow : ∀ row ∈ l, row.length = sz) (hlen : cs.length = l.length * sz)
    (hv : ∀ (i : Nat) (x : AV) (d : D), cs[i]? = some x → l.flatten[i]? = some d → x = .d d ∨ d = .any ∧ x.one = true) : ∀ lo n u, lo + n ≤ l.length → RA M m w (.sl b sz lo n) u → RD (fun k => M k ∧ m b ≠ .at_ k) w (.rows sz bt ((l.drop lo).take n)) u := by
  obtain ⟨hsz, hbt, ⟨q, hq, hqb⟩, hbox⟩ := h.box b _ hb
  have hql : q = l.length := Nat.eq_of_mul_eq_mul_right hsz (hq.symm.trans hlen)
  subst hql
  intro lo n u hle hr
  have hlen' : ((l.drop lo).take n).length = n := by simp; omega
  have hbn : ((l.drop lo).take n).length * bt ≤ 140737488355328 := Nat.le_trans (Nat.mul_le_mul_right _ (by omega)) hqb
  have get : ∀ (i : Nat) (row : List D), ((l.drop lo).take n)[i]? = some row → l[lo + i]? = some row := fun i row hi => by
    rw [List.getElem?_take] at hi
    split at hi
    · rwa [List.getElem?_drop] at hi
    · cases hi
  simp only [RA] at hr
  rcases hr with ⟨rfl, rfl, _, A, rfl⟩ | ⟨k, cap, C1, T1, h1, rfl, h2, h3, h4⟩
  · have := RD.rows (M := fun k => M k ∧ m b ≠ .at_ k) (w := w) sz bt [] A 0 (fun _ _ => default) hbt (by simp) (by simp) (fun i row h => by simp at h) (fun i row j d h => by simp at h)
    simpa using this
  · rcases hbox with ⟨h5, _⟩ | ⟨k', C2, T2, h5, h6, h7, h8⟩
    · rw [h1] at h5
      cases h5
    · rw [h1] at h5
      cases h5
      have cell : ∀ (i : Nat) (row : List D), ((l.drop lo).take n)[i]? = some row → row.length = sz ∧ ∀ (j : Nat) (d : D), row[j]? = some d → ∃ v, C2[(lo + i) * sz + j]? = some v ∧ RD (fun k' => M k' ∧ m b ≠ .at_ k') w d v := fun i row hi => by
        have hi2 := get i row hi
        have hr := hrow row (List.mem_of_getElem? hi2)
        refine ⟨hr, fun j d hj => ?_⟩
        have hj' : j < sz := by rw [← hr]; exact (List.getElem?_eq_some_iff.1 hj).1
        have hil : lo + i < l.length := (List.getElem?_eq_some_iff.1 hi2).1
        have hfit : (lo + i) * sz + j < cs.length := by
          have : (lo + i + 1) * sz ≤ l.length * sz := Nat.mul_le_mul_right _ hil
          rw [Nat.add_mul] at this
          omega
        have hx : cs[(lo + i) * sz + j]? = some cs[(lo + i) * sz + j] := List.getElem?_eq_getElem hfit
        obtain ⟨v, h9, h10⟩ := h8.get hx
        rw [List.getElem?_take, if_pos hfit] at h9
        refine ⟨v, by simpa using h9, ?_⟩
        rcases hv _ _ d hx (by rw [flat_get hrow _ _ hj', hi2, Option.bind_some, hj]) with e | ⟨rfl, e⟩
        · rw [e] at h10
          simp only [RA] at h10
          exact h10.mono (Fr.refl (fun _ => False) w) (fun _ _ x => x.elim) (fun k _ hk => hk.1)
        · exact .any v (RA.one e h10)
      have := RD.rows (M := fun i => M i ∧ m b ≠ .at_ i) (w := w) sz bt ((l.drop lo).take n) (some ⟨k, lo * sz, none⟩) cap (fun i j => C2.getD ((lo + i) * sz + j) default) hbt hbn (by omega) (fun i row hi => ?_) (fun i row j d hi hj => ?_)
      · rw [hlen'] at this
        exact this
      · obtain ⟨g1, g2⟩ := cell i row hi
        refine ⟨g1, k, lo * sz, rfl, fun j hj => ⟨fun hk => hk.2 h1, ?_⟩⟩
        obtain ⟨v, g3, _⟩ := g2 j row[j] (List.getElem?_eq_getElem (by omega))
        rw [cell_of_row w k _ C2 T2 (0, 0) h6, show lo * sz + i * sz + j = (lo + i) * sz + j by rw [Nat.add_mul], g3]
        simp [Array.getD_eq_getD_getElem?, g3]
      · obtain ⟨g1, g2⟩ := cell i row hi
        obtain ⟨v, g3, g4⟩ := g2 j d hj
        have : C2.getD ((lo + i) * sz + j) default = v := by simp [Array.getD_eq_getD_getElem?, g3]
        simp only [this]
        exact g4

end
end Go.Proofs.YtfbegbpipmgfiaaDoor.Lift
end
section
/- The lift: a variable's slice without room; calls that are handed boxes, told one by one. No conditions: words and their laws. -/
set_option linter.unusedVariables false
set_option linter.unusedSimpArgs false
namespace Go.Proofs.YtfbegbpipmgfiaaDoor.Lift
open Go Go.RowKit

section
variable {P : Program} {W0 : World} {n : Nat}

/-- A variable's slice without room is taken for a row of one's own, without elements. -/
theorem Sb.opnC {st : St} {b j sz bt : Nat} {cs : List AV} (hb : st.bs[b]? = some (.var cs)) (h : cs[j]? = some (.d .e)) (hsz : 0 < sz) (hbt : 0 < bt) : Sb W0 n st ⟨st.N, st.env, st.bs.set b (.var (cs.set j (.sl st.bs.length sz 0 0))) ++ [.vec sz bt []]⟩ := by
  intro E M m a w hn hC
  have hblt : b < st.bs.length := (List.getElem?_eq_some_iff.1 hb).1
  have hg : ∀ b, m b ≠ .no → mAdd m st.bs.length .virt b = m b := fun b hb => by
    unfold mAdd
    rw [if_neg]
    intro e
    exact hb (hC.mNo b (by omega))
  have at_ : ∀ b k, mAdd m st.bs.length .virt b = .at_ k → m b = .at_ k := fun b k hb => by
    unfold mAdd at hb
    split at hb
    · cases hb
    · exact hb
  refine ⟨M, mAdd m st.bs.length .virt, { hC with mNo := ?_, mIn := fun b k hb => hC.mIn b k (at_ b k hb), inj := fun b b' k hb hb' => hC.inj b b' k (at_ b k hb) (at_ b' k hb'), oldv := ?_, oldr := fun b k hb hk => hC.oldr b k hb (at_ b k hk), new := fun b k hb hk => hC.new b k hb (at_ b k hk), len := ?_, box := ?_, env := fun t y hy => RA.grow hg (hC.env t y hy) }⟩
  · intro b hb
    simp at hb
    unfold mAdd
    rw [if_neg (by omega)]
    exact hC.mNo b (by omega)
  · intro b' cs' hb' hc
    have := hC.len
    simp only at hc
    rw [List.getElem?_append_left (by simp; omega)] at hc
    have hold : ∃ cs0, st.bs[b']? = some (.var cs0) := by
      by_cases e : b' = b
      · exact ⟨cs, e ▸ hb⟩
      · rw [List.getElem?_set_ne (Ne.symm e)] at hc
        exact ⟨_, hc⟩
    obtain ⟨cs0, h0⟩ := hold
    rw [← hC.oldv b' cs0 hb' h0]
    unfold mAdd
    rw [if_neg (by omega)]
  · have := hC.len
    simp
    omega
  · intro b' y hb'
    by_cases hlt : b' < st.bs.length
    · simp only at hb'
      rw [List.getElem?_append_left (by simpa using hlt)] at hb'
      by_cases e : b' = b
      · subst e
        rw [List.getElem?_set_self hblt] at hb'
        cases hb'
        obtain ⟨k, Cs, T, h1, h2, h3⟩ := hC.box b' _ hb
        refine ⟨k, Cs, T, (hg b' (by simp [h1])).trans h1, h2, RAs.mk (by simpa using h3.length) fun i x u hx hu => ?_⟩
        rw [List.getElem?_set] at hx
        split at hx
        · rename_i e
          subst e
          split at hx
          · cases hx
            obtain ⟨u', h4, h5⟩ := h3.get h
            rw [hu] at h4
            cases h4
            simp only [RA] at h5 ⊢
            refine .inl ⟨trivial, trivial, if_pos rfl, ?_⟩
            cases h5 with
            | e A => exact ⟨A, rfl⟩
          · cases hx
        · obtain ⟨u', h4, h5⟩ := h3.get hx
          rw [hu] at h4
          cases h4
          exact RA.grow hg h5
      · rw [List.getElem?_set_ne (Ne.symm e)] at hb'
        exact (hC.box b' y hb').grow hg
    · have hbe : b' = st.bs.length := by
        have := (List.getElem?_eq_some_iff.1 hb').1
        simp at this
        omega
      subst hbe
      simp at hb'
      subst hb'
      exact ⟨hsz, hbt, by simp, .inl ⟨if_pos rfl, rfl⟩⟩

theorem sg_c0 (b : Nat) (sel : List Nat) (k : Nat) : sg (b :: sel) k 0 = b := rfl
theorem sg_cS (b : Nat) (sel : List Nat) (k i : Nat) : sg (b :: sel) k (i + 1) = sg sel k i := by
  unfold sg
  simp only [List.getElem?_cons_succ, List.length_cons, Nat.add_sub_add_right]
def selOk (bs : List Box) (σ : Nat → Nat) : List Nat → List Box → Prop
  | [], [] => True
  | b :: sel, x :: L => bs[b]? = some (renB σ x) ∧ selOk bs σ sel L
  | _, _ => False
theorem selOk_get {bs : List Box} {σ : Nat → Nat} : ∀ {sel : List Nat} {L : List Box}, selOk bs σ sel L → L.length = sel.length ∧ ∀ (i b : Nat), sel[i]? = some b → bs[b]? = (L[i]?).map (renB σ)
  | [], [], _ => ⟨rfl, fun i b h => by simp at h⟩
  | c :: sel, x :: L, h => by
    obtain ⟨h1, h2⟩ := selOk_get h.2
    refine ⟨by simp [h1], fun i b hi => ?_⟩
    cases i with
    | zero =>
      simp only [List.getElem?_cons_zero, Option.some.injEq] at hi
      subst hi
      exact h.1
    | succ i => exact h2 i b (by simpa using hi)
  | [], _ :: _, h => h.elim
  | _ :: _, [], h => h.elim

/-- A call that is handed some boxes. -/
theorem A_callS {Q : Ax → St → Prop} {st : St} {ops : Array Oper} {o : Oper} {rest : List Oper} {fo : Operand} {args : Array Operand} {ts : Array TypeId} {f : FuncId} {caps xs : List AV} (sel : List Nat) {cargs : List AV} {L : List Box} {R : Res → List Box → Prop} (hcall : ACalls P W0 f cargs L R)
    (hg : o.guard = none) (ho : o.op = .call ⟨.value fo, args, ts⟩) (hf : evo (lk st.env) fo = some (.fn f caps)) (ha : evl (lk st.env) args.toList = some xs) (hc : callable P f = true) (hd : dOk st.N o.dst = true)
    (hn : sel.Nodup) (hL : selOk st.bs (sg sel st.bs.length) sel L) (hargs : renL (sg sel st.bs.length) cargs = xs ++ caps)
    (h : ∀ r L', R r L' → kindsOk L L' = true ∧ match r with | .ret x => AOps P W0 n ops rest Q ((st.aft sel L L').put o.dst (renA (sg sel st.bs.length) x)) | .panic x => Q (.panic (renA (sg sel st.bs.length) x)) (st.aft sel L L')) : AOps P W0 n ops (o :: rest) Q st :=
  A_callB sel hcall hg ho hf ha hc hd hn (selOk_get hL).1 (selOk_get hL).2 hargs h

/-- A function that answers a row of its asker's own answers data. -/
theorem ACalls.frozen {f : FuncId} {args : List AV} {sz bt k : Nat} {l : List (List D)} (hk : k = l.length) (h : ACalls P W0 f args [] (fun r L' => r = .ret (.sl 0 sz 0 k) ∧ L' = [.vec sz bt l])) : APure P W0 f args (· = .ret (.d (.rows sz bt l))) := by
  subst hk
  intro M m w us hc ha
  refine (h M m w us hc ha).mono ?_
  rintro e w' ⟨r, L', M', m', ⟨rfl, rfl⟩, hres, hC⟩
  cases e with
  | returned u =>
    have h3 := hC.frame (args := [.sl 0 sz 0 l.length]) (us := #[u]) (N := 1) (by simp only [RAs, and_true]; exact hres) (by simp)
    obtain ⟨M2, m2, h4⟩ := Sb.freeze (W0 := W0) (n := 0) 0 (sz := sz) (bt := bt) (l := l) rfl (Nat.zero_le _) _ M' m' _ w' rfl h3
    have hx := h4.env 0 (.d (.rows sz bt l)) (by simp [fzE, lk_mapE, mkEnv, lk_ofL, lkA, fzA])
    obtain ⟨M3, m3, h5, h6⟩ := fin_pure (W0 := W0) (x := .d (.rows sz bt l)) (x' := .d (.rows sz bt l)) rfl (Le.refl _) _ M2 m2 _ w' u rfl h4 (by simpa using hx)
    exact ⟨_, [], M3, m3, ⟨rfl, rfl⟩, h6, h5⟩
  | panicked c => exact hres.elim
  | outgrown => exact hres.elim
end
end Go.Proofs.YtfbegbpipmgfiaaDoor.Lift
end
section
/- The lift: what steps come to, as rules that look at what is known first. No conditions: words and their laws. -/
set_option linter.unusedVariables false
set_option linter.unusedSimpArgs false
namespace Go.Proofs.YtfbegbpipmgfiaaDoor.Lift
open Go Go.RowKit

/-- What is known, and what is made of it; simp looks at the second when the first is there. -/
def onO {α β : Type} (o : Option α) (f : α → Option β) : Option β := match o with | some x => f x | none => none
@[congr] theorem onO_congr {α β : Type} {o o' : Option α} {f : α → Option β} (h : o = o') : onO o f = onO o' f := by rw [h]
@[go_sem] theorem onO_some {α β : Type} (x : α) (f : α → Option β) : onO (some x) f = f x := (Eq.refl _).trans rfl
@[go_sem] theorem onO_none {α β : Type} (f : α → Option β) : onO none f = none := (Eq.refl _).trans rfl
section
variable {P : Program} {e : Nat → Option AV} {bs : List Box}
def pickW (bs : List Box) : AV → AV → AV → Option (AV × List Box)
  | .d (.v (.bool t)), x, y => (pickV t x y).map (·, bs)
  | _, _, _ => none
def binW (P : Program) (op : BinOp) (T : TypeId) (bs : List Box) : AV → AV → Option (AV × List Box)
  | .d (.v u), .d (.v v) => (scal2 P op T u v).map fun r => (.d (.v r), bs)
  | _, _ => none
def unW (op : UnOp) (bs : List Box) : AV → Option (AV × List Box)
  | .d (.v u) => (unV op u).map fun r => (.d (.v r), bs)
  | _ => none
def cvW (P : Program) (s d : TypeId) (bs : List Box) : AV → Option (AV × List Box)
  | .d (.v u) => (cvV P s d u).map fun r => (.d (.v r), bs)
  | _ => none
def mkW (P : Program) (T : TypeId) (bs : List Box) : AV → Option (AV × List Box)
  | .d (.v u) => if P.concrete T then some (.d (.v (.iface T u)), bs) else none
  | _ => none
def exW (i : Nat) (bs : List Box) : AV → Option (AV × List Box)
  | .tup l => (l[i]?).map (·, bs)
  | _ => none
def bvW (T len : Nat) (bs : List Box) : Box → Option (AV × List Box)
  | .vec sz bt l => some (.sl bs.length sz 0 len, bs ++ [.vec sz bt l])
  | _ => none
def bdW : Box → Option AV
  | .vec sz bt l => some (.d (.rows sz bt l))
  | _ => none
theorem opR_move (x : Operand) : opR P e bs (.move x) = onO (evo e x) fun y => some (y, bs) := by
  simp only [opR]
  cases evo e x <;> rfl
theorem opR_assign (x : Operand) : opR P e bs (.assign x) = onO (evo e x) fun y => some (y, bs) := by
  simp only [opR]
  cases evo e x <;> rfl
theorem opR_pick (c x y : Operand) : opR P e bs (.pick c x y) = onO (evo e c) fun c => onO (evo e x) fun x => onO (evo e y) fun y => pickW bs c x y := by
  simp only [opR]
  cases evo e c with
  | none => rfl
  | some c =>
    cases evo e x with
    | none => simp only [onO]
    | some x =>
      cases evo e y with
      | none => simp only [onO]
      | some y =>
        simp only [onO, pickW]
        split <;> simp_all
theorem opR_build (T : TypeId) (ps : Array (Nat × Operand)) : opR P e bs (.build T ps) = onO (evs e ps.toList) fun l => onO (bdV P T l) fun x => some (x, bs) := by
  simp only [opR]
  cases evs e ps.toList with
  | none => rfl
  | some l =>
    simp only [onO, Option.bind_some]
    cases bdV P T l <;> rfl
theorem opR_load (T : TypeId) (x : Operand) : opR P e bs (.load T x) = onO (evo e x) fun p => onO (ldAt bs p) fun cs => onO (ldV P T cs) fun v => some (v, bs) := by
  simp only [opR]
  cases evo e x with
  | none => rfl
  | some p =>
    simp only [onO, Option.bind_some]
    cases ldAt bs p with
    | none => rfl
    | some cs =>
      simp only [Option.bind_some]
      cases ldV P T cs <;> rfl
theorem opR_nilCheck (x : Operand) : opR P e bs (.nilCheck x) = onO (evo e x) fun p => onO (nilV p) fun v => some (v, bs) := by
  simp only [opR]
  cases evo e x with
  | none => rfl
  | some p =>
    simp only [onO, Option.bind_some]
    cases nilV p <;> rfl
theorem opR_binOp (op : BinOp) (T T' : TypeId) (x y : Operand) : opR P e bs (.binOp op T x y T') = onO (evo e x) fun a => onO (evo e y) fun b => binW P op T bs a b := by
  simp only [opR]
  cases evo e x with
  | none => rfl
  | some a =>
    cases evo e y with
    | none => simp only [onO]
    | some b =>
      simp only [onO, binW]
      split <;> simp_all
theorem opR_unOp (op : UnOp) (T : TypeId) (x : Operand) : opR P e bs (.unOp op T x) = onO (evo e x) (unW op bs) := by
  simp only [opR]
  cases evo e x with
  | none => rfl
  | some a =>
    simp only [onO, unW]
    split <;> simp_all
theorem opR_convert (s d : TypeId) (x : Operand) : opR P e bs (.convert s d x) = onO (evo e x) (cvW P s d bs) := by
  simp only [opR]
  cases evo e x with
  | none => rfl
  | some a =>
    simp only [onO, cvW]
    split <;> simp_all
theorem opR_makeInterface (T : TypeId) (x : Operand) : opR P e bs (.makeInterface T x) = onO (evo e x) (mkW P T bs) := by
  simp only [opR]
  cases evo e x with
  | none => rfl
  | some a =>
    simp only [onO, mkW]
    split <;> simp_all
theorem opR_makeFunc (f : FuncId) (first caps : Array Operand) : opR P e bs (.makeFunc (.func f) first caps) = if first.size = 0 then onO (evl e caps.toList) fun l => some (.fn f l, bs) else none := by
  simp only [opR]
  split
  · cases evl e caps.toList <;> rfl
  · rfl
theorem opR_slice (T : TypeId) (x : Operand) (lo hi mx : Option Operand) : opR P e bs (.slice T x lo hi mx) = onO (evo e x) fun x => onO (evm e lo) fun l => onO (evm e hi) fun h => onO (evm e mx) fun m => onO (slV P T x l h m) fun v => some (v, bs) := by
  simp only [opR]
  cases evo e x with
  | none => rfl
  | some x =>
    cases evm e lo with
    | none => simp only [onO]
    | some l =>
      cases evm e hi with
      | none => simp only [onO]
      | some h =>
        cases evm e mx with
        | none => simp only [onO]
        | some m =>
          simp only [onO]
          cases slV P T x l h m <;> rfl
theorem opR_fieldAddr (T : TypeId) (x : Operand) (i : Nat) : opR P e bs (.fieldAddr T x i) = onO (evo e x) fun p => onO (faV P T i p) fun v => some (v, bs) := by
  simp only [opR]
  cases evo e x with
  | none => rfl
  | some p =>
    simp only [onO, Option.bind_some]
    cases faV P T i p <;> rfl
theorem opR_indexAddr (T : TypeId) (x i : Operand) : opR P e bs (.indexAddr T x i) = onO (evo e x) fun x => onO (evo e i) fun i => onO (ixV P T x i) fun v => some (v, bs) := by
  simp only [opR]
  cases evo e x with
  | none => rfl
  | some x =>
    cases evo e i with
    | none => simp only [onO]
    | some i =>
      simp only [onO]
      cases ixV P T x i <;> rfl
theorem opR_extract (x : Operand) (i : Nat) : opR P e bs (.extract x i) = onO (evo e x) (exW i bs) := by
  simp only [opR]
  cases evo e x with
  | none => rfl
  | some a =>
    simp only [onO, exW]
    split <;> simp_all
theorem opR_len (o : Operand) (T : TypeId) : opR P e bs (.call ⟨.builtin .len, #[o], #[T]⟩) = onO (evo e o) fun x => onO (lenV P T x) fun v => some (v, bs) := by
  simp only [opR]
  cases evo e o with
  | none => rfl
  | some x =>
    simp only [onO, Option.bind_some]
    cases lenV P T x <;> rfl
theorem opR_max (o o' : Operand) (ts : Array TypeId) : opR P e bs (.call ⟨.builtin .max, #[o, o'], ts⟩) = onO (evo e o) fun x => onO (evo e o') fun y => onO (mmV true x y) fun v => some (v, bs) := by
  simp only [opR]
  cases evo e o with
  | none => rfl
  | some x =>
    cases evo e o' with
    | none => simp only [onO]
    | some y =>
      simp only [onO]
      cases mmV true x y <;> rfl
theorem opR_max4 (o o' p p' : Operand) (ts : Array TypeId) : opR P e bs (.call ⟨.builtin .max, #[o, o', p, p'], ts⟩) = onO (evl e [o, o', p, p']) fun l => onO (mm4 l) fun v => some (v, bs) := by
  simp only [opR]
  cases evl e [o, o', p, p'] with
  | none => rfl
  | some l =>
    simp only [onO, Option.bind_some]
    cases mm4 l <;> rfl
theorem opR_min (o o' : Operand) (ts : Array TypeId) : opR P e bs (.call ⟨.builtin .min, #[o, o'], ts⟩) = onO (evo e o) fun x => onO (evo e o') fun y => onO (mmV false x y) fun v => some (v, bs) := by
  simp only [opR]
  cases evo e o with
  | none => rfl
  | some x =>
    cases evo e o' with
    | none => simp only [onO]
    | some y =>
      simp only [onO]
      cases mmV false x y <;> rfl
def bitW (e : Nat → Option AV) (bs : List Box) (k : Bool) : List Operand → Option (AV × List Box)
  | [o] => onO (evo e o) fun x => onO (bitsV k x) fun v => some (v, bs)
  | _ => none
theorem opR_func (f : FuncId) (args : Array Operand) (ts : Array TypeId) : opR P e bs (.call ⟨.value (.func f), args, ts⟩) = onO (bitsFn P f) fun k => bitW e bs k args.toList := by
  simp only [opR]
  cases bitsFn P f with
  | none => rfl
  | some k =>
    simp only [onO, bitW]
    split
    · rename_i k' o h1 h2
      cases h1
      rw [h2]
      simp only
      cases evo e o with
      | none => rfl
      | some x =>
        simp only [Option.bind_some]
        cases bitsV k x <;> rfl
    · rename_i h
      split
      · rename_i o ho
        exact (h k o rfl ho).elim
      · rfl
theorem opR_tmp (t : Nat) (args : Array Operand) (ts : Array TypeId) : opR P e bs (.call ⟨.value (.tmp t), args, ts⟩) = none := by simp only [opR]
theorem opR_append (args : Array Operand) (ts : Array TypeId) : opR P e bs (.call ⟨.builtin .append, args, ts⟩) = none := by simp only [opR]
theorem opR_clear (args : Array Operand) (ts : Array TypeId) : opR P e bs (.call ⟨.builtin .clear, args, ts⟩) = none := by simp only [opR]
theorem opR_panic (x : Operand) : opR P e bs (.panic x) = none := by simp only [opR]
theorem opR_alloc (T : TypeId) : opR P e bs (.alloc T) = onO (zrT P T) fun z => if z.all (·.oneCell') then some (.ptr bs.length 0, bs ++ [.var (z.map cst1)]) else none := by
  simp only [opR]
  cases zrT P T <;> rfl
theorem opR_box (T : TypeId) (x : Operand) : opR P e bs (.box T x) = onO (evo e x) fun x => if x.cells.all AV.one then some (.ptr bs.length 0, bs ++ [.var x.cells]) else none := by
  simp only [opR]
  cases evo e x <;> rfl
theorem opR_buildSlice (T : TypeId) (len : Nat) (ps : Array (Nat × Operand)) : opR P e bs (.buildSlice T len ps) = onO (evs e ps.toList) fun l => onO (bsV P T len l) (bvW T len bs) := by
  simp only [opR]
  cases evs e ps.toList with
  | none => rfl
  | some l =>
    simp only [onO, Option.bind_some]
    cases bsV P T len l with
    | none => rfl
    | some x => cases x <;> rfl
theorem opR_makeMap (T : TypeId) : opR P e bs (.makeMap T none) = some (.mref bs.length, bs ++ [.mp []]) := by simp only [opR]
def mpW (P : Program) (T : TypeId) (s : Value) (f : List (Value × Value) → Option (AV × List Box)) : Box → Option (AV × List Box)
  | .mp es => if keyB P T s && es.all (fun p => keyB P T p.1) then f es else none
  | _ => none
def lkW (P : Program) (T : TypeId) (bs : List Box) (z s : Value) : AV → Option (AV × List Box)
  | .mref b => onO bs[b]? (mpW P T s fun es => some (.d (.v ((mget es s).getD z)), bs))
  | _ => none
theorem opR_lookup (T : TypeId) (x i : Operand) : opR P e bs (.lookup T x i false) = onO (smT P T) fun z => onO (evo e x) fun x => onO (evo e i) fun i => onO (avK i) fun s => lkW P T bs z s x := by
  simp only [opR]
  cases smT P T with
  | none => rfl
  | some z =>
    cases evo e x with
    | none => simp only [onO]
    | some x =>
      cases evo e i with
      | none => simp only [onO, Option.bind_none]
      | some i =>
        simp only [onO, Option.bind_some]
        cases avK i with
        | none => simp only
        | some s =>
          cases x <;> simp only [lkW]
          rename_i b
          cases bs[b]? with
          | none => rfl
          | some y => cases y <;> rfl
def muW (P : Program) (T : TypeId) (bs : List Box) (s : Value) : AV → AV → Option (AV × List Box)
  | .mref b, .d (.v u) => onO bs[b]? (mpW P T s fun es => some (.junk, bs.set b (.mp (mset es s u))))
  | _, _ => none
theorem muW_eq (T : TypeId) (x i y : Operand) : (match smT P T, evo e x, (evo e i).bind avK, evo e y with
    | some _, some (.mref b), some s, some (.d (.v u)) => (match bs[b]? with | some (.mp es) => if keyB P T s && es.all (fun p => keyB P T p.1) then some (AV.junk, bs.set b (.mp (mset es s u))) else none | _ => none)
    | _, _, _, _ => none) = onO (smT P T) fun _ => onO (evo e x) fun x => onO (evo e i) fun i => onO (avK i) fun s => onO (evo e y) fun y => muW P T bs s x y := by
  cases smT P T with
  | none => rfl
  | some z =>
    cases evo e x with
    | none => simp only [onO]
    | some x =>
      cases evo e i with
      | none => simp only [onO, Option.bind_none]
      | some i =>
        simp only [onO, Option.bind_some]
        cases avK i with
        | none => simp only
        | some s =>
          cases evo e y with
          | none => simp only
          | some y =>
            cases x with
            | mref b =>
              cases y with
              | d d =>
                cases d with
                | v u =>
                  simp only [muW]
                  cases bs[b]? with
                  | none => rfl
                  | some z => cases z <;> rfl
                | _ => rfl
              | _ => rfl
            | _ => rfl
theorem opR_mapUpdate (T : TypeId) (x i y : Operand) : opR P e bs (.mapUpdate T x i y) = onO (smT P T) fun _ => onO (evo e x) fun x => onO (evo e i) fun i => onO (avK i) fun s => onO (evo e y) fun y => muW P T bs s x y := by
  refine Eq.trans ?_ (muW_eq T x i y)
  simp only [opR]
  rfl
theorem opR_store (T : TypeId) (p x : Operand) : opR P e bs (.store T p x) = onO (evo e p) fun p => onO (evo e x) fun x => if x.cells.all AV.one ∧ szT P T = some x.cells.length then onO (stAt bs p x.cells) fun r => some (.junk, r) else none := by
  simp only [opR]
  cases evo e p with
  | none => rfl
  | some p =>
    cases evo e x with
    | none => simp only [onO]
    | some x =>
      simp only [onO]
      split
      · cases stAt bs p x.cells <;> rfl
      · rfl
def ldP (j : Nat) : Box → Option (List AV)
  | .var cs => some (cs.drop j)
  | _ => none
def ldE (sz i j : Nat) : Box → Option (List AV)
  | .vec sz' _ l => if sz = sz' then onO l[i]? fun row => some ((row.drop j).map .d) else none
  | .own sz' _ cs => if sz = sz' ∧ i * sz + sz ≤ cs.length then some (((cs.drop (i * sz)).take sz).drop j) else none
  | _ => none
theorem ldAt_ptr (b j : Nat) : ldAt bs (.ptr b j) = onO bs[b]? (ldP j) := by
  simp only [ldAt]
  cases bs[b]? with
  | none => rfl
  | some x => cases x <;> rfl
theorem ldAt_ep (b sz i j : Nat) : ldAt bs (.ep b sz i j) = onO bs[b]? (ldE sz i j) := by
  simp only [ldAt]
  cases bs[b]? with
  | none => rfl
  | some x =>
    cases x with
    | vec sz' bt l =>
      simp only [onO, ldE]
      split
      · cases l[i]? <;> rfl
      · rfl
    | _ => rfl
theorem ldAt_dp (ds : List D) : ldAt bs (.dp ds) = some (ds.map .d) := rfl
def ldB (cs : List AV) : Bool → Nat → Option AV
  | true, n => if n ≤ cs.length then some (.agg (cs.take n)) else none
  | false, _ => cs.head?
theorem ldV_ap (T : TypeId) (cs : List AV) : ldV P T cs = onO (aggT P T) fun a => onO (szT P T) fun n => ldB cs a n := by
  simp only [ldV]
  cases aggT P T with
  | none => rfl
  | some a => cases szT P T with
    | none => cases a <;> simp only [onO]
    | some n => cases a <;> rfl
def faB (off : Nat) : AV → Option AV
  | .ptr b j => some (.ptr b (j + off))
  | .ep b sz q j => some (.ep b sz q (j + off))
  | .dp ds => some (.dp (ds.drop off))
  | _ => none
theorem faV_ap (T : TypeId) (i : Nat) (x : AV) : faV P T i x = onO (fdT P T i) fun p => onO (szT P p.2) fun n => if n = 0 then none else faB p.1 x := by
  simp only [faV]
  cases fdT P T i with
  | none => rfl
  | some p =>
    obtain ⟨off, t⟩ := p
    simp only [onO]
    cases szT P t with
    | none => rfl
    | some n => cases n with
      | zero => rfl
      | succ n =>
        simp only [Nat.succ_ne_zero, if_false]
        cases x <;> rfl
def ixB (s : Nat) : AV → AV → Option AV
  | .d (.rows sz _ l), .d (.v (.int _ n)) => if s = sz then (if 0 ≤ n then onO l[n.toNat]? fun r => some (.dp r) else none) else none
  | .sl b sz lo len, .d (.v (.int _ n)) => if s = sz then (if 0 ≤ n ∧ n < len then some (.ep b sz (lo + n.toNat) 0) else none) else none
  | _, _ => none
theorem ixV_ap (T : TypeId) (x i : AV) : ixV P T x i = onO (elT P T) fun t => onO (szT P t) fun s => ixB s x i := by
  simp only [ixV]
  cases elT P T with
  | none => rfl
  | some t =>
    simp only [onO]
    cases szT P t with
    | none => rfl
    | some s =>
      simp only
      split
      · rename_i sz bt l k n
        simp only [ixB, onO]
        split
        · split
          · cases l[n.toNat]? <;> rfl
          · rfl
        · rfl
      · rfl
      · rename_i h1 h2
        unfold ixB
        split
        · exact (h1 _ _ _ _ _ rfl rfl).elim
        · exact (h2 _ _ _ _ _ _ rfl rfl).elim
        · rfl
theorem evs_nil : evs e [] = some [] := rfl
theorem evs_cons (i : Nat) (o : Operand) (l : List (Nat × Operand)) : evs e ((i, o) :: l) = onO (evo e o) fun x => onO (evs e l) fun r => some ((i, x) :: r) := by
  simp only [evs]
  cases evo e o with
  | none => rfl
  | some x => cases evs e l <;> rfl
theorem evl_nil : evl e [] = some [] := rfl
theorem evl_cons (o : Operand) (l : List Operand) : evl e (o :: l) = onO (evo e o) fun x => onO (evl e l) fun r => some (x :: r) := by
  simp only [evl]
  cases evo e o with
  | none => rfl
  | some x => cases evl e l <;> rfl
theorem evm_none : evm e none = some none := rfl
theorem evm_some (o : Operand) : evm e (some o) = onO (evo e o) fun x => some (some x) := by
  simp only [evm]
  cases evo e o <;> rfl
theorem bdV_ap (T : TypeId) (ps : List (Nat × AV)) : bdV P T ps = onO (plT P T) fun places => onO (zrT P T) fun z => if z.all (·.oneCell') then onO (fillA (places[·]?) (z.map cst1) ps) fun l => some (.agg l) else none := by
  simp only [bdV]
  cases plT P T with
  | none => rfl
  | some places =>
    cases zrT P T with
    | none => rfl
    | some z =>
      simp only [onO]
      split
      · cases fillA (places[·]?) (z.map cst1) ps <;> rfl
      · rfl
theorem fillA_nil (place : Nat → Option (Nat × Nat)) (cells : List AV) : fillA place cells [] = some cells := rfl
theorem fillA_cons (place : Nat → Option (Nat × Nat)) (cells : List AV) (i : Nat) (x : AV) (l : List (Nat × AV)) : fillA place cells ((i, x) :: l) = onO (place i) fun p => if x.cells.length = p.2 ∧ p.1 + p.2 ≤ cells.length ∧ x.cells.all AV.one = true then fillA place (over cells p.1 x.cells) l else none := by
  simp only [fillA]
  cases place i <;> rfl
theorem bsV_ap (T : TypeId) (len : Nat) (ps : List (Nat × AV)) : bsV P T len ps = onO (elT P T) fun t => onO (szT P t) fun sz => onO (btT P t) fun bt => onO (zrT P t) fun z =>
    if 0 < len * sz ∧ len * sz ≤ 16777216 ∧ 0 < bt ∧ len * bt ≤ 140737488355328 ∧ z.length = sz ∧ z.all (·.oneCell') = true then
      onO (fillA (fun i => some (i * sz, sz)) ((List.range (len * sz)).map fun i => cst1 (z.getD (i % sz) default)) ps) fun r => onO (toDs r) fun ds => some (.vec sz bt (chunk sz len ds)) else none := by
  simp only [bsV]
  cases elT P T with
  | none => rfl
  | some t =>
    simp only [onO]
    cases szT P t with
    | none => rfl
    | some sz =>
      cases btT P t with
      | none => rfl
      | some bt =>
        cases zrT P t with
        | none => rfl
        | some z =>
          simp only
          split
          · cases fillA (fun i => some (i * sz, sz)) ((List.range (len * sz)).map fun i => cst1 (z.getD (i % sz) default)) ps with
            | none => rfl
            | some r =>
              simp only
              cases toDs r <;> rfl
          · rfl
def stP (bs : List Box) (b j : Nat) (ys : List AV) : Box → Option (List Box)
  | .var cs => if j + ys.length ≤ cs.length then some (bs.set b (.var (over cs j ys))) else none
  | _ => none
def stE (bs : List Box) (b sz i j : Nat) (ys : List AV) : Box → Option (List Box)
  | .vec sz' bt l => onO (toDs ys) fun ds => onO l[i]? fun row => if sz = sz' ∧ j + ds.length ≤ row.length then some (bs.set b (.vec sz' bt (l.set i (over row j ds)))) else none
  | .own sz' bt cs => if sz = sz' ∧ j + ys.length ≤ sz ∧ i * sz + sz ≤ cs.length then some (bs.set b (.own sz' bt (over cs (i * sz + j) ys))) else none
  | _ => none
theorem stAt_ptr (b j : Nat) (ys : List AV) : stAt bs (.ptr b j) ys = onO bs[b]? (stP bs b j ys) := by
  simp only [stAt]
  cases bs[b]? with
  | none => rfl
  | some x => cases x <;> rfl
theorem stAt_ep (b sz i j : Nat) (ys : List AV) : stAt bs (.ep b sz i j) ys = onO bs[b]? (stE bs b sz i j ys) := by
  simp only [stAt]
  cases bs[b]? with
  | none => rfl
  | some x =>
    cases x with
    | vec sz' bt l =>
      simp only [onO, stE]
      cases toDs ys with
      | none => rfl
      | some ds => cases l[i]? <;> rfl
    | _ => rfl
theorem slV_rows (T sz bt : Nat) (rs : List (List D)) (lo hi : Option AV) : slV P T (.d (.rows sz bt rs)) lo hi none = onO (elT P T) fun t => if szT P t = some sz then (onO (bnd lo 0) fun l => onO (bnd hi rs.length) fun h => if l ≤ h ∧ h ≤ rs.length then some (.d (.rows sz bt ((rs.take h).drop l))) else none) else none := by
  simp only [slV]
  cases elT P T with
  | none => rfl
  | some t =>
    simp only [onO]
    split
    · cases bnd lo 0 with
      | none => rfl
      | some l => cases bnd hi rs.length <;> rfl
    · rfl
theorem slV_sl (T b sz k n : Nat) (lo hi : Option AV) : slV P T (.sl b sz k n) lo hi none = onO (elT P T) fun t => if szT P t = some sz then (onO (bnd lo 0) fun l => onO (bnd hi n) fun h => if l ≤ h ∧ h ≤ n ∧ (l = 0 ∨ l < h) then some (.sl b sz (k + l) (h - l)) else none) else none := by
  simp only [slV]
  cases elT P T with
  | none => rfl
  | some t =>
    simp only [onO]
    split
    · cases bnd lo 0 with
      | none => rfl
      | some l => cases bnd hi n <;> rfl
    · rfl
theorem stepG_g (env : List (List (Option AV))) (op : Op) (t : Nat) (want : Bool) : stepG P bs env op (some (some t, want)) = onO (gdV want (lk env t)) fun G => onO (opW P (resE G (lk env)) bs op) fun x => some (.opt G x) := by
  have h : ∀ G, (opW P (resE G (lk env)) bs op).map (AV.opt G) = onO (opW P (resE G (lk env)) bs op) fun x => some (.opt G x) := fun G => by
    generalize opW P (resE G (lk env)) bs op = z
    cases z <;> rfl
  simp only [stepG, h]
  cases lk env t with
  | none => rfl
  | some x =>
    cases x with
    | d x =>
      cases x with
      | v x => cases x <;> rfl
      | _ => rfl
    | opt g x =>
      cases x with
      | d x =>
        cases x with
        | v x => cases x <;> rfl
        | _ => rfl
      | _ => rfl
    | _ => rfl
theorem opV_ap (op : Op) : opV P e bs op = if mkOp op = true then none else onO (opR P e bs op) fun x => some x.1 := by
  unfold opV
  split
  · rfl
  · cases opR P e bs op <;> rfl
theorem bsD_ap (T : TypeId) (len : Nat) (ps : Array (Nat × Operand)) : bsD P e (.buildSlice T len ps) = onO (evs e ps.toList) fun l => onO (bsV P T len l) bdW := by
  simp only [bsD]
  cases evs e ps.toList with
  | none => rfl
  | some l =>
    simp only [onO, Option.bind_some]
    cases bsV P T len l with
    | none => rfl
    | some x => cases x <;> rfl
theorem gdV_d (want b : Bool) : gdV want (some (.d (.v (.bool b)))) = some (if want then b else !b) := rfl
theorem gdV_o (want g b : Bool) : gdV want (some (.opt g (.d (.v (.bool b))))) = some (g && (if want then b else !b)) := rfl
theorem resE_at (g : Bool) (t : Nat) : resE g e t = onO (e t) fun x => some (resA g x) := by
  unfold resE
  cases e t <;> rfl
theorem resA_o (g g' : Bool) (x : AV) : resA g (.opt g' x) = if (!g || g') = true then x else .opt g' x := rfl
theorem resA_d (g : Bool) (x : D) : resA g (.d x) = .d x := rfl
theorem resA_dp (g : Bool) (x : List D) : resA g (.dp x) = .dp x := rfl
theorem resA_ptr (g : Bool) (b j : Nat) : resA g (.ptr b j) = .ptr b j := rfl
theorem resA_ep (g : Bool) (b sz i j : Nat) : resA g (.ep b sz i j) = .ep b sz i j := rfl
theorem resA_sl (g : Bool) (b sz i j : Nat) : resA g (.sl b sz i j) = .sl b sz i j := rfl
theorem resA_fn (g : Bool) (f : FuncId) (l : List AV) : resA g (.fn f l) = .fn f l := rfl
theorem resA_agg (g : Bool) (l : List AV) : resA g (.agg l) = .agg l := rfl
theorem resA_tup (g : Bool) (l : List AV) : resA g (.tup l) = .tup l := rfl
theorem resA_mref (g : Bool) (b : Nat) : resA g (.mref b) = .mref b := rfl
theorem evo_tmp (t : Nat) : evo e (.tmp t) = e t := rfl
theorem evo_const (v : Value) : evo e (.const v) = cst v := rfl
theorem evo_glob (g : Nat) : evo e (.global g) = some (.d (.v (.pointer (some ⟨g, 0, none⟩)))) := rfl
theorem evo_fn (f : FuncId) : evo e (.func f) = some (.fn f []) := rfl
end
attribute [go_sem] opR_move opR_assign opR_pick opR_build opR_load opR_nilCheck opR_binOp opR_unOp opR_convert opR_makeInterface opR_makeFunc opR_slice opR_fieldAddr opR_indexAddr opR_extract opR_len opR_max opR_max4 mm4 opR_min opR_func opR_tmp opR_append opR_clear opR_panic
attribute [go_sem] opR_alloc opR_box opR_buildSlice opR_makeMap opR_lookup opR_mapUpdate opR_store pickW binW unW cvW mkW exW bvW bdW bitW mpW lkW muW ldP ldE ldAt_ptr ldAt_ep ldAt_dp ldB ldV_ap faB faV_ap ixB ixV_ap evs_nil evs_cons evl_nil evl_cons evm_none evm_some bdV_ap fillA_nil fillA_cons bsV_ap stP stE stAt_ptr stAt_ep slV_rows slV_sl
attribute [go_sem] stepG_g opV_ap bsD_ap gdV_d gdV_o resE_at resA_o resA_d resA_dp resA_ptr resA_ep resA_sl resA_fn resA_agg resA_tup resA_mref evo_tmp evo_const evo_glob evo_fn
end Go.Proofs.YtfbegbpipmgfiaaDoor.Lift
end
section
/- The lift: the rules again, in a short form; their small duties done where they stand. No conditions: words and their laws. -/
set_option linter.unusedVariables false
set_option linter.unusedSimpArgs false
namespace Go.Proofs.YtfbegbpipmgfiaaDoor.Lift
open Go Go.RowKit

attribute [go_sem] Nat.reduceLT Nat.reduceLeDiff Nat.reduceAdd Nat.reduceSub Nat.reduceMul Nat.reduceEqDiff Nat.reduceBEq Nat.reduceBNe Nat.reduceMod Nat.reduceDiv Int.reduceEq Int.reduceNe Int.reduceLT Int.reduceLE Int.reduceToNat Int.reduceBEq Int.reduceBNe Int.reduceNeg reduceIte reduceCtorEq reduceDIte Value.oneCell'
attribute [go_sem] avK avK.avKs
attribute [go_sem] TQ
attribute [go_sem] runTo stepT_ap onSome_some onSome_none lk lk1 lk2 put1 put2 putE ofL mapE nilV ibV lenV put_s put_n putL_s putL_n dOk scal2 iop sop fop shop unV cvV mmV bitsV pickV bnd over toDs chunk cst cst1 AV.cells AV.one List.all_cons List.all_nil List.length_cons List.length_nil List.map_cons List.map_nil List.length_map List.nil_append List.cons_append List.append_nil List.getElem?_cons_zero List.getElem?_cons_succ List.set_cons_zero List.set_cons_succ List.set_nil List.take_succ_cons List.take_zero List.take_nil List.drop_succ_cons List.drop_zero List.drop_nil List.head?_cons List.size_toArray List.getD_cons_zero List.getD_cons_succ List.range_succ List.range_zero Option.bind_some Option.map_some Option.bind_none Option.map_none Option.some.injEq Option.isSome_some Bool.and_true Bool.true_and Bool.and_self Bool.not_true Bool.not_false Bool.false_and Bool.and_false Bool.or_true Bool.true_or Bool.or_false Bool.false_or Bool.not_not Bool.not_or_self Bool.or_not_self Bool.cond_true Bool.cond_false Bool.cond_false_right Bool.cond_true_left Bool.false_eq_true Bool.true_eq_false decide_true decide_false decide_eq_true_eq and_true true_and and_self if_true if_false ite_true ite_false true_or or_true not_true not_false_eq_true ne_eq eq_self beq_self_eq_true bne_self_eq_false Nat.add_zero Nat.zero_add Nat.lt_irrefl Nat.le_refl Nat.sub_zero Nat.zero_le Nat.succ_ne_zero Int.toNat_natCast Int.natCast_nonneg ge_iff_le gt_iff_lt
attribute [go_sem] Int.cast_ofNat_Int Int.natCast_zero Thn InB killE killA killB killL killPE killP killPB killPL St.aft moved isVar setAll renA renB renL sg_c0 sg_cS fzE fzA fzL fzB fvE fvA fvL fvB noName noNames namesAll AV.names envBelow boxBelow
@[go_sem] theorem all_one (l : List D) : (l.map AV.d).all AV.one = true := by induction l <;> simp_all [AV.one]
@[go_sem] theorem names_ds (p : Nat → Bool) (l : List D) : namesAll p (l.map AV.d) = true := by induction l <;> simp_all [namesAll, AV.names]
@[go_sem] theorem killPL_ds (p : Nat → Bool) (l : List D) : killPL p (l.map AV.d) = l.map AV.d := by induction l <;> simp_all [killPL, killP]
@[go_sem] theorem killL_ds (b : Nat) (l : List D) : killL b (l.map AV.d) = l.map AV.d := by induction l <;> simp_all [killL, killA]
@[go_sem] theorem fvL_ds (b : Nat) (r : List D) (l : List D) : fvL b r (l.map AV.d) = l.map AV.d := by induction l <;> simp_all [fvL, fvA]
@[go_sem] theorem renL_ds (σ : Nat → Nat) (l : List D) : renL σ (l.map AV.d) = l.map AV.d := by induction l <;> simp_all [renL, renA]
@[go_sem] theorem sg_nil (k i : Nat) : sg [] k i = k + i := by simp [sg]
theorem take_len {α : Type} {l : List α} {n : Nat} (h : l.length = n) : l.take n = l := by subst h; exact List.take_length
theorem drop_len {α : Type} {l : List α} {n : Nat} (h : l.length = n) : l.drop n = [] := by subst h; exact List.drop_length
attribute [go_sem] List.take_length List.drop_length
@[go_sem] theorem take_map {α β : Type} (f : α → β) (l : List α) : (l.map f).take l.length = l.map f := take_len (List.length_map ..)
theorem wrap_succ {i : Nat} (h : i < 9223372036854775807) : IntKind.i64.wrap ((i : Int) + 1) = ((i + 1 : Nat) : Int) := by
  rw [IntKind.wrap_i64]
  omega
theorem wrap_in {x : Int} (h0 : -9223372036854775808 ≤ x) (h1 : x ≤ 9223372036854775807) : IntKind.i64.wrap x = x := by
  rw [IntKind.wrap_i64]
  omega
theorem eSub_nil (env : List (List (Option AV))) : eSub env [] := trivial
theorem eSub_cons {env : List (List (Option AV))} {l : List (Nat × AV)} {t : Nat} {x : AV} (h : lk env t = some x) (h' : eSub env l) : eSub env ((t, x) :: l) := ⟨⟨x, h, Le.refl x⟩, h'⟩
@[go_sem] theorem toDs_map (l : List D) : toDs (l.map .d) = some l := by
  induction l with
  | nil => rfl
  | cons x l ih => simp [toDs, ih]

section
variable {P : Program} {W0 : World} {n : Nat}

/-- What is left of a region, its guards told. -/
def AOpsG (P : Program) (W0 : World) (n : Nat) (ops : Array Oper) (l : List Oper) (gs : List (Option (Option Nat × Bool))) (Q : Ax → St → Prop) (st : St) : Prop := gsl ops l = gs → AOps P W0 n ops l Q st
@[congr] theorem AOpsG_congr {ops : Array Oper} {l : List Oper} {gs : List (Option (Option Nat × Bool))} {Q : Ax → St → Prop} {st st' : St} (h : st = st') : AOpsG P W0 n ops l gs Q st = AOpsG P W0 n ops l gs Q st' := by rw [h]
/-- As many steps as there are that call nobody; then what is behind the region, or what is left. -/
def run2 (P : Program) (W0 : World) (n : Nat) (ops : Array Oper) (Q : Ax → St → Prop) : List Oper → List (Option (Option Nat × Bool)) → St → Prop
  | [], gs, st => Q .normal st
  | o :: l, [], st => AOpsG P W0 n ops (o :: l) [] Q st
  | o :: l, none :: gs, st => onSome (opR P (lk st.env) st.bs o.op) (fun p => dOk st.N o.dst = true ∧ run2 P W0 n ops Q l gs ((⟨st.N, st.env, p.2⟩ : St).put o.dst p.1)) (AOpsG P W0 n ops (o :: l) (none :: gs) Q st)
  | o :: l, some g :: gs, st => onSome (stepG P st.bs st.env o.op (some g)) (fun x => dOk st.N o.dst = true ∧ run2 P W0 n ops Q l gs (st.put o.dst x)) (AOpsG P W0 n ops (o :: l) (some g :: gs) Q st)
@[go_sem] theorem run2_nil (ops : Array Oper) (Q : Ax → St → Prop) (gs : List (Option (Option Nat × Bool))) (st : St) : run2 P W0 n ops Q [] gs st = Q .normal st := by cases gs <;> rfl
@[go_sem] theorem run2_n (ops : Array Oper) (Q : Ax → St → Prop) (o : Oper) (l : List Oper) (gs : List (Option (Option Nat × Bool))) (st : St) : run2 P W0 n ops Q (o :: l) (none :: gs) st = onSome (opR P (lk st.env) st.bs o.op) (fun p => dOk st.N o.dst = true ∧ run2 P W0 n ops Q l gs ((⟨st.N, st.env, p.2⟩ : St).put o.dst p.1)) (AOpsG P W0 n ops (o :: l) (none :: gs) Q st) := (Eq.refl _).trans rfl
@[go_sem] theorem run2_s (ops : Array Oper) (Q : Ax → St → Prop) (o : Oper) (l : List Oper) (g : Option Nat × Bool) (gs : List (Option (Option Nat × Bool))) (st : St) : run2 P W0 n ops Q (o :: l) (some g :: gs) st = onSome (stepG P st.bs st.env o.op (some g)) (fun x => dOk st.N o.dst = true ∧ run2 P W0 n ops Q l gs (st.put o.dst x)) (AOpsG P W0 n ops (o :: l) (some g :: gs) Q st) := (Eq.refl _).trans rfl
@[congr] theorem run2_congr {ops : Array Oper} {Q : Ax → St → Prop} {l : List Oper} {gs : List (Option (Option Nat × Bool))} {st st' : St} (h : st = st') : run2 P W0 n ops Q l gs st = run2 P W0 n ops Q l gs st' := by rw [h]
theorem A_qstep {Q : Ax → St → Prop} {st : St} {ops : Array Oper} {o : Oper} {rest : List Oper} {x : AV} (hd : dOk st.N o.dst = true) (hy : Yl P W0 st.bs ops (lk st.env) o x) (h : AOps P W0 n ops rest Q (st.put o.dst x)) : AOps P W0 n ops (o :: rest) Q st := by
  intro E M m a w hn hC
  refine wpList_step fun K hK => Yl_sound (CE.of hC) hd hy fun M' a' w' hc' => hK _ _ (h E M' m a' w' hn ?_)
  have := CE.to (env := putL o.dst x st.env) (by rw [lk_putL]; exact hc')
  cases ho : o.dst <;> rw [ho] at this <;> exact this
theorem gsl_none {ops : Array Oper} {o : Oper} {l : List Oper} {gs : List (Option (Option Nat × Bool))} (h : gsl ops (o :: l) = none :: gs) : o.guard = none ∧ gsl ops l = gs := by
  simpa only [gsl, List.map_cons, List.cons.injEq, Option.map_eq_none_iff] using h
theorem run2_ops {ops : Array Oper} {Q : Ax → St → Prop} : ∀ {l : List Oper} {gs : List (Option (Option Nat × Bool))} {st : St}, run2 P W0 n ops Q l gs st → AOpsG P W0 n ops l gs Q st
  | [], gs, st, h => fun _ => A_nil (by simpa only [run2_nil] using h)
  | o :: l, [], st, h => h
  | o :: l, none :: gs, st, h => by
    rw [run2_n] at h
    cases hs : opR P (lk st.env) st.bs o.op with
    | none =>
      rw [hs] at h
      exact h
    | some p =>
      rw [hs] at h
      intro hg
      obtain ⟨h1, h2⟩ := gsl_none hg
      exact A_step h1 hs h.1 (run2_ops h.2 h2)
  | o :: l, some g :: gs, st, h => by
    rw [run2_s] at h
    cases hs : stepG P st.bs st.env o.op (some g) with
    | none =>
      rw [hs] at h
      exact h
    | some x =>
      rw [hs] at h
      intro hg
      simp only [gsl, List.map_cons, List.cons.injEq] at hg
      exact A_qstep h.1 (stepG_Yl hg.1 hs) (run2_ops h.2 hg.2)

variable {Q : Ax → St → Prop} {st : St}
theorem wS {x y : Code} (h : ACode P W0 n x (Thn (ACode P W0 n y Q) Q) st) : ACode P W0 n (.seq x y) Q st := A_seq h
theorem wB {id : Nat} {c : Code} (h : ACode P W0 n c (InB id Q) st) : ACode P W0 n (.block id c) Q st := A_block h
theorem wR {id : Nat} {l : List Oper} {gs : List (Option (Option Nat × Bool))} (h : run2 P W0 n l.toArray Q l gs st) (hg : gsl l.toArray l = gs := by (simp only [gsl, List.map_cons, List.map_nil, Option.map_none, Option.map_some, List.getElem?_toArray, List.getElem?_cons_zero, List.getElem?_cons_succ, Option.bind_some] <;> rfl)) (hnd : l.all noDef = true := by rfl) : ACode P W0 n (.region id l.toArray false) Q st := A_region (run2_ops h hg) hnd
theorem wT {c : Operand} {x y : Code} (hc : evo (lk st.env) c = some (.d (.v (.bool true)))) (h1 : ACode P W0 n x Q st) : ACode P W0 n (.cond c x y) Q st := A_condt hc h1
theorem wF {c : Operand} {x y : Code} (hc : evo (lk st.env) c = some (.d (.v (.bool false)))) (h1 : ACode P W0 n y Q st) : ACode P W0 n (.cond c x y) Q st := A_condf hc h1
theorem wI {c : Operand} {x y : Code} {t : Bool} (h1 : t = true → ACode P W0 n x Q st) (h2 : t = false → ACode P W0 n y Q st) (hc : evo (lk st.env) c = some (.d (.v (.bool t))) := by rfl) : ACode P W0 n (.cond c x y) Q st := A_cond hc h1 h2
theorem wK (h : Q .normal st) : ACode P W0 n .skip Q st := A_skip h
theorem wE {id : Nat} (h : Q (.exit id) st) : ACode P W0 n (.exit id) Q st := A_exit h
theorem wX (h : Q .ret st) : ACode P W0 n .ret Q st := A_ret h

variable {ops : Array Oper} {o : Oper} {rest : List Oper} {gs : List (Option (Option Nat × Bool))}
/-- A call of a pure function. -/
theorem wC {fo : Operand} {args : Array Operand} {ts : Array TypeId} {f : FuncId} {caps xs cargs : List AV} {y : AV} (hcall : APure P W0 f cargs (· = .ret y)) (h : run2 P W0 n ops Q rest gs (st.put o.dst y))
    (ho : o.op = .call ⟨.value fo, args, ts⟩ := by rfl) (hf : evo (lk st.env) fo = some (.fn f caps) := by rfl) (ha : evl (lk st.env) args.toList = some xs := by rfl) (hx : xs ++ caps = cargs := by rfl)
    (hc : callable P f = true := by first | assumption | simp only [go_sem]) (hd : dOk st.N o.dst = true := by rfl) (hn : noNames cargs = true := by first | rfl | simp only [go_sem]) (hy : noName y = true := by first | rfl | simp only [go_sem]) : AOpsG P W0 n ops (o :: rest) (none :: gs) Q st := by
  intro hG
  obtain ⟨hg, hG⟩ := gsl_none hG
  subst hx
  exact A_call hcall hg ho hf ha hc hd hn (by rintro r rfl; exact ⟨hy, run2_ops h hG⟩)
/-- A call that panics. -/
theorem wP {fo : Operand} {args : Array Operand} {ts : Array TypeId} {f : FuncId} {caps xs cargs : List AV} {y : AV} (hcall : APure P W0 f cargs (· = .panic y)) (h : Q (.panic y) st)
    (ho : o.op = .call ⟨.value fo, args, ts⟩ := by rfl) (hf : evo (lk st.env) fo = some (.fn f caps) := by rfl) (ha : evl (lk st.env) args.toList = some xs := by rfl) (hx : xs ++ caps = cargs := by rfl)
    (hc : callable P f = true := by first | assumption | simp only [go_sem]) (hd : dOk st.N o.dst = true := by rfl) (hn : noNames cargs = true := by first | rfl | simp only [go_sem]) (hy : noName y = true := by first | rfl | simp only [go_sem]) : AOpsG P W0 n ops (o :: rest) (none :: gs) Q st := by
  intro hG
  obtain ⟨hg, hG⟩ := gsl_none hG
  subst hx
  exact A_call hcall hg ho hf ha hc hd hn (by rintro r rfl; exact ⟨hy, h⟩)
/-- A call that is handed boxes and answers in one way. -/
theorem wCB {fo : Operand} {args : Array Operand} {ts : Array TypeId} {f : FuncId} {caps xs : List AV} (sel : List Nat) {cargs : List AV} {L L' : List Box} {x : AV} (hcall : ACalls P W0 f cargs L (fun r K => r = .ret x ∧ K = L'))
    (h : run2 P W0 n ops Q rest gs ((st.aft sel L L').put o.dst (renA (sg sel st.bs.length) x)))
    (ho : o.op = .call ⟨.value fo, args, ts⟩ := by rfl) (hf : evo (lk st.env) fo = some (.fn f caps) := by rfl) (ha : evl (lk st.env) args.toList = some xs := by rfl) (hc : callable P f = true := by first | assumption | simp only [go_sem]) (hd : dOk st.N o.dst = true := by rfl)
    (hn : sel.Nodup := by decide) (hL : selOk st.bs (sg sel st.bs.length) sel L := by repeat (first | trivial | refine ⟨rfl, ?_⟩)) (hargs : renL (sg sel st.bs.length) cargs = xs ++ caps := by first | rfl | simp only [go_sem]) (hk : kindsOk L L' = true := by rfl) : AOpsG P W0 n ops (o :: rest) (none :: gs) Q st := fun hG => let ⟨hg, hG⟩ := gsl_none hG;
  A_callS sel hcall hg ho hf ha hc hd hn hL hargs (by rintro r K ⟨rfl, rfl⟩; exact ⟨hk, run2_ops h hG⟩)
theorem wPanic {y : Operand} {t : TypeId} {u : Value} (h : Q (.panic (.d (.v (.iface t u)))) st) (ho : o.op = .panic y := by rfl) (hy : evo (lk st.env) y = some (.d (.v (.iface t u))) := by rfl) : AOpsG P W0 n ops (o :: rest) (none :: gs) Q st := fun hG => let ⟨hg, hG⟩ := gsl_none hG; A_panic hg ho hy h

/-- An append of data to a row of one's own. -/
theorem wA {s x : Operand} {T e sz bt b k : Nat} {X : AV} (l l2 : List (List D)) {z : List Value}
    (h : run2 P W0 n ops Q rest gs ((⟨st.N, killE b st.env, (st.bs.map (killB b)).set b (.vec sz bt (l ++ l2))⟩ : St).put o.dst (.sl b sz 0 (l ++ l2).length)))
    (ho : o.op = .call ⟨.builtin .append, #[s, x], #[T, T]⟩ := by rfl) (he : elT P T = some e := by simp only [go_sem] <;> rfl) (hs : szT P e = some sz := by simp only [go_sem] <;> rfl) (hbt : btT P e = some bt := by simp only [go_sem] <;> rfl) (hz : zrT P e = some z := by simp only [go_sem] <;> rfl) (hzl : z.length = sz := by rfl)
    (h1 : evo (lk st.env) s = some (.sl b sz 0 k) := by rfl) (hk : k = l.length := by first | rfl | (simp; done) | (simp; omega)) (hb : st.bs[b]? = some (.vec sz bt l) := by rfl) (h2 : evo (lk st.env) x = some X := by rfl) (hX : apR st.bs sz bt X = some l2 := by first | rfl | (simp [apR]; done)) (hd : dOk st.N o.dst = true := by rfl) (hbound : (l.length + l2.length) * bt ≤ 140737488355328) : AOpsG P W0 n ops (o :: rest) (none :: gs) Q st := fun hG => let ⟨hg, hG⟩ := gsl_none hG;
  A_appendG hg ho he hs hbt hz hzl h1 hk hb (fun E M m a w hC => src_rows hC he (hC.box b _ hb).1 h2 hX) hd hbound (run2_ops h hG)
/-- An append of data to a row of one's own whose cells may name others. -/
theorem wAO {s x : Operand} {T e sz bt b k : Nat} {X : AV} (cs : List AV) (l2 : List (List D)) {z : List Value}
    (h : run2 P W0 n ops Q rest gs ((⟨st.N, killE b st.env, (st.bs.map (killB b)).set b (.own sz bt (killL b cs ++ l2.flatten.map .d))⟩ : St).put o.dst (.sl b sz 0 (k + l2.length))))
    (ho : o.op = .call ⟨.builtin .append, #[s, x], #[T, T]⟩ := by rfl) (he : elT P T = some e := by simp only [go_sem] <;> rfl) (hs : szT P e = some sz := by simp only [go_sem] <;> rfl) (hbt : btT P e = some bt := by simp only [go_sem] <;> rfl) (hz : zrT P e = some z := by simp only [go_sem] <;> rfl) (hzl : z.length = sz := by rfl)
    (h1 : evo (lk st.env) s = some (.sl b sz 0 k) := by rfl) (hk : cs.length = k * sz := by first | rfl | (simp; done) | (simp; omega)) (hb : st.bs[b]? = some (.own sz bt cs) := by rfl) (h2 : evo (lk st.env) x = some X := by rfl) (hX : apR st.bs sz bt X = some l2 := by first | rfl | (simp [apR]; done)) (hd : dOk st.N o.dst = true := by rfl) (hbound : (k + l2.length) * bt ≤ 140737488355328) : AOpsG P W0 n ops (o :: rest) (none :: gs) Q st := fun hG => let ⟨hg, hG⟩ := gsl_none hG;
  A_appendO hg ho he hs hbt hz hzl h1 hk hb (fun E M m a w hC => src_rows hC he (hC.box b _ hb).1 h2 hX) hd hbound (run2_ops h hG)
/-- A row of one's own is made, without elements, with room for so many. -/
theorem A_make {T e sz bt c : Nat} {k1 k2 : IntKind} {lo hi : Operand} {z : List Value} (h : run2 P W0 n ops Q rest gs ((⟨st.N, st.env, st.bs ++ [.vec sz bt []]⟩ : St).put o.dst (.sl st.bs.length sz 0 0)))
    (ho : o.op = .makeSlice T lo hi := by rfl) (he : elT P T = some e := by simp only [go_sem] <;> rfl) (hs : szT P e = some sz := by simp only [go_sem] <;> rfl) (hbt : btT P e = some bt := by simp only [go_sem] <;> rfl) (hz : zrT P e = some z := by simp only [go_sem] <;> rfl) (hzl : z.length = sz := by rfl)
    (hlo : evo (lk st.env) lo = some (.d (.v (.int k1 0))) := by rfl) (hhi : evo (lk st.env) hi = some (.d (.v (.int k2 (c : Nat)))) := by rfl) (hsz : 0 < sz := by decide) (hbt0 : 0 < bt := by decide) (hd : dOk st.N o.dst = true := by rfl) (hcb : c * bt ≤ 140737488355328) : AOpsG P W0 n ops (o :: rest) (none :: gs) Q st := by
  intro hG
  obtain ⟨hg, hG⟩ := gsl_none hG
  intro E M m a w hE hC
  refine wpList_plain hg fun K hK => ?_
  have hu := elT_iff he
  unfold btT at hbt
  unfold zrT at hz
  cases hi' : P.info? e with
  | none => simp [hi'] at hbt
  | some it =>
  simp only [hi', Option.map_some, Option.some.injEq] at hbt
  simp only [hi', Option.bind_some, Option.map_eq_some_iff] at hz
  obtain ⟨zv, hzr, hzv⟩ := hz
  have hits : it.size = sz := by simpa [szT, hi'] using hs
  have hzs : zv.cells.size = sz := by rw [← Array.length_toList, hzv]; exact hzl
  have h1 := (evo_sound hC.env hlo).v_inv.1
  have h2 := (evo_sound hC.env hhi).v_inv.1
  have hcle : c ≤ 140737488355328 := Nat.le_trans (Nat.le_mul_of_pos_right c hbt0) hcb
  have hcb' : (it.bytes : Int) * (c : Int) ≤ 281474976710656 := by
    rw [hbt, ← Int.natCast_mul, Nat.mul_comm]
    omega
  have hr := run_make (P := P) w T e it zv hu hi' hzr k1 k2 0 (c : Int) (by omega) (by omega) hcb' (by omega)
  have hx : (execOp a.eval o).run P w = .ok (.value (.slice (some ⟨w.heap.size, 0, none⟩) 0 c)) (w.alloc (.cells (madeCells zv.cells (c * it.size)) e)) := by
    simp only [execOp, ho, h1, h2, Sem.run_bind, hr, Result.andThen_ok, Sem.run_pure]
    rfl
  unfold Oper.wp
  rw [hx]
  have hlen : (madeCells zv.cells (c * it.size)).size = c * sz := by rw [hits]; simp [madeCells]
  refine hK _ _ (run2_ops h hG E _ _ _ _ hE ((hC.alloc (.cells (madeCells zv.cells (c * it.size)) e) (.vec sz bt []) ⟨hsz, hbt0, by simp, .inr ⟨w.heap.size, _, e, by simp [mAdd], heap_alloc_new w _, by simp, fun i row hi => by simp at hi⟩⟩).value (dOk_iff hd) ?_))
  simp only [RA]
  exact .inr ⟨w.heap.size, c, _, e, by simp [mAdd], by simp, Nat.zero_le _, heap_alloc_new w _, by rw [hlen]; simp⟩

/-- A quiet region; its calls. -/
def run3 (P : Program) (W0 : World) (bs : List Box) (ops : Array Oper) (K : List (List (Option AV)) → Prop) : List Oper → List (Option (Option Nat × Bool)) → List (List (Option AV)) → Prop
  | [], gs, env => K env
  | o :: l, [], env => aqg P W0 bs ops K (o :: l) [] env
  | o :: l, g :: gs, env => onSome (stepG P bs env o.op g) (fun x => run3 P W0 bs ops K l gs (putL o.dst x env)) (aqg P W0 bs ops K (o :: l) (g :: gs) env)
@[go_sem] theorem run3_nil (bs : List Box) (ops : Array Oper) (K : List (List (Option AV)) → Prop) (gs : List (Option (Option Nat × Bool))) (env : List (List (Option AV))) : run3 P W0 bs ops K [] gs env = K env := by
  cases gs <;> rfl
@[go_sem] theorem run3_cons (bs : List Box) (ops : Array Oper) (K : List (List (Option AV)) → Prop) (o : Oper) (l : List Oper) (g : Option (Option Nat × Bool)) (gs : List (Option (Option Nat × Bool))) (env : List (List (Option AV))) :
    run3 P W0 bs ops K (o :: l) (g :: gs) env = onSome (stepG P bs env o.op g) (fun x => run3 P W0 bs ops K l gs (putL o.dst x env)) (aqg P W0 bs ops K (o :: l) (g :: gs) env) := (Eq.refl _).trans rfl
theorem run3_aqg {bs : List Box} {ops : Array Oper} {K : List (List (Option AV)) → Prop} : ∀ {l : List Oper} {gs : List (Option (Option Nat × Bool))} {env : List (List (Option AV))}, run3 P W0 bs ops K l gs env → aqg P W0 bs ops K l gs env
  | [], gs, env, h => by
    cases gs <;> exact aqg_nil h
  | o :: l, [], env, h => h
  | o :: l, g :: gs, env, h => by
    simp only [run3] at h
    cases hs : stepG P bs env o.op g with
    | none =>
      rw [hs] at h
      exact h
    | some x =>
      rw [hs] at h
      intro hg
      simp only [gsl, List.map_cons, List.cons.injEq] at hg
      exact ⟨x, stepG_Yl hg.1 hs, run3_aqg h hg.2⟩
attribute [go_sem] stepG_n opW mkOp
theorem wQ {id : Nat} {l : List Oper} {gs : List (Option (Option Nat × Bool))} (h : run3 P W0 st.bs l.toArray (fun env => Q .normal ⟨st.N, env, st.bs⟩) l gs st.env) (hm : P.follows .mixedOrders = true) (hB : Region.lexB .any l.toArray = true) (hg : gsl l.toArray l = gs := by (simp only [gsl, List.take_succ_cons, List.take_zero, List.map_cons, List.map_nil, Option.map_none, Option.map_some, List.getElem?_toArray, List.getElem?_cons_zero, List.getElem?_cons_succ, Option.bind_some] <;> rfl)) (hd : l.all (okO st.N) = true := by rfl) : ACode P W0 n (.region id l.toArray true) Q st := A_quietG hm hB hg hd (run3_aqg h)
variable {bs : List Box} {K : List (List (Option AV)) → Prop} {env : List (List (Option AV))}
theorem wQC {fo : Operand} {args : Array Operand} {ts : Array TypeId} {f : FuncId} {caps xs cargs : List AV} {y : AV} (hr : APure P W0 f cargs (· = .ret y)) (h : run3 P W0 bs ops K rest gs (putL o.dst y env))
    (ho : o.op = .call ⟨.value fo, args, ts⟩ := by rfl) (hf : evo (lk env) fo = some (.fn f caps) := by rfl) (ha : evl (lk env) args.toList = some xs := by rfl) (hx : xs ++ caps = cargs := by rfl) (hc : callable P f = true := by first | assumption | simp only [go_sem])
    (hn : noNames cargs = true := by first | rfl | simp only [go_sem]) (hy : noName y = true := by first | rfl | simp only [go_sem]) : aqg P W0 bs ops K (o :: rest) (none :: gs) env := by
  subst hx
  exact aqg_call hr ho hf ha hc hn hy (run3_aqg h)
/-- With a guard. -/
theorem wQG {fo : Operand} {args : Array Operand} {ts : Array TypeId} {f : FuncId} {xs : List AV} {y : AV} {t : Nat} {want b : Bool} (hr : (if want then b else !b) = true → APure P W0 f xs (· = .ret y)) (h : run3 P W0 bs ops K rest gs (putL o.dst (.opt (if want then b else !b) y) env))
    (hb : lk env t = some (.d (.v (.bool b))) := by rfl) (ho : o.op = .call ⟨.value fo, args, ts⟩ := by rfl)
    (hf : (if want then b else !b) = true → evo (resE (if want then b else !b) (lk env)) fo = some (.fn f []) ∧ evl (resE (if want then b else !b) (lk env)) args.toList = some xs := by (intro hh; simp only [reduceIte, Bool.false_eq_true, Bool.not_eq_true'] at hh; constructor <;> simp only [go_sem, hh]))
    (hc : callable P f = true := by first | assumption | simp only [go_sem]) (hn : noNames xs = true := by first | rfl | simp only [go_sem]) (hy : noName y = true := by first | rfl | simp only [go_sem]) : aqg P W0 bs ops K (o :: rest) (some (some t, want) :: gs) env := aqg_callg0 hr hb ho hf hc hn hy (run3_aqg h)
/-- A guarded call in a region of the text's order. -/
theorem wCG {fo : Operand} {args : Array Operand} {ts : Array TypeId} {f : FuncId} {xs : List AV} {y : AV} {t : Nat} {want b : Bool} (hr : (if want then b else !b) = true → APure P W0 f xs (· = .ret y)) (h : run2 P W0 n ops Q rest gs (st.put o.dst (.opt (if want then b else !b) y)))
    (hb : lk st.env t = some (.d (.v (.bool b))) := by rfl) (ho : o.op = .call ⟨.value fo, args, ts⟩ := by rfl)
    (hf : (if want then b else !b) = true → evo (resE (if want then b else !b) (lk st.env)) fo = some (.fn f []) ∧ evl (resE (if want then b else !b) (lk st.env)) args.toList = some xs := by (intro hh; simp only [reduceIte, Bool.false_eq_true, Bool.not_eq_true'] at hh; constructor <;> simp only [go_sem, hh]))
    (hc : callable P f = true := by first | assumption | simp only [go_sem]) (hd : dOk st.N o.dst = true := by rfl) (hn : noNames xs = true := by first | rfl | simp only [go_sem]) (hy : noName y = true := by first | rfl | simp only [go_sem]) : AOpsG P W0 n ops (o :: rest) (some (some t, want) :: gs) Q st := by
  intro hg
  simp only [gsl, List.map_cons, List.cons.injEq, Option.map_eq_some_iff, Prod.mk.injEq] at hg
  obtain ⟨⟨⟨j, w⟩, h1, h2, h3⟩, h4⟩ := hg
  refine A_qstep hd ?_ (run2_ops h h4)
  unfold Yl
  rw [h1]
  cases h3
  exact ⟨t, _, y, h2, (by rw [hb]; rfl), rfl, fun hh => .call fo args ts f [] xs y ho (hf hh).1 (hf hh).2 hc (by rw [List.append_nil]; exact hn) (by rw [List.append_nil]; exact hr hh) hy⟩

/-- A region whose order is open: its first operations turn nothing. -/
theorem wD {id : Nat} {l : List Oper} (k : Nat) {gs : List (Option (Option Nat × Bool))} (h : run3 P W0 st.bs l.toArray (fun env => TL P W0 n st.N l.toArray (qtf k []) Q (l.length - k) (setN k 0 (Array.replicate l.length false)) st.bs env) (l.take k) gs st.env)
    (hm : P.follows .mixedOrders = true) (hB : drB l k [] = true) (hg : gsl l.toArray (l.take k) = gs := by (simp only [gsl, List.take_succ_cons, List.take_zero, List.map_cons, List.map_nil, Option.map_none, Option.map_some, List.getElem?_toArray, List.getElem?_cons_zero, List.getElem?_cons_succ, Option.bind_some] <;> rfl)) (hd : l.all (okO st.N) = true := by rfl) (hk : k ≤ l.length := by decide) : ACode P W0 n (.region id l.toArray true) Q st := A_drawn k [] hm rfl hB hg hd hk (run3_aqg h)
theorem TL_q {N : Nat} {qt : Nat → Bool} {Q : Ax → St → Prop} {fuel : Nat} {listed : Array Bool} {i : Nat} (hq : qt i = true) (hg : o.guard = none) (h : onSome (stepG P bs env o.op none) (fun x => TL P W0 n N ops qt Q fuel (listed.setIfInBounds i true) bs (putL o.dst x env)) False) :
    if qt i = true then ∃ x, Yl P W0 bs ops (lk env) o x ∧ anyS P W0 n N Q .any ops qt (fun bs e => ∃ env', lk env' = e ∧ Q .normal ⟨N, env', bs⟩) fuel (listed.setIfInBounds i true) bs (upd (lk env) o.dst x)
      else gO P W0 n N Q ops o (fun bs' e' => anyS P W0 n N Q .any ops qt (fun bs e => ∃ env', lk env' = e ∧ Q .normal ⟨N, env', bs⟩) fuel (listed.setIfInBounds i true) bs' e') bs (lk env) := by
  rw [if_pos hq]
  cases hs : stepG P bs env o.op none with
  | none => rw [hs] at h; exact h.elim
  | some x =>
    rw [hs] at h
    refine ⟨x, stepG_Yl (by rw [hg]; rfl) hs, ?_⟩
    rw [← lk_putL]
    exact h
/-- The operation that alone comes next. -/
theorem wD1 {N : Nat} {qt : Nat → Bool} {Q : Ax → St → Prop} {fuel : Nat} {listed : Array Bool} (i : Nat) (h : run2 P W0 n ops (TQ Q N fun st' => TL P W0 n N ops qt Q fuel (listed.setIfInBounds i true) st'.bs st'.env) [o] [none] ⟨N, env, bs⟩)
    (hr : Region.ready .any ops listed = [i]) (ho : ops[i]? = some o := by (simp only [List.getElem?_toArray, List.getElem?_cons_succ, List.getElem?_cons_zero] <;> rfl)) (hq : qt i = false := by rfl) (hg : o.guard = none := by rfl) : TL P W0 n N ops qt Q (fuel + 1) listed bs env := T_one i o hr ho hq hg (run2_ops h (by simp only [gsl, List.map_cons, List.map_nil, hg, Option.map_none]))
theorem wD0 {N : Nat} {qt : Nat → Bool} {Q : Ax → St → Prop} {fuel : Nat} {listed : Array Bool} (h : Q .normal ⟨N, env, bs⟩) (hr : Region.ready .any ops listed = []) : TL P W0 n N ops qt Q fuel listed bs env := T_nil hr h

/-- A state that says no more. -/
theorem wSb {st : St} {N : Nat} {env : List (Nat × AV)} {bs : List Box} (hN : N = st.N := by rfl) (he : eSub st.env env := by repeat (first | exact eSub_nil _ | refine eSub_cons rfl ?_)) (hb : ∃ ex, st.bs = bs ++ ex := by exact ⟨_, rfl⟩) (hl : n ≤ bs.length := by first | exact Nat.zero_le _ | exact Nat.le_refl _ | decide)
    (h1 : envBelow bs.length env = true := by first | rfl | simp only [go_sem]) (h2 : bs.all (boxBelow bs.length) = true := by first | rfl | simp only [go_sem]) : Sb W0 n st ⟨N, ofL env, bs⟩ := Sb.mk hN he hb hl h1 h2
theorem wFz {c : Code} (b : Nat) {sz bt : Nat} {l : List (List D)} (h : ACode P W0 n c Q ⟨st.N, fzE b sz bt l st.env, (st.bs.map (fzB b sz bt l)).set b .dead⟩) (hb : st.bs[b]? = some (.vec sz bt l) := by rfl) (hn : n ≤ b := by first | exact Nat.zero_le _ | decide) : ACode P W0 n c Q st := A_sub _ (Sb.freeze b hb hn) h
theorem wFzO (b : Nat) {sz bt : Nat} {l : List (List D)} (h : AOpsG P W0 n ops rest gs Q ⟨st.N, fzE b sz bt l st.env, (st.bs.map (fzB b sz bt l)).set b .dead⟩) (hb : st.bs[b]? = some (.vec sz bt l) := by rfl) (hn : n ≤ b := by first | exact Nat.zero_le _ | decide) : AOpsG P W0 n ops rest gs Q st := fun hG => O_sub _ (Sb.freeze b hb hn) (h hG)
theorem wOpn {c : Code} (t sz bt : Nat) (h : ACode P W0 n c Q ⟨st.N, putE st.env t (.sl st.bs.length sz 0 0), st.bs ++ [.vec sz bt []]⟩) (ht : lk st.env t = some (.d .e) := by rfl) (hsz : 0 < sz := by decide) (hbt : 0 < bt := by decide) : ACode P W0 n c Q st := A_sub _ (Sb.opn ht hsz hbt) h
theorem wOpnC {c : Code} (b j sz bt : Nat) {cs : List AV} (h : ACode P W0 n c Q ⟨st.N, st.env, st.bs.set b (.var (cs.set j (.sl st.bs.length sz 0 0))) ++ [.vec sz bt []]⟩) (hb : st.bs[b]? = some (.var cs) := by rfl) (hj : cs[j]? = some (.d .e) := by rfl) (hsz : 0 < sz := by decide) (hbt : 0 < bt := by decide) : ACode P W0 n c Q st := A_sub _ (Sb.opnC hb hj hsz hbt) h
/-- A loop of N rounds at most. -/
theorem wL {c : Code} (S : Nat → St) (N : Nat) (inv : Nat → Prop) (h0 : Sb W0 n st (S 0)) (i0 : inv 0) (round : ∀ i, i ≤ N → inv i → ∀ R : St → Prop, (i < N → inv (i + 1) → ∀ st', Sb W0 n st' (S (i + 1)) → R st') → ACode P W0 n c (Thn R Q) (S i)) : ACode P W0 n (.loop c) Q st :=
  A_loop (σ := { i : Nat // i ≤ N ∧ inv i }) (fun s => S s.1) (fun s => N - s.1) ⟨0, Nat.zero_le _, i0⟩ h0 fun s => round s.1 s.2.1 s.2.2 _ fun hlt hinv st' hs => ⟨⟨s.1 + 1, hlt, hinv⟩, by have := s.2.1; simp only; omega, hs⟩
/-- The ends of a function. -/
theorem wRet {rs : List ResultVar} {R : Res → List Box → Prop} {x x' : AV} (hR : R (.ret x') []) (hx : resV P st rs = some x := by first | rfl | simp only [resV, rvs, rv1, go_sem]) (hn : noName x' = true := by first | rfl | simp only [go_sem]) (hle : Le x x' := by exact Le.refl _) : AEnd P W0 0 rs R .ret st := ⟨x, hx, [], x', fin_pure hn hle, hR⟩
theorem wRetN {rs : List ResultVar} {R : Res → List Box → Prop} {x x' : AV} (hR : R (.ret x') []) (hx : resV P st rs = some x := by first | rfl | simp only [resV, rvs, rv1, go_sem]) (hn : noName x' = true := by first | rfl | simp only [go_sem]) (hle : Le x x' := by exact Le.refl _) : AEnd P W0 0 rs R .normal st := ⟨x, hx, [], x', fin_pure hn hle, hR⟩
theorem wPan {rs : List ResultVar} {R : Res → List Box → Prop} {x : AV} (hR : R (.panic x) []) (hn : noName x = true := by first | rfl | simp only [go_sem]) : AEnd P W0 0 rs R (.panic x) st := ⟨[], x, fin_pure hn (Le.refl _), hR⟩
theorem wRq {rs : List ResultVar} {x y : AV} (hx : resV P st rs = some x := by first | rfl | simp only [resV, rvs, rv1, go_sem]) (hn : noName x = true := by first | rfl | simp only [go_sem]) (he : x = y := by rfl) : AEnd P W0 0 rs (fun r L' => r = .ret y ∧ L' = []) .ret st := by
  subst he
  exact wRet ⟨rfl, rfl⟩ hx hn
theorem wNq {rs : List ResultVar} {x y : AV} (hx : resV P st rs = some x := by first | rfl | simp only [resV, rvs, rv1, go_sem]) (hn : noName x = true := by first | rfl | simp only [go_sem]) (he : x = y := by rfl) : AEnd P W0 0 rs (fun r L' => r = .ret y ∧ L' = []) .normal st := by
  subst he
  exact wRetN ⟨rfl, rfl⟩ hx hn
/-- Boxes that were handed stay, with what they hold. -/
theorem wRetB {rs : List ResultVar} {R : Res → List Box → Prop} {x x' : AV} (L' : List Box) (hR : R (.ret x') L') (hx : resV P st rs = some x := by first | rfl | simp only [resV, rvs, rv1, go_sem]) (hb : ∃ ex, st.bs = L' ++ ex := by exact ⟨_, rfl⟩) (hl : n ≤ L'.length := by exact Nat.le_of_ble_eq_true rfl) (h1 : x'.names (fun b => decide (b < L'.length)) = true := by first | rfl | simp only [go_sem]) (h2 : L'.all (boxBelow L'.length) = true := by first | rfl | simp only [go_sem]) (hle : Le x x' := by exact Le.refl _) : AEnd P W0 n rs R .ret st := ⟨x, hx, L', x', fin_mk hb hl h1 h2 hle, hR⟩
theorem wRetBN {rs : List ResultVar} {R : Res → List Box → Prop} {x x' : AV} (L' : List Box) (hR : R (.ret x') L') (hx : resV P st rs = some x := by first | rfl | simp only [resV, rvs, rv1, go_sem]) (hb : ∃ ex, st.bs = L' ++ ex := by exact ⟨_, rfl⟩) (hl : n ≤ L'.length := by exact Nat.le_of_ble_eq_true rfl) (h1 : x'.names (fun b => decide (b < L'.length)) = true := by first | rfl | simp only [go_sem]) (h2 : L'.all (boxBelow L'.length) = true := by first | rfl | simp only [go_sem]) (hle : Le x x' := by exact Le.refl _) : AEnd P W0 n rs R .normal st := ⟨x, hx, L', x', fin_mk hb hl h1 h2 hle, hR⟩
theorem wPanB {rs : List ResultVar} {R : Res → List Box → Prop} {x : AV} (L' : List Box) (hR : R (.panic x) L') (hb : ∃ ex, st.bs = L' ++ ex := by exact ⟨_, rfl⟩) (hl : n ≤ L'.length := by exact Nat.le_of_ble_eq_true rfl) (h1 : x.names (fun b => decide (b < L'.length)) = true := by first | rfl | simp only [go_sem]) (h2 : L'.all (boxBelow L'.length) = true := by first | rfl | simp only [go_sem]) : AEnd P W0 n rs R (.panic x) st := ⟨L', x, fin_mk hb hl h1 h2 (Le.refl _), hR⟩
end

/-- A function that leaves what was there, and answers a plain value. -/
theorem pure_old {P : Program} {W0 : World} {f : FuncId} {args : List AV} {v : Value} (hv : v.oneCell' = true) (h : ∀ (M : Nat → Prop) (m : Nat → Pl) (w : World) (us : Array Value), Fr (fun _ => False) W0 w → RAs M m w args us.toList → Calls P f us w fun e w' => e = .returned v ∧ Below w.heap.size w w') : APure P W0 f args (· = .ret (.d (.v v))) := by
  intro M m w us hc ha
  refine (h M m w us hc.base ha).mono ?_
  rintro e w' ⟨rfl, hb⟩
  have hf : Fr (fun _ => False) w w' := Fr.below hb
  refine ⟨.ret (.d (.v v)), [], M, m, ⟨rfl, rfl⟩, RA.v_mk (m := m) hv, ?_⟩
  exact hc.chg hf (hc.base.trans hf) (fun _ h => h) (fun _ h => .inl h) (fun k hk => Nat.lt_of_lt_of_le (hc.mLt k hk) hf.size)
theorem us1 {M : Nat → Prop} {m : Nat → Pl} {w : World} {x : Value} {us : Array Value} (h : RAs M m w [.d (.v x)] us.toList) : us = #[x] := by
  have hl := h.length
  obtain ⟨l⟩ := us
  match l, hl with
  | [u], _ =>
    simp only [RAs, and_true] at h
    rw [h.v_inv.1]

/-- Lists that are the same, element by element. -/
def eqL {α : Type} (p : α → α → Bool) : List α → List α → Bool
  | [], [] => true
  | x :: l, y :: l' => p x y && eqL p l l'
  | _, _ => false
theorem eqL_len {α : Type} (p : α → α → Bool) : ∀ (l l' : List α), l.length ≠ l'.length → eqL p l l' = false
  | [], [], h => absurd rfl h
  | [], _ :: _, _ => rfl
  | _ :: _, [], _ => rfl
  | a :: l, b :: l', h => by rw [eqL, eqL_len p l l' (by simpa using h), Bool.and_false]
theorem eqL_take {α : Type} (p : α → α → Bool) : ∀ (l l' : List α) (k : Nat) (a b : α), l[k]? = some a → l'[k]? = some b → eqL p (l.take k) (l'.take k) = true → eqL p (l.take (k + 1)) (l'.take (k + 1)) = p a b ∧ (p a b = false → eqL p l l' = false)
  | a :: l, b :: l', 0, _, _, rfl, rfl, _ => ⟨by simp [eqL], fun h => by simp [eqL, h]⟩
  | a :: l, b :: l', k + 1, x, y, hx, hy, h => by
    simp only [List.take_succ_cons, eqL, Bool.and_eq_true] at h
    have h2 := eqL_take p l l' k x y (by simpa using hx) (by simpa using hy) h.2
    refine ⟨by simp only [List.take_succ_cons, eqL]; rw [h.1, h2.1, Bool.true_and], fun h3 => by rw [eqL, h2.2 h3, Bool.and_false]⟩
  | [], _, k, _, _, hx, _, _ => by simp at hx
  | _ :: _, [], k, _, _, _, hy, _ => by simp at hy
theorem A_lp {P : Program} {W0 : World} {n : Nat} {σ : Type} {Q : Ax → St → Prop} {st : St} {c : Code} (S : σ → St) (μ : σ → Nat) (s0 : σ) (h0 : Sb W0 n st (S s0))
    (round : ∀ s (R : St → Prop), (∀ st', (∃ s', μ s' < μ s ∧ Sb W0 n st' (S s')) → R st') → ACode P W0 n c (Thn R Q) (S s)) : ACode P W0 n (.loop c) Q st :=
  A_loop S μ s0 h0 fun s => round s _ fun _ h => h
end Go.Proofs.YtfbegbpipmgfiaaDoor.Lift
end
section
/- The lift: drawn regions of which any operations that turn nothing come first; maps that are filled in any order. No conditions: words and their laws. -/
set_option linter.unusedVariables false
set_option linter.unusedSimpArgs false
set_option linter.unusedSectionVars false
set_option linter.unnecessarySimpa false
namespace Go.Proofs.YtfbegbpipmgfiaaDoor.Lift
open Go Go.RowKit

def qtI (is qs : List Nat) (i : Nat) : Bool := is.contains i || qs.contains i
def chkI (md : Region.Mode) (l : List Oper) (qt : Nat → Bool) (i : Nat) : Bool := (List.range l.length).all fun j => qt j || !(grS md i l []).getD j false
theorem chkI_spec {md : Region.Mode} {l : List Oper} {qt : Nat → Bool} {i : Nat} (hb : backF md l 0 = true) (hq : qt i = true) (hc : chkI md l qt i = true) {listed : Array Bool} (hs : listed.size = l.length) (hdc : DC md l.toArray listed) (hi : listed.getD i false = false) : ∀ j ∈ Region.ready md l.toArray listed, qt j = true := by
  intro j hj
  obtain ⟨h0, o, ho, hall⟩ := mem_ready.1 hj
  have ho' : l[j]? = some o := by simpa using ho
  have hlt : j < l.length := (List.getElem?_eq_some_iff.1 ho').1
  have h1 := List.all_eq_true.1 hc j (List.mem_range.2 hlt)
  rw [Bool.or_eq_true] at h1
  by_cases hj' : qt j = true
  · exact hj'
  exfalso
  have h2 := h1.resolve_left hj'
  have h3 := grS_at (md := md) (i := i) l [] j o hb ho'
  simp only [List.length_nil, Nat.zero_add] at h3
  rw [h3] at h2
  have h4 : (o.after.all fun e => !Region.binds md e || (grS md i l []).getD e.on false) = true := Array.all_eq_true_iff_forall_mem.2 fun e he => by
    cases hbd : Region.binds md e
    · rfl
    · rw [grS_all hb hs hdc hi e.on (hall e he hbd)]
      rfl
  rw [h4, Bool.and_true] at h2
  simp only [Bool.not_eq_true', bne_eq_false_iff_eq] at h2
  subst h2
  exact hj' hq
def drI (md : Region.Mode) (l : List Oper) (qt : Nat → Bool) : List Nat → Array Bool → Bool
  | [], _ => true
  | i :: is, listed => (Region.ready md l.toArray listed).contains i && Region.free md l.toArray listed i && qt i && chkI md l qt i && drI md l qt is (listed.setIfInBounds i true)
def setI : List Nat → Array Bool → Array Bool
  | [], L => L
  | i :: is, L => setI is (L.setIfInBounds i true)
def pickI : List Nat → List Oper → List Oper
  | [], _ => []
  | i :: is, l => match l[i]? with | some o => o :: pickI is l | none => []

section
variable {P : Program} {W0 : World} {n : Nat} {X : Ax → St → Prop}
theorem anyS_lexI {N : Nat} {md : Region.Mode} {l : List Oper} {qt : Nat → Bool} {Q : List Box → (Nat → Option AV) → Prop} {bs : List Box} {fuel : Nat} (hb : backF md l 0 = true) : ∀ (is : List Nat) (listed : Array Bool) (env : List (List (Option AV))), listed.size = l.length → DC md l.toArray listed →
    drI md l qt is listed = true → aqs P W0 bs l.toArray (fun env => anyS P W0 n N X md l.toArray qt Q fuel (setI is listed) bs (lk env)) (pickI is l) env → anyS P W0 n N X md l.toArray qt Q (is.length + fuel) listed bs (lk env)
  | [], listed, env, _, _, _, h => by
    simp only [List.length_nil, Nat.zero_add]
    exact h
  | i :: is, listed, env, hs, hdc, hB, h => by
    simp only [drI, Bool.and_eq_true] at hB
    obtain ⟨⟨⟨⟨hr, hf⟩, hqi⟩, hc⟩, hB'⟩ := hB
    have hmem : i ∈ Region.ready md l.toArray listed := by simpa using hr
    obtain ⟨_, o, h0, _⟩ := mem_ready.1 hmem
    have h0' : l[i]? = some o := by simpa using h0
    simp only [pickI, h0'] at h
    obtain ⟨x, hy, hkk⟩ := h
    have := anyS_first (P := P) (W0 := W0) (n := n) (X := X) (N := N) (Q := Q) (bs := bs) h0 hqi (fun listed hs hdc hun => chkI_spec hb hqi hc (by simpa using hs) hdc hun) (is.length + fuel) listed (lk env) (by simpa using hs) hdc (Region.free_spec h0 hf) hmem hy ?_
    · simp only [List.length_cons]
      rw [show is.length + 1 + fuel = is.length + fuel + 1 by omega]
      exact this
    rw [← lk_putL]
    exact anyS_lexI hb is _ _ (by simpa using hs) (hdc.set hmem) hB' hkk
theorem A_drawnI {Q : Ax → St → Prop} {st : St} {id : Nat} {l l1 : List Oper} {gs : List (Option (Option Nat × Bool))} (is qs : List Nat) (hm : P.follows .mixedOrders = true) (h1 : pickI is l = l1) (hB : (backF .any l 0 && drI .any l (qtI is qs) is (Array.replicate l.length false)) = true) (hg : gsl l.toArray l1 = gs) (hd : l.all (okO st.N) = true) (hk : is.length ≤ l.length)
    (h : aqg P W0 st.bs l.toArray (fun env => TL P W0 n st.N l.toArray (qtI is qs) Q (l.length - is.length) (setI is (Array.replicate l.length false)) st.bs env) l1 gs st.env) : ACode P W0 n (.region id l.toArray true) Q st := by
  intro E M m a w hn hC
  have hd' : ∀ (i : Nat) (o : Oper), l.toArray[i]? = some o → dOk st.N o.dst = true := fun i o ho => okO_d (List.all_eq_true.1 hd o (List.mem_of_getElem? (by simpa using ho)))
  simp only [Bool.and_eq_true] at hB
  subst h1
  refine wpR_region_any LQ_in (okO_n hd) hm (wpAny_ofS (P := P) (W0 := W0) (n := n) (X := Q) (qt := qtI is qs) (Q := fun bs e => ∃ env', lk env' = e ∧ Q .normal ⟨st.N, env', bs⟩) hn hd' (fun _ _ _ _ h => h) (fun M m bs e a w hc ⟨env', he, hq⟩ => ⟨M, m, ⟨st.N, env', bs⟩, .normal, CE.to (by rw [he]; exact hc), hq, trivial⟩) _ _ M m st.bs (lk st.env) a _ (CE.of hC.drew) ?_)
  have := anyS_lexI (P := P) (W0 := W0) (n := n) (X := Q) (N := st.N) (md := .any) (l := l) (qt := qtI is qs) (bs := st.bs) (fuel := l.length - is.length) (Q := fun bs e => ∃ env', lk env' = e ∧ Q .normal ⟨st.N, env', bs⟩) hB.1 is (Array.replicate l.length false) st.env (by simp) (fun j o _ hj => by simp [Array.getD_eq_getD_getElem?, Array.getElem?_replicate] at hj; split at hj <;> simp at hj) hB.2 (h hg)
  simpa [show is.length + (l.length - is.length) = l.length by omega] using this
theorem wDI {Q : Ax → St → Prop} {st : St} {id : Nat} {l : List Oper} (is qs : List Nat) {gs : List (Option (Option Nat × Bool))} (h : run3 P W0 st.bs l.toArray (fun env => TL P W0 n st.N l.toArray (qtI is qs) Q (l.length - is.length) (setI is (Array.replicate l.length false)) st.bs env) (pickI is l) gs st.env)
    (hm : P.follows .mixedOrders = true) (hB : (backF .any l 0 && drI .any l (qtI is qs) is (Array.replicate l.length false)) = true) (hg : gsl l.toArray (pickI is l) = gs := by (simp only [pickI, gsl, List.map_cons, List.map_nil, Option.map_none, Option.map_some, List.getElem?_toArray, List.getElem?_cons_zero, List.getElem?_cons_succ, Option.bind_some] <;> rfl)) (hd : l.all (okO st.N) = true := by rfl) (hk : is.length ≤ l.length := by decide) : ACode P W0 n (.region id l.toArray true) Q st := A_drawnI is qs hm rfl hB hg hd hk (run3_aqg h)
attribute [go_sem] pickI
end
end Go.Proofs.YtfbegbpipmgfiaaDoor.Lift
end
section
/- The lift: a map's literal, its keys built and its entries put in any order. No conditions: words and their laws. -/
set_option linter.unusedVariables false
set_option linter.unusedSimpArgs false
set_option linter.unusedSectionVars false
set_option linter.unnecessarySimpa false
namespace Go.Proofs.YtfbegbpipmgfiaaDoor.Lift
open Go Go.RowKit

/-- An entry: where its key is built, where it is put in, the key's temporary, the key as it is there and as a value, the element. -/
structure FE where
  b : Nat
  i : Nat
  t : Nat
  a : AV
  k : Value
  v : Value
section
variable {P : Program} {W0 : World} {n : Nat}
/-- Not listed yet. -/
def Pend (i0 : Nat) (fill : List FE) (m : Bool) (v : List Nat) (j : Nat) : Prop := (m = false ∧ j = i0) ∨ ∃ (p : Nat) (x : FE), fill[p]? = some x ∧ ((v[p]? = some 0 ∧ (j = x.b ∨ j = x.i)) ∨ (v[p]? = some 1 ∧ j = x.i))
/-- What is listed: whatever is in the end, but what is not yet. -/
def LI (L listed : Array Bool) (i0 : Nat) (fill : List FE) (m : Bool) (v : List Nat) : Prop := listed.size = L.size ∧ ∀ j, (Pend i0 fill m v j → listed.getD j true = false) ∧ (¬ Pend i0 fill m v j → listed.getD j true = L.getD j true)
theorem LI.set {L listed : Array Bool} {i0 i : Nat} {fill : List FE} {m m' : Bool} {v v' : List Nat} (h : LI L listed i0 fill m v) (hi : L.getD i false = true) (hpe : ∀ j, Pend i0 fill m' v' j ↔ Pend i0 fill m v j ∧ j ≠ i) : LI L (listed.setIfInBounds i true) i0 fill m' v' := by
  have hil : i < L.size := by
    rcases Nat.lt_or_ge i L.size with h1 | h1
    · exact h1
    · rw [Array.getD_eq_getD_getElem?, Array.getElem?_eq_none h1] at hi
      cases hi
  refine ⟨by simpa using h.1, fun j => ?_⟩
  have hj := h.2 j
  have hp := hpe j
  by_cases e : i = j
  · subst e
    have hg : (listed.setIfInBounds i true).getD i true = true := by
      rw [Array.getD_eq_getD_getElem?, Array.getElem?_setIfInBounds_self_of_lt (by rw [h.1]; exact hil)]
      rfl
    have hL : L.getD i true = true := by
      rw [Array.getD_eq_getD_getElem?, Array.getElem?_eq_getElem hil] at hi ⊢
      exact hi
    exact ⟨fun hh => ((hp.1 hh).2 rfl).elim, fun _ => hg.trans hL.symm⟩
  · have hg : (listed.setIfInBounds i true).getD j true = listed.getD j true := by
      rw [Array.getD_eq_getD_getElem?, Array.getD_eq_getD_getElem?, Array.getElem?_setIfInBounds_ne e]
    rw [hg]
    exact ⟨fun hh => hj.1 (hp.1 hh).1, fun hh => hj.2 fun hq => hh (hp.2 ⟨hq, Ne.symm e⟩)⟩
theorem LI.done {L listed : Array Bool} {i0 : Nat} {fill : List FE} {v : List Nat} (h : LI L listed i0 fill true v) (hv : ∀ s ∈ v, s = 2) : listed = L := by
  have hno : ∀ j, ¬ Pend i0 fill true v j := by
    rintro j (⟨hh, _⟩ | ⟨p, x, _, ⟨h0, _⟩ | ⟨h1, _⟩⟩)
    · cases hh
    · have := hv 0 (List.mem_of_getElem? h0); omega
    · have := hv 1 (List.mem_of_getElem? h1); omega
  refine Array.ext h.1 fun j h1 h2 => ?_
  have := (h.2 j).2 (hno j)
  rwa [Array.getD_eq_getD_getElem?, Array.getD_eq_getD_getElem?, Array.getElem?_eq_getElem h1, Array.getElem?_eq_getElem h2] at this
end
end Go.Proofs.YtfbegbpipmgfiaaDoor.Lift
end
section
/- The lift: calls under guards that are themselves guarded. No conditions: words and their laws. -/
set_option linter.unusedVariables false
set_option linter.unusedSimpArgs false
set_option maxHeartbeats 4000000
set_option maxRecDepth 100000
namespace Go.Proofs.YtfbegbpipmgfiaaDoor.Lift
open Go Go.RowKit

section
variable {P : Program} {W0 : World} {n : Nat} {Q : Ax → St → Prop} {st : St} {ops : Array Oper} {o : Oper} {rest : List Oper} {gs : List (Option (Option Nat × Bool))}
theorem wCGx {fo : Operand} {args : Array Operand} {ts : Array TypeId} {f : FuncId} {xs : List AV} {y : AV} {t : Nat} {want G : Bool} (hr : G = true → APure P W0 f xs (· = .ret y)) (h : run2 P W0 n ops Q rest gs (st.put o.dst (.opt G y)))
    (hb : gdV want (lk st.env t) = some G := by first | rfl | simp only [go_sem]) (ho : o.op = .call ⟨.value fo, args, ts⟩ := by rfl)
    (hf : G = true → evo (resE G (lk st.env)) fo = some (.fn f []) ∧ evl (resE G (lk st.env)) args.toList = some xs := by (intro hh; first | (cases hh; done) | (constructor <;> simp only [go_sem, hh]) | (cases hh; constructor <;> simp only [go_sem])))
    (hc : callable P f = true := by first | assumption | simp only [go_sem]) (hd : dOk st.N o.dst = true := by rfl) (hn : noNames xs = true := by first | rfl | simp only [go_sem]) (hy : noName y = true := by first | rfl | simp only [go_sem]) : AOpsG P W0 n ops (o :: rest) (some (some t, want) :: gs) Q st := by
  intro hg
  simp only [gsl, List.map_cons, List.cons.injEq, Option.map_eq_some_iff, Prod.mk.injEq] at hg
  obtain ⟨⟨⟨j, w⟩, h1, h2, h3⟩, h4⟩ := hg
  refine A_qstep hd ?_ (run2_ops h h4)
  unfold Yl
  rw [h1]
  cases h3
  exact ⟨t, G, y, h2, hb, rfl, fun hh => .call fo args ts f [] xs y ho (hf hh).1 (hf hh).2 hc (by rw [List.append_nil]; exact hn) (by rw [List.append_nil]; exact hr hh) hy⟩
/-- A call whose guard does not hold. -/
theorem wCGn {t : Nat} {want : Bool} (y : AV) (h : run2 P W0 n ops Q rest gs (st.put o.dst (.opt false y)))
    (hb : gdV want (lk st.env t) = some false := by first | rfl | simp only [go_sem]) (hd : dOk st.N o.dst = true := by rfl) : AOpsG P W0 n ops (o :: rest) (some (some t, want) :: gs) Q st := by
  intro hg
  simp only [gsl, List.map_cons, List.cons.injEq, Option.map_eq_some_iff, Prod.mk.injEq] at hg
  obtain ⟨⟨⟨j, w⟩, h1, h2, h3⟩, h4⟩ := hg
  refine A_qstep hd ?_ (run2_ops h h4)
  unfold Yl
  rw [h1]
  cases h3
  exact ⟨t, false, y, h2, hb, rfl, fun hh => by cases hh⟩
variable {bs : List Box} {K : List (List (Option AV)) → Prop} {env : List (List (Option AV))}
/-- The same in a quiet region. -/
theorem wQGx {fo : Operand} {args : Array Operand} {ts : Array TypeId} {f : FuncId} {xs : List AV} {y : AV} {t : Nat} {want G : Bool} (hr : G = true → APure P W0 f xs (· = .ret y)) (h : run3 P W0 bs ops K rest gs (putL o.dst (.opt G y) env))
    (hb : gdV want (lk env t) = some G := by first | rfl | simp only [go_sem]) (ho : o.op = .call ⟨.value fo, args, ts⟩ := by rfl)
    (hf : G = true → evo (resE G (lk env)) fo = some (.fn f []) ∧ evl (resE G (lk env)) args.toList = some xs := by (intro hh; first | (cases hh; done) | (constructor <;> simp only [go_sem, hh]) | (cases hh; constructor <;> simp only [go_sem])))
    (hc : callable P f = true := by first | assumption | simp only [go_sem]) (hn : noNames xs = true := by first | rfl | simp only [go_sem]) (hy : noName y = true := by first | rfl | simp only [go_sem]) : aqg P W0 bs ops K (o :: rest) (some (some t, want) :: gs) env := by
  intro hg
  simp only [gsl, List.map_cons, List.cons.injEq, Option.map_eq_some_iff, Prod.mk.injEq] at hg
  obtain ⟨⟨⟨j, w⟩, h1, h2, h3⟩, h4⟩ := hg
  refine ⟨_, ?_, run3_aqg h h4⟩
  unfold Yl
  rw [h1]
  cases h3
  exact ⟨t, G, y, h2, hb, rfl, fun hh => .call fo args ts f [] xs y ho (hf hh).1 (hf hh).2 hc (by rw [List.append_nil]; exact hn) (by rw [List.append_nil]; exact hr hh) hy⟩
theorem wQGn {t : Nat} {want : Bool} (y : AV) (h : run3 P W0 bs ops K rest gs (putL o.dst (.opt false y) env)) (hb : gdV want (lk env t) = some false := by first | rfl | simp only [go_sem]) : aqg P W0 bs ops K (o :: rest) (some (some t, want) :: gs) env := by
  intro hg
  simp only [gsl, List.map_cons, List.cons.injEq, Option.map_eq_some_iff, Prod.mk.injEq] at hg
  obtain ⟨⟨⟨j, w⟩, h1, h2, h3⟩, h4⟩ := hg
  refine ⟨_, ?_, run3_aqg h h4⟩
  unfold Yl
  rw [h1]
  cases h3
  exact ⟨t, false, y, h2, hb, rfl, fun hh => by cases hh⟩
end

section
variable {P : Program} {W0 : World} {n : Nat} {ops : Array Oper} {bs : List Box} {env : List (List (Option AV))} {N : Nat} {qt : Nat → Bool} {Q : Ax → St → Prop} {fuel : Nat} {listed : Array Bool}
/-- An operation of a region whose order is open comes next. -/
def StT (P : Program) (W0 : World) (n N : Nat) (ops : Array Oper) (qt : Nat → Bool) (Q : Ax → St → Prop) (fuel : Nat) (listed : Array Bool) (bs : List Box) (env : List (List (Option AV))) (i : Nat) : Prop :=
  ∃ o, ops[i]? = some o ∧ if qt i = true then ∃ x, Yl P W0 bs ops (lk env) o x ∧ anyS P W0 n N Q .any ops qt (fun bs e => ∃ env', lk env' = e ∧ Q .normal ⟨N, env', bs⟩) fuel (listed.setIfInBounds i true) bs (upd (lk env) o.dst x)
      else gO P W0 n N Q ops o (fun bs' e' => anyS P W0 n N Q .any ops qt (fun bs e => ∃ env', lk env' = e ∧ Q .normal ⟨N, env', bs⟩) fuel (listed.setIfInBounds i true) bs' e') bs (lk env)
theorem wDn (is : List Nat) (hn : is ≠ []) (hr : Region.ready .any ops listed = is) (h : ∀ i ∈ is, StT P W0 n N ops qt Q fuel listed bs env i) : TL P W0 n N ops qt Q (fuel + 1) listed bs env :=
  ⟨fun h0 => absurd (hr.symm.trans h0) hn, fun i hi => h i (by rw [← hr]; exact hi)⟩
theorem wDa (i : Nat) (h : StT P W0 n N ops qt Q fuel listed bs env i) (hr : Region.ready .any ops listed = [i]) : TL P W0 n N ops qt Q (fuel + 1) listed bs env :=
  wDn [i] (by simp) hr fun k hk => by rw [List.mem_singleton] at hk; rw [hk]; exact h
theorem wDb (i j : Nat) (h : StT P W0 n N ops qt Q fuel listed bs env i) (h' : StT P W0 n N ops qt Q fuel listed bs env j) (hr : Region.ready .any ops listed = [i, j]) : TL P W0 n N ops qt Q (fuel + 1) listed bs env :=
  wDn [i, j] (by simp) hr fun k hk => by simp only [List.mem_cons, List.not_mem_nil, or_false] at hk; rcases hk with rfl | rfl <;> assumption
theorem wDc (i j k : Nat) (h : StT P W0 n N ops qt Q fuel listed bs env i) (h' : StT P W0 n N ops qt Q fuel listed bs env j) (h'' : StT P W0 n N ops qt Q fuel listed bs env k) (hr : Region.ready .any ops listed = [i, j, k]) : TL P W0 n N ops qt Q (fuel + 1) listed bs env :=
  wDn [i, j, k] (by simp) hr fun k hk => by simp only [List.mem_cons, List.not_mem_nil, or_false] at hk; rcases hk with rfl | rfl | rfl <;> assumption
theorem sQ {i : Nat} {o : Oper} (h : onSome (stepG P bs env o.op none) (fun x => TL P W0 n N ops qt Q fuel (listed.setIfInBounds i true) bs (putL o.dst x env)) False)
    (ho : ops[i]? = some o := by (simp only [List.getElem?_toArray, List.getElem?_cons_succ, List.getElem?_cons_zero] <;> rfl)) (hq : qt i = true := by rfl) (hg : o.guard = none := by rfl) : StT P W0 n N ops qt Q fuel listed bs env i := ⟨o, ho, TL_q hq hg h⟩
theorem sT {i : Nat} {o : Oper} (h : run2 P W0 n ops (TQ Q N fun st' => TL P W0 n N ops qt Q fuel (listed.setIfInBounds i true) st'.bs st'.env) [o] [none] ⟨N, env, bs⟩)
    (ho : ops[i]? = some o := by (simp only [List.getElem?_toArray, List.getElem?_cons_succ, List.getElem?_cons_zero] <;> rfl)) (hq : qt i = false := by rfl) (hg : o.guard = none := by rfl) : StT P W0 n N ops qt Q fuel listed bs env i := by
  refine ⟨o, ho, ?_⟩
  rw [if_neg (by rw [hq]; simp)]
  exact gO_of hg (run2_ops h (by simp only [gsl, List.map_cons, List.map_nil, hg, Option.map_none]))
end
end Go.Proofs.YtfbegbpipmgfiaaDoor.Lift
end
section
/- The lift: a loop over a function: what another block's turn leaves as it was; calls of yield; no conditions: words and their laws. -/
set_option linter.unusedVariables false
set_option linter.unusedSimpArgs false
namespace Go.Proofs.YtfbegbpipmgfiaaDoor.Lift
open Go Go.RowKit

mutual
def noYd : AV → Bool
  | .yd .. => false
  | .fn _ l | .agg l | .tup l => noYds l
  | .opt _ x => noYd x
  | _ => true
def noYds : List AV → Bool
  | [] => true
  | x :: l => noYd x && noYds l
end
attribute [go_sem] noYd noYds
theorem cell_nc {w : World} {k : Nat} {o' : Obj} {a : Addr} {v : Value} (hk : ∃ o, w.heap[k]? = some o ∧ o.isCells = false) (h : w.cell? a = some v) : (w.putObj k o').cell? a = some v := cell_kept h (grownBy_putObj' w k o') fun r e => by cases e; exact hk
theorem RD.nc {M : Nat → Prop} {w : World} {k : Nat} {o' : Obj} (hk : ∃ o, w.heap[k]? = some o ∧ o.isCells = false) {d : D} {u : Value} (h : RD M w d u) : RD M (w.putObj k o') d u := by
  induction h with
  | v x h => exact .v x h
  | e A => exact .e A
  | any u h => exact .any u h
  | rows sz bt l A c U hbt hb hc hA hU ih =>
    refine .rows sz bt l A c U hbt hb hc (fun i row hi => ?_) ih
    obtain ⟨h1, g, o, h2, h3⟩ := hA i row hi
    exact ⟨h1, g, o, h2, fun j hj => ⟨(h3 j hj).1, cell_nc hk (h3 j hj).2⟩⟩
theorem PD.nc {M : Nat → Prop} {w : World} {k : Nat} {o' : Obj} (hk : ∃ o, w.heap[k]? = some o ∧ o.isCells = false) {g o : Nat} {ds : List D} (h : PD M w g o ds) : PD M (w.putObj k o') g o ds := fun j d hd =>
  let ⟨u, h1, h2, h3⟩ := h j d hd
  ⟨u, h1, cell_nc hk h2, h3.nc hk⟩
theorem heap_nc {w : World} {k i : Nat} {o o' : Obj} (hk : ∃ o, w.heap[k]? = some o ∧ o.isCells = false) (hi : w.heap[i]? = some o) (hc : o.isCells = true) : (w.putObj k o').heap[i]? = some o := by
  rw [World.putObj_heap_other, hi]
  rintro rfl
  obtain ⟨o2, h1, h2⟩ := hk
  rw [hi] at h1
  cases h1
  rw [hc] at h2
  cases h2
mutual
theorem RA.nc {M : Nat → Prop} {m : Nat → Pl} {w : World} {k : Nat} {o' : Obj} (hk : ∃ o, w.heap[k]? = some o ∧ o.isCells = false) : ∀ (x : AV) (u : Value), noYd x = true → RA M m w x u → RA M m (w.putObj k o') x u
  | .d x, u, _, h => by
    simp only [RA] at h ⊢
    exact h.nc hk
  | .dp ds, u, _, h => by
    simp only [RA] at h ⊢
    obtain ⟨g, o, h1, h2⟩ := h
    exact ⟨g, o, h1, h2.nc hk⟩
  | .ptr b j, u, _, h => by simpa only [RA] using h
  | .ep b sz i j, u, _, h => by simpa only [RA] using h
  | .sl b sz lo n, u, _, h => by
    simp only [RA] at h ⊢
    rcases h with h | ⟨q, cap, C, T, h1, h2, h3, h4, h5⟩
    · exact .inl h
    · exact .inr ⟨q, cap, C, T, h1, h2, h3, heap_nc hk h4 rfl, h5⟩
  | .fn f l, u, hy, h => by
    simp only [RA] at h ⊢
    obtain ⟨us, h1, h2⟩ := h
    exact ⟨us, h1, RAs.nc hk _ _ (by simpa only [noYd] using hy) h2⟩
  | .yd r ts l, u, hy, h => by simp only [noYd, Bool.false_eq_true] at hy
  | .agg l, u, hy, h => by
    simp only [RA] at h ⊢
    obtain ⟨us, h1, h2⟩ := h
    exact ⟨us, h1, RAs.nc hk _ _ (by simpa only [noYd] using hy) h2⟩
  | .tup l, u, hy, h => by
    simp only [RA] at h ⊢
    obtain ⟨us, h1, h2⟩ := h
    exact ⟨us, h1, RAs.nc hk _ _ (by simpa only [noYd] using hy) h2⟩
  | .opt g x, u, hy, h => by
    simp only [RA] at h ⊢
    exact ⟨fun hg => RA.nc hk x u (by simpa only [noYd] using hy) (h.1 hg), h.2⟩
  | .mref b, u, _, h => by simpa only [RA] using h
  | .junk, u, _, h => by simp only [RA]
theorem RAs.nc {M : Nat → Prop} {m : Nat → Pl} {w : World} {k : Nat} {o' : Obj} (hk : ∃ o, w.heap[k]? = some o ∧ o.isCells = false) : ∀ (l : List AV) (us : List Value), noYds l = true → RAs M m w l us → RAs M m (w.putObj k o') l us
  | [], [], _, h => by simp only [RAs]
  | x :: l, u :: us, hy, h => by
    simp only [RAs, noYds, Bool.and_eq_true] at h hy ⊢
    exact ⟨RA.nc hk x u hy.1 h.1, RAs.nc hk l us hy.2 h.2⟩
  | [], _ :: _, _, h => by simp only [RAs] at h
  | _ :: _, [], _, h => by simp only [RAs] at h
end
def boxNY : Box → Bool
  | .var cs | .own _ _ cs => noYds cs
  | _ => true
attribute [go_sem] boxNY
theorem BoxR.nc {M : Nat → Prop} {m : Nat → Pl} {w : World} {k b : Nat} {o' : Obj} {x : Box} (hk : ∃ o, w.heap[k]? = some o ∧ o.isCells = false) (hm : m b ≠ .at_ k) (hy : boxNY x = true) (h : BoxR M m w b x) : BoxR M m (w.putObj k o') b x := by
  cases x with
  | dead => trivial
  | var cs =>
    obtain ⟨q, C, T, h1, h2, h3⟩ := h
    exact ⟨q, C, T, h1, heap_nc hk h2 rfl, RAs.nc hk _ _ hy h3⟩
  | vec sz bt l =>
    obtain ⟨h0, h1, h2, h3⟩ := h
    refine ⟨h0, h1, h2, h3.imp id ?_⟩
    rintro ⟨q, C, T, h4, h5, h6, h7⟩
    refine ⟨q, C, T, h4, heap_nc hk h5 rfl, h6, fun i row hi => ?_⟩
    obtain ⟨h8, h9⟩ := h7 i row hi
    exact ⟨h8, fun j d hd => let ⟨u, h10, h11⟩ := h9 j d hd; ⟨u, h10, h11.nc hk⟩⟩
  | mp es =>
    obtain ⟨q, F, c, h1, h2, h3⟩ := h
    exact ⟨q, F, c, h1, by rw [World.putObj_heap_other (fun e => hm (by rw [h1, e]))]; exact h2, h3⟩
  | own sz bt cs =>
    obtain ⟨h0, h1, h2, h3⟩ := h
    refine ⟨h0, h1, h2, h3.imp id ?_⟩
    rintro ⟨q, C, T, h4, h5, h6, h7⟩
    exact ⟨q, C, T, h4, heap_nc hk h5 rfl, h6, RAs.nc hk _ _ hy h7⟩

theorem putObj_size (w : World) (k : Nat) (o : Obj) : (w.putObj k o).heap.size = w.heap.size := by simp [World.putObj]
theorem Fr.nc {E : Nat → Prop} {w0 w : World} {k : Nat} (o' : Obj) (h : Fr E w0 w) (hk : w0.heap.size ≤ k) : Fr E w0 (w.putObj k o') :=
  ⟨h.os, h.tape, h.output, by rw [putObj_size]; exact h.size, fun i hi he => by
    rw [World.putObj_heap_other (by omega)]
    exact h.block i hi he, fun i C T hi => by
    rw [World.putObj_heap_other (by have := (Array.getElem?_eq_some_iff.1 hi).1; omega)]
    exact h.keep i C T hi⟩
/-- A block that is no cells, and nobody's, may turn. -/
theorem C.nc {W0 : World} {E : En} {M : Nat → Prop} {m : Nat → Pl} {st : St} {a : Act} {w : World} (h : C W0 E M m st a w) {k : Nat} (o' : Obj) (hk : ∃ o, w.heap[k]? = some o ∧ o.isCells = false) (hW : W0.heap.size ≤ k) (hE : E.w.heap.size ≤ k) (hM : ¬ M k)
    (hy : ∀ t x, lk st.env t = some x → noYd x = true) (hb : st.bs.all boxNY = true) : C W0 E M m st a (w.putObj k o') :=
  { h with
    base := h.base.nc o' hW
    fr := h.fr.nc o' hE
    mLt := fun i hi => by rw [putObj_size]; exact h.mLt i hi
    mNo := h.mNo
    oldv := h.oldv
    len := h.len
    box := fun b x hx => (h.box b x hx).nc hk (fun e => hM (h.mIn b k e)) (List.all_eq_true.1 hb x (List.mem_of_getElem? hx))
    env := fun t x hx => RA.nc hk x _ (hy t x hx) (h.env t x hx)
    wide := h.wide
    defers := h.defers }

/-- The same state, seen as a call that begins now. -/
theorem C.restart {W0 : World} {E : En} {M : Nat → Prop} {m : Nat → Pl} {st : St} {a : Act} {w : World} (h : C W0 E M m st a w) : C W0 ⟨w, M, m, st.bs.length, E.d⟩ M m st a w :=
  { h with
    fr := Fr.refl _ _
    eLt := h.mLt
    mUp := fun _ x => x
    mNew := fun _ x => .inl x
    mNo := h.mNo
    oldv := fun _ _ _ _ => rfl
    oldr := fun _ _ _ hk => .inl hk
    new := fun b k hb hk => absurd (h.mNo b hb) (by rw [hk]; simp)
    len := Nat.le_refl _
    box := h.box
    env := h.env
    wide := h.wide
    defers := h.defers }
/-- What began later is a part of what began earlier, where no box was handed. -/
theorem C.whole {W0 : World} {E : En} {M M' : Nat → Prop} {m m' : Nat → Pl} {st st' : St} {a a' : Act} {w w1 w' : World} {d : List Deferred} (h : C W0 E M m st a w) (h1 : Fr (fun _ => False) w w1) (h' : C W0 ⟨w1, M, m, st.bs.length, d⟩ M' m' st' a' w') (hn : E.n = 0) : C W0 ⟨E.w, E.M, E.m, 0, d⟩ M' m' st' a' w' :=
  { h' with
    fr := by
      have e : Fr (fun k => ∃ b, b < E.n ∧ E.m b = .at_ k) E.w w1 := h.fr.trans (Fr.weak h1 fun _ _ x => x.elim)
      have none : ∀ k, k < E.w.heap.size → ¬ ∃ b, b < E.n ∧ E.m b = .at_ k := fun k _ ⟨b, hb, _⟩ => by omega
      refine ⟨h'.fr.os.trans e.os, h'.fr.tape.trans e.tape, h'.fr.output.trans e.output, Nat.le_trans e.size h'.fr.size, fun k hk _ => ?_, fun k C T hk => ?_⟩
      · refine (h'.fr.block k (Nat.lt_of_lt_of_le hk e.size) ?_).trans (e.block k hk (none k hk))
        rintro ⟨b, _, hb⟩
        exact absurd hk (Nat.not_lt.2 (h.new b k (by omega) hb))
      · obtain ⟨C1, h2, h3⟩ := e.keep k C T hk
        obtain ⟨C2, h4, h5⟩ := h'.fr.keep k C1 T h2
        exact ⟨C2, h4, h5.trans h3⟩
    eLt := h.eLt
    mUp := fun k hk => h'.mUp k (h.mUp k hk)
    mNew := fun k hk => (h'.mNew k hk).elim (h.mNew k) fun x => .inr (Nat.le_trans h.fr.size (Nat.le_trans h1.size x))
    mNo := h'.mNo
    oldv := fun b cs hb => absurd hb (Nat.not_lt_zero _)
    oldr := fun b k hb => absurd hb (Nat.not_lt_zero _)
    new := fun b k _ hk => by
      by_cases hb : b < st.bs.length
      · rcases h'.oldr b k hb hk with h2 | h2
        · exact h.new b k (by omega) h2
        · exact Nat.le_trans h.fr.size (Nat.le_trans h1.size h2)
      · exact Nat.le_trans h.fr.size (Nat.le_trans h1.size (h'.new b k (by simp only; omega) hk))
    len := Nat.zero_le _
    box := h'.box
    env := h'.env
    wide := h'.wide
    defers := h'.defers }

section
variable {P : Program} {W0 : World} {n : Nat}
/-- What is left of a region, in whatever round. -/
def AOpsI (P : Program) (W0 : World) (n : Nat) (ops : Array Oper) (l : List Oper) (Q : Ax → St → Prop) (st : St) : Prop := ∀ E M m a w, E.n = n → C W0 E M m st a w → ∀ ro nn, wpListIn (RFe ro) nn P ops (LQ W0 E Q) l a w
theorem wpIn_exits {F : Fence} {nn : Nat} {o : Oper} {a : Act} {w : World} {K K' : Act → World → Prop} {Q Q' : Exit → Act → World → Prop} (hK : ∀ a w, K a w → K' a w) (h : ∀ e a w, e ≠ .normal → Q e a w → Q' e a w) (hh : o.wpIn F nn P a w K Q) : o.wpIn F nn P a w K' Q' := by
  unfold Oper.wpIn at *
  refine ⟨hh.1, ?_⟩
  have hh := hh.2
  generalize (o.semAt F.round a.eval).run P w = r at *
  cases r with
  | ok x w' =>
    cases x <;> simp only [Oper.uponIn] at hh ⊢ <;>
      first
        | exact hK _ _ hh
        | exact ⟨hh.1, CallsIn.mono hh.2 (fun e w'' he => by cases e <;> first | exact hK _ _ he | exact h _ _ _ (by simp) he | exact let ⟨a, w, he⟩ := he; ⟨a, w, h _ _ _ (by simp) he⟩)⟩
        | exact ⟨hh.1, RowsIn.mono hh.2 (fun _ _ he => hK _ _ he)⟩
        | exact ⟨hh.1, RoundIn.mono hh.2 (fun e w'' he => by cases e <;> first | exact hK _ _ he | exact h _ _ _ (by simp) he | exact let ⟨a, w, he⟩ := he; ⟨a, w, h _ _ _ (by simp) he⟩)⟩
  | halt x w' => cases x <;> simp only [Oper.uponIn] at hh ⊢ <;> first | exact h _ _ _ (by simp) hh | exact hh
theorem listIn_app {F : Fence} {nn : Nat} {ops : Array Oper} {Q1 Q2 : Exit → Act → World → Prop} {rest : List Oper} (hn : ∀ a w, Q1 .normal a w → wpListIn F nn P ops Q2 rest a w) (he : ∀ e a w, e ≠ .normal → Q1 e a w → Q2 e a w) : ∀ {l1 : List Oper} {a : Act} {w : World}, wpListIn F nn P ops Q1 l1 a w → wpListIn F nn P ops Q2 (l1 ++ rest) a w
  | [], a, w, h => hn a w h
  | o :: l, a, w, h => by
    unfold wpListIn at h
    rw [List.cons_append]
    unfold wpListIn
    split
    · rename_i hw
      rw [if_pos hw] at h
      exact wpIn_exits (fun a w hk => listIn_app hn he hk) he h
    · rename_i hw
      rw [if_neg hw] at h
      exact ⟨h.1, listIn_app hn he h.2⟩
theorem AI_of {Q : Ax → St → Prop} {st : St} {ops : Array Oper} {l : List Oper} (h : AOps P W0 n ops l Q st) (hnd : l.all noDef = true) : AOpsI P W0 n ops l Q st := fun E M m a w hn hC ro nn => list_in LQ_in hnd (h E M m a w hn hC)
theorem AI_split {Q : Ax → St → Prop} {st : St} {ops : Array Oper} {l1 rest : List Oper} (h : AOps P W0 n ops l1 (Thn (AOpsI P W0 n ops rest Q) Q) st) (hnd : l1.all noDef = true) : AOpsI P W0 n ops (l1 ++ rest) Q st := by
  intro E M m a w hn hC ro nn
  refine listIn_app ?_ ?_ (list_in LQ_in hnd (h E M m a w hn hC))
  · rintro a w ⟨M', m', st', ax, h1, h2, h3⟩
    cases ax <;> simp only [ExR] at h3
    exact h2 E M' m' a w hn h1 ro nn
  · rintro e a w he ⟨M', m', st', ax, h1, h2, h3⟩
    refine ⟨M', m', st', ax, h1, ?_, h3⟩
    cases ax <;> cases e <;> first | exact h2 | exact absurd rfl he | exact h3.elim
theorem A_regionI {Q : Ax → St → Prop} {st : St} {id : Nat} {l : List Oper} (h : AOpsI P W0 n l.toArray l Q st) : ACode P W0 n (.region id l.toArray false) Q st := fun E M m a w hn hC ro nn => wpIn_region_lit (h E M m a w hn hC ro nn)

/-- A round's contract: handed such values, with such values captured, and such boxes, it goes on, and leaves such boxes. -/
def ARound (P : Program) (W0 : World) (r : Loop) (ts : List Nat) (caps args : List AV) (L L' : List Box) : Prop :=
  ∀ M m w us k, C W0 ⟨w, M, m, L.length, []⟩ M m ⟨0, [], L⟩ nobody w → ¬ M k → k = r.defers + 1 → w.heap[k]? = some (.loop r) → RAs M m w caps (ts.map fun t => r.tmps.getD t undef) → RAs M m w args us.toList →
    ∀ mm, YieldAt Fence.wide mm P k us w fun e w' => e = .returned (.bool true) ∧ ∃ M' m', C W0 ⟨w, M, m, L.length, []⟩ M' m' ⟨0, [], L'⟩ nobody w'
/-- A call of yield: a round. -/
theorem A_yield {Q : Ax → St → Prop} {st : St} {ops : Array Oper} {o : Oper} {rest : List Oper} {fo : Operand} {args : Array Operand} {tys : Array TypeId} {r : Loop} (sel : List Nat) {ts : List Nat} {caps0 xs caps cargs : List AV} {L L' : List Box} (hr : ARound P W0 r ts caps cargs L L')
    (hg : o.guard = none) (ho : o.op = .call ⟨.value fo, args, tys⟩) (hf : evo (lk st.env) fo = some (.yd r ts caps0)) (ha : evl (lk st.env) args.toList = some xs) (hd : dOk st.N o.dst = true)
    (hn : sel.Nodup) (hlen : L.length = sel.length) (hL : ∀ (i b : Nat), sel[i]? = some b → st.bs[b]? = (L[i]?).map (renB (sg sel st.bs.length))) (hargs : renL (sg sel st.bs.length) cargs = xs) (hcaps : renL (sg sel st.bs.length) caps = caps0) (hk : kindsOk L L' = true)
    (h : AOpsI P W0 n ops rest Q ((st.aft sel L L').put o.dst (.d (.v (.bool true))))) : AOpsI P W0 n ops (o :: rest) Q st := by
  intro E M m a w hE hC ro nn
  refine wpListIn_plain hg fun K hK => ?_
  have h1 := evo_sound hC.env hf
  simp only [RA] at h1
  obtain ⟨k, ⟨h2, hkd⟩, hMk, hrec, hcs⟩ := h1
  have h4 := evl_sound hC.env ha
  subst hargs hcaps
  obtain ⟨fn, tmps, assign, body, hy, hR⟩ := hr M _ w (args.map a.eval) k (hC.calleeB hn hlen hL) hMk hkd hrec (RAs.ren (σ := sg sel st.bs.length) (fun b _ => rfl) _ _ hcs) (RAs.ren (σ := sg sel st.bs.length) (fun b _ => rfl) _ _ (by simpa using h4)) (nn - 1)
  have hx : (execOp a.eval o).run P w = .ok (.round k fn tmps assign body) w := by
    simp [execOp, ho, resolve, h2, Deferred.ofValue, invoke]
    exact hy
  refine ⟨fun _ _ => trivial, ?_⟩
  rw [Oper.semAt_eq _ _ _ (by rw [ho]; simp), hx]
  refine ⟨fun e => (by cases e), ?_⟩
  have hR2 : RoundIn (RFe ro) (nn - 1) P k fn tmps assign body w _ := hR
  refine hR2.mono ?_
  rintro e w' ⟨rfl, M', m', hC'⟩
  obtain ⟨m'', hC2, hx2⟩ := hC.aftB hn hlen hL hC' hk
  exact hK _ _ (h E M' m'' _ _ hE (hC2.value (dOk_iff hd) (RA.v_mk rfl)) ro nn)
/-- A block that is nobody's is turned; the state, seen as a call that begins then. -/
theorem C.turned {E : En} {M : Nat → Prop} {m : Nat → Pl} {st : St} {a : Act} {w : World} (h : C W0 E M m st a w) {k : Nat} (o' : Obj) (hk : ∃ o, w.heap[k]? = some o ∧ o.isCells = false) (hW : W0.heap.size ≤ k) (hM : ¬ M k)
    (hy : ∀ t x, lk st.env t = some x → noYd x = true) (hb : st.bs.all boxNY = true) : C W0 ⟨w.putObj k o', M, m, st.bs.length, E.d⟩ M m st a (w.putObj k o') :=
  { h.restart with
    base := h.base.nc o' hW
    fr := Fr.refl _ _
    eLt := fun i hi => by simp only [putObj_size]; exact h.mLt i hi
    mNew := fun _ x => .inl x
    mLt := fun i hi => by rw [putObj_size]; exact h.mLt i hi
    mNo := h.mNo
    oldv := fun _ _ _ _ => rfl
    oldr := fun _ _ _ hk => .inl hk
    new := fun b k hb hk => absurd (h.mNo b hb) (by rw [hk]; simp)
    len := Nat.le_refl _
    box := fun b x hx => (h.box b x hx).nc hk (fun e => hM (h.mIn b k e)) (List.all_eq_true.1 hb x (List.mem_of_getElem? hx))
    env := fun t x hx => RA.nc hk x _ (hy t x hx) (h.env t x hx)
    wide := h.wide
    defers := h.defers }
/-- It is turned back: all of it is a part of the call that began earlier. -/
theorem C.round {E : En} {M M' : Nat → Prop} {m m' : Nat → Pl} {st st' : St} {a a' : Act} {w w' : World} (h : C W0 E M m st a w) {k : Nat} {o o1 o2 : Obj} (hk : w.heap[k]? = some o) (ho2 : w'.heap[k]? = some o2) (hc2 : o2.isCells = false) (hW : W0.heap.size ≤ k) (hM : ¬ M k) (hE : ∀ b, b < E.n → E.m b ≠ .at_ k) (hkE : k < E.w.heap.size)
    (h' : C W0 ⟨w.putObj k o1, M, m, st.bs.length, E.d⟩ M' m' st' a' w') (hkinds : ∀ b cs, b < E.n → st'.bs[b]? = some (.var cs) → ∃ cs', st.bs[b]? = some (.var cs')) (hy : ∀ t x, lk st'.env t = some x → noYd x = true) (hb : st'.bs.all boxNY = true) : C W0 E M' m' st' a' (w'.putObj k o) := by
  have hlt := (Array.getElem?_eq_some_iff.1 hk).1
  have hs1 : (w.putObj k o1).heap.size = w.heap.size := putObj_size _ _ _
  have hsz : w.heap.size ≤ w'.heap.size := by have := h'.fr.size; simpa only [putObj_size] using this
  have hM' : ¬ M' k := fun x => (h'.mNew k x).elim hM fun e => by simp only [putObj_size] at e; omega
  have hnk : ∃ o, w'.heap[k]? = some o ∧ o.isCells = false := ⟨o2, ho2, hc2⟩
  have hbx : ∀ i, i < E.w.heap.size → (¬ ∃ b, b < E.n ∧ E.m b = .at_ i) → ¬ ∃ b, b < st.bs.length ∧ m b = .at_ i := by
    rintro i hi hne ⟨b, _, hb⟩
    rcases h.own hb with h1 | h1
    · exact hne h1
    · omega
  exact { h' with
    base := h'.base.nc o hW
    fr := by
      refine ⟨h'.fr.os.trans h.fr.os, h'.fr.tape.trans h.fr.tape, h'.fr.output.trans h.fr.output, by rw [putObj_size]; exact Nat.le_trans h.fr.size hsz, fun i hi hne => ?_, fun i C T hi => ?_⟩
      · by_cases e : i = k
        · subst e
          rw [World.putObj_heap_same (by omega), ← hk]
          exact h.fr.block _ hi hne
        · rw [World.putObj_heap_other e]
          refine (h'.fr.block i (by simp only [putObj_size]; have := h.fr.size; omega) (hbx i hi hne)).trans ?_
          simp only
          rw [World.putObj_heap_other e]
          exact h.fr.block i hi hne
      · obtain ⟨C1, h2, h3⟩ := h.fr.keep i C T hi
        by_cases e : i = k
        · subst e
          rw [World.putObj_heap_same (by omega), ← hk]
          exact ⟨C1, h2, h3⟩
        · obtain ⟨C2, h4, h5⟩ := h'.fr.keep i C1 T (by simp only; rw [World.putObj_heap_other e]; exact h2)
          exact ⟨C2, by rw [World.putObj_heap_other e]; exact h4, h5.trans h3⟩
    eLt := h.eLt
    mUp := fun i hi => h'.mUp i (h.mUp i hi)
    mNew := fun i hi => (h'.mNew i hi).elim (h.mNew i) fun x => .inr (Nat.le_trans h.fr.size (by simpa only [putObj_size] using x))
    mLt := fun i hi => by rw [putObj_size]; exact h'.mLt i hi
    mNo := h'.mNo
    oldv := fun b cs hb hc => by
      obtain ⟨cs', hc'⟩ := hkinds b cs hb hc
      exact (h'.oldv b cs (Nat.lt_of_lt_of_le hb h.len) hc).trans (h.oldv b cs' hb hc')
    oldr := fun b i hb hi => by
      rcases h'.oldr b i (Nat.lt_of_lt_of_le hb h.len) hi with h1 | h1
      · exact h.oldr b i hb h1
      · exact .inr (Nat.le_trans h.fr.size (by simpa only [putObj_size] using h1))
    new := fun b i hb hi => by
      by_cases hlt : b < st.bs.length
      · rcases h'.oldr b i hlt hi with h1 | h1
        · exact h.new b i hb h1
        · exact Nat.le_trans h.fr.size (by simpa only [putObj_size] using h1)
      · exact Nat.le_trans h.fr.size (by simpa only [putObj_size] using h'.new b i (by simp only; omega) hi)
    len := Nat.le_trans h.len h'.len
    box := fun b x hx => (h'.box b x hx).nc hnk (fun e => hM' (h'.mIn b k e)) (List.all_eq_true.1 hb x (List.mem_of_getElem? hx))
    env := fun t x hx => RA.nc hnk x _ (hy t x hx) (h'.env t x hx)
    wide := h'.wide
    defers := h'.defers }
theorem foldl_get : ∀ (ps : List Nat) (us : List Value) (t0 : Array Value) (i t : Nat) (u : Value), ps.Nodup → ps[i]? = some t → us[i]? = some u → t < t0.size → ((ps.zip us).foldl (fun tmps (p : Nat × Value) => tmps.setIfInBounds p.1 p.2) t0).getD t undef = u
  | [], us, t0, i, t, u, _, h, _, _ => by simp at h
  | p :: ps, [], t0, i, t, u, _, _, h, _ => by simp at h
  | p :: ps, v :: us, t0, 0, t, u, hn, hp, hu, ht => by
    simp only [List.getElem?_cons_zero, Option.some.injEq] at hp hu
    subst hp hu
    rw [List.zip_cons_cons, List.foldl_cons]
    have : ∀ (ps : List Nat) (us : List Value) (t1 : Array Value), p ∉ ps → ((ps.zip us).foldl (fun tmps (q : Nat × Value) => tmps.setIfInBounds q.1 q.2) t1).getD p undef = t1.getD p undef := by
      intro ps
      induction ps with
      | nil => intro us t1 _; rfl
      | cons q ps ih =>
        intro us t1 hq
        cases us with
        | nil => rfl
        | cons v us =>
          rw [List.zip_cons_cons, List.foldl_cons, ih _ _ (fun h => hq (List.mem_cons_of_mem _ h))]
          have : p ≠ q := fun e => hq (e ▸ List.mem_cons_self ..)
          simp [Array.getD_eq_getD_getElem?, Array.getElem?_setIfInBounds_ne this.symm]
    rw [this _ _ _ (List.nodup_cons.1 hn).1]
    simp [ht]
  | p :: ps, v :: us, t0, i + 1, t, u, hn, hp, hu, ht => by
    rw [List.zip_cons_cons, List.foldl_cons]
    exact foldl_get ps us _ i t u (List.nodup_cons.1 hn).2 (by simpa using hp) (by simpa using hu) (by simpa using ht)
theorem foldl_keep : ∀ (ps : List Nat) (us : List Value) (t0 : Array Value) (t : Nat), t ∉ ps → ((ps.zip us).foldl (fun tmps (p : Nat × Value) => tmps.setIfInBounds p.1 p.2) t0).getD t undef = t0.getD t undef
  | [], us, t0, t, _ => rfl
  | p :: ps, [], t0, t, _ => rfl
  | p :: ps, v :: us, t0, t, h => by
    rw [List.zip_cons_cons, List.foldl_cons, foldl_keep ps us _ t (fun x => h (List.mem_cons_of_mem _ x))]
    have : t ≠ p := fun e => h (e ▸ List.mem_cons_self ..)
    simp [Array.getD_eq_getD_getElem?, Array.getElem?_setIfInBounds_ne this.symm]
theorem foldl_size : ∀ (l : List (Nat × Value)) (t0 : Array Value), (l.foldl (fun tmps (p : Nat × Value) => tmps.setIfInBounds p.1 p.2) t0).size = t0.size
  | [], t0 => rfl
  | p :: l, t0 => by rw [List.foldl_cons, foldl_size l]; simp
/-- What a round's body owes. -/
def RdOk (W0 : World) (n : Nat) (bs1 : List Box) (L' : List Box) (ax : Ax) (st : St) : Prop :=
  ax = .normal ∧ (∀ b cs, b < n → st.bs[b]? = some (.var cs) → ∃ cs', bs1[b]? = some (.var cs')) ∧ st.bs.all boxNY = true ∧ Sb W0 n ⟨st.N, [], st.bs⟩ ⟨st.N, [], L'⟩
theorem ARound_of {r : Loop} {ts : List Nat} {caps args : List AV} {L L' : List Box} (env : List (Nat × AV)) (hst : r.state = .ready) (hpe : r.pending = none) (hW : W0.heap.size ≤ r.defers + 1) (hps : r.params.size = args.length) (hpn : r.params.toList.Nodup)
    (henv : ∀ (t : Nat) (x : AV), lk (ofL env) t = some x → t < r.tmps.size ∧ ((∃ i : Nat, ts[i]? = some t ∧ caps[i]? = some x ∧ t ∉ r.params.toList) ∨ ∃ i : Nat, r.params[i]? = some t ∧ args[i]? = some x))
    (h : ACode P W0 L.length r.assign (Thn (fun st1 => (∀ t x, lk st1.env t = some x → noYd x = true) ∧ st1.bs.all boxNY = true ∧ ACode P W0 st1.bs.length r.body (RdOk W0 L.length st1.bs L') st1) (fun _ _ => False)) ⟨r.tmps.size, ofL env, L⟩) : ARound P W0 r ts caps args L L' := by
  intro M m w us k hC hM hkd hrec hcs hus mm
  subst hkd
  have hlu : args.length = us.size := by rw [hus.length, Array.length_toList]
  refine ⟨_, _, _, _, run_yield hrec (by rw [hps, hlu]), ?_⟩
  have hfold : (r.params.zip us).foldl (fun (tmps : Array Value) (p : Tmp × Value) => match p with | (t, a) => tmps.setIfInBounds t a) r.tmps = (r.params.toList.zip us.toList).foldl (fun tmps (p : Nat × Value) => tmps.setIfInBounds p.1 p.2) r.tmps := by
    rw [← Array.foldl_toList, Array.toList_zip]
  rw [hfold]
  refine roundIn_of_wpIn (F := Fence.wide) trivial ?_
  have hC0 : C W0 ⟨w, M, m, L.length, []⟩ M m ⟨r.tmps.size, ofL env, L⟩ ⟨(r.params.toList.zip us.toList).foldl (fun tmps (p : Nat × Value) => tmps.setIfInBounds p.1 p.2) r.tmps, []⟩ w := by
    refine { hC with env := fun t x hx => ?_, wide := by simp only [foldl_size], defers := rfl, mNo := hC.mNo, oldv := hC.oldv, box := hC.box, len := hC.len }
    obtain ⟨ht, ⟨i, h1, h2, h3⟩ | ⟨i, h1, h2⟩⟩ := henv t x hx
    · simp only
      rw [foldl_keep _ _ _ _ h3]
      obtain ⟨u, h4, h5⟩ := hcs.get h2
      rw [List.getElem?_map, h1] at h4
      simp only [Option.map_some, Option.some.injEq] at h4
      rw [h4]
      exact h5
    · obtain ⟨u, h4, h5⟩ := hus.get h2
      simp only
      rw [foldl_get _ _ _ i t u hpn (by simpa using h1) h4 ht]
      exact h5
  have hkl := (Array.getElem?_eq_some_iff.1 hrec).1
  have hkb : ∀ b, m b ≠ .at_ (r.defers + 1) := fun b e => hM (hC.mIn b _ e)
  refine wpIn_mono (h _ M m _ w rfl hC0 (some (r.defers + 1)) mm) ?_
  rintro e a1 w1 ⟨M1, m1, st1, ax, h1, h2, h3⟩
  cases ax with
  | normal =>
    cases e <;> simp only [ExR] at h3
    obtain ⟨hy, hb, hbody⟩ := h2
    have hr1 : w1.heap[r.defers + 1]? = some (.loop r) := (h1.fr.block _ hkl (fun ⟨b, _, e⟩ => hkb b e)).trans hrec
    have hM1 : ¬ M1 (r.defers + 1) := fun x => (h1.mNew _ x).elim hM fun e => by simp only at e; omega
    refine ⟨_, run_beginRound hr1 hst, ?_⟩
    have hC2 := h1.turned (.loop { r with state := .busy }) ⟨_, hr1, rfl⟩ hW hM1 hy hb
    refine wpIn_mono (hbody _ M1 m1 a1 _ rfl hC2 (some (r.defers + 1)) mm) ?_
    rintro e a3 w3 ⟨M3, m3, st3, ax, h5, ⟨rfl, h6, h7, h8⟩, h9⟩
    cases e <;> simp only [ExR] at h9
    have hk1 : r.defers + 1 < w1.heap.size := (Array.getElem?_eq_some_iff.1 hr1).1
    have hr3 : w3.heap[r.defers + 1]? = some (.loop { r with state := .busy }) := by
      refine (h5.fr.block _ (by simp only [putObj_size]; exact hk1) (fun ⟨b, _, e⟩ => hM1 (h1.mIn b _ e))).trans ?_
      exact World.putObj_heap_same hk1
    refine ⟨_, _, run_endRound none hr3, rfl, ?_⟩
    have hrr : ({ ({ r with state := .busy } : Loop) with state := if (none : Option Code).isNone then .ready else .done, pending := none } : Loop) = r := by
      cases r
      simp only at hst hpe
      subst hst hpe
      rfl
    rw [hrr]
    have h5' : C W0 ⟨w1.putObj (r.defers + 1) (.loop { r with state := .busy }), M1, m1, st1.bs.length, []⟩ M3 m3 ⟨st3.N, [], st3.bs⟩ a3 w3 :=
      { h5 with env := fun t x hx => by simp [lk_nil] at hx, wide := h5.wide, defers := h5.defers, mNo := h5.mNo, oldv := h5.oldv, box := h5.box, len := h5.len }
    have h10 := C.round h1 hr1 hr3 rfl hW hM1 (fun b _ => hkb b) hkl h5' h6 (fun t x hx => by simp [lk_nil] at hx) h7
    obtain ⟨M4, m4, h11⟩ := h8 _ M3 m3 a3 _ rfl h10
    exact ⟨M4, m4, h11.bare⟩
  | exit i => exact h2.elim
  | goto i => exact h2.elim
  | ret => exact h2.elim
  | panic x => exact h2.elim
def mark (D : Nat) : Deferred := { target := .collected D, args := #[] }
/-- Behind a loop over a function: the frame bears a mark. -/
def LQF (W0 : World) (E : En) (Q : Ax → St → Prop) : Exit → Act → World → Prop := fun ex a w => ∃ D M m st ax, C W0 ⟨E.w, E.M, E.m, 0, [mark D]⟩ M m st a w ∧ w.heap[D]? = some (.deferred (some [])) ∧ ¬ M D ∧ E.w.heap.size ≤ D ∧ W0.heap.size ≤ D ∧ Q ax st ∧ ExR M m w ax ex
/-- Code that goes through one loop over a function. -/
def AF (P : Program) (W0 : World) (c : Code) (Q : Ax → St → Prop) (st : St) : Prop := ∀ E M m a w, E.n = 0 → E.d = [] → C W0 E M m st a w → ∀ nn, c.wpIn (RFe none) nn P (LQF W0 E Q) a w
theorem F_pre {x y : Code} {Q : Ax → St → Prop} {st : St} (h : ACode P W0 0 x (Thn (AF P W0 y Q) (fun _ _ => False)) st) : AF P W0 (.seq x y) Q st := by
  intro E M m a w hn hd hC nn
  refine wpIn_seq (wpIn_mono (h E M m a w hn hC none nn) ?_)
  rintro e a' w' ⟨M', m', st', ax, h1, h2, h3⟩
  cases ax with
  | normal =>
    cases e <;> simp only [ExR] at h3
    exact h2 E M' m' a' w' hn hd h1 nn
  | exit i => exact h2.elim
  | goto i => exact h2.elim
  | ret => exact h2.elim
  | panic x => exact h2.elim
theorem F_post {x y : Code} {Q : Ax → St → Prop} {st : St} (h : AF P W0 x (fun ax st' => ax = .normal ∧ ACode P W0 st'.bs.length y Q st') st) : AF P W0 (.seq x y) Q st := by
  intro E M m a w hn hd hC nn
  refine wpIn_seq (wpIn_mono (h E M m a w hn hd hC nn) ?_)
  rintro e a' w' ⟨D, M', m', st', ax, h1, hD, hM, hE, hW, ⟨rfl, h2⟩, h3⟩
  cases e <;> simp only [ExR] at h3
  refine wpIn_mono (h2 _ M' m' a' w' rfl h1.restart none nn) ?_
  rintro e a2 w2 ⟨M2, m2, st2, ax, h4, h5, h6⟩
  have hlt := (Array.getElem?_eq_some_iff.1 hD).1
  refine ⟨D, M2, m2, st2, ax, C.whole (E := ⟨E.w, E.M, E.m, 0, [mark D]⟩) h1 (Fr.refl _ _) h4 rfl, ?_, ?_, hE, hW, h5, h6⟩
  · exact (h4.fr.block D hlt (fun ⟨b, _, e⟩ => hM (h1.mIn b D e))).trans hD
  · exact fun x => (h4.mNew D x).elim hM fun e => by simp only at e; omega
theorem F_block {id : Nat} {c : Code} {Q : Ax → St → Prop} {st : St} (h : AF P W0 c (fun ax st' => ax = .normal ∧ Q .normal st') st) : AF P W0 (.block id c) Q st := by
  intro E M m a w hn hd hC nn
  refine wpIn_block (wpIn_mono (h E M m a w hn hd hC nn) ?_)
  rintro e a' w' ⟨D, M', m', st', ax, h1, hD, hM, hE, hW, ⟨rfl, h2⟩, h3⟩
  cases e <;> simp only [ExR] at h3
  exact ⟨D, M', m', st', .normal, h1, hD, hM, hE, hW, h2, trivial⟩
theorem F_body {f : FuncId} {fn : Func} {c : Code} {args : List AV} {R : Res → List Box → Prop} (hf : P.funcs[f]? = some fn) (hb : fn.body = some c) (hN : args.length ≤ fn.ntmps)
    (h : AF P W0 c (fun ax st => ax = .ret ∧ AEnd P W0 0 fn.results.toList R .ret st ∧ (∀ t x, lk st.env t = some x → noYd x = true) ∧ st.bs.all boxNY = true) ⟨fn.ntmps, ofL (mkEnv 0 args), []⟩) : ACalls P W0 f args [] R := by
  intro M m w us hc ha
  refine (callsIn_wide (n := 0)).1 (callsIn_of_wp_marks (F := Fence.wide) hf hb trivial (wpIn_mono (h _ M m _ w rfl rfl (hc.frame ha hN) 0) ?_))
  rintro e a' w' ⟨D, M', m', st', ax, h1, hD, hM, hE, hW, ⟨rfl, ⟨x, hx, L', x', hfin, hR⟩, hen, hbs⟩, h3⟩
  cases e <;> simp only [ExR] at h3
  have hd : a'.defers = [mark D] := h1.defers
  have h1' := h1.nc (.deferred none) ⟨_, hD, rfl⟩ hW hE hM hen hbs
  have h2 : C W0 ⟨w, M, m, 0, []⟩ M' m' st' ⟨a'.tmps, []⟩ (w'.putObj D (.deferred none)) := { h1' with defers := rfl }
  obtain ⟨u, h4, h5⟩ := resV_sound (P := P) h2 hx
  obtain ⟨M'', m'', h6, h7⟩ := hfin _ _ _ _ _ u rfl h2 h5
  simp only [bodyPostM, hd]
  refine ⟨by simp, .inl ⟨D, _, rfl, run_takeDeferred hD, ?_⟩⟩
  exact ⟨u, h4, .ret x', L', M'', m'', hR, h7, h6⟩
theorem C.alien {E : En} {M : Nat → Prop} {m : Nat → Pl} {st : St} {a : Act} {w : World} (h : C W0 E M m st a w) (o : Obj) : C W0 E M m st a (w.alloc o) :=
  h.after (M' := M) (m' := fun _ => .no) (L' := []) {
    base := h.base.trans (Fr.alloc w o)
    fr := Fr.alloc w o
    eLt := h.mLt
    mLow := h.mLow
    mUp := fun _ x => x
    mNew := fun _ x => .inl x
    mLt := fun i hi => by have := h.mLt i hi; simp; omega
    mNo := fun _ _ => rfl
    mIn := fun _ _ e => by cases e
    inj := fun _ _ _ e _ => by cases e
    oldv := fun b _ hb => absurd hb (Nat.not_lt_zero _)
    oldr := fun _ _ hb => absurd hb (Nat.not_lt_zero _)
    new := fun _ _ _ e => by cases e
    len := Nat.le_refl _
    box := fun b x hx => by simp at hx
    env := fun t x hx => by simp [lk_nil] at hx
    wide := rfl
    defers := rfl }
/-- A loop over a function. -/
theorem F_loop {g : Operand} {ps : Array Tmp} {assign body : Code} {Q : Ax → St → Prop} {st : St} {gf : FuncId} {caps caps0 : List AV} {ts : List Nat} (sel : List Nat) {cargs : Loop → List AV} {L L' : List Box}
    (hg : evo (lk st.env) g = some (.fn gf caps)) (hts : evl (lk st.env) (ts.map Operand.tmp) = some caps0) (hc : callable P gf = true)
    (hn : sel.Nodup) (hlen : L.length = sel.length) (hL : ∀ (i b : Nat), sel[i]? = some b → st.bs[b]? = (L[i]?).map (renB (sg sel st.bs.length))) (hargs : ∀ r, renL (sg sel st.bs.length) (cargs r) = .yd r ts caps0 :: caps) (hk : kindsOk L L' = true)
    (hcall : ∀ r : Loop, r.state = .ready → r.pending = none → r.params = ps → r.assign = assign → r.body = body → r.tmps.size = st.N → W0.heap.size ≤ r.defers + 1 → ACalls P W0 gf (cargs r) L (fun x L2 => (∃ y, x = .ret y) ∧ L2 = L'))
    (hy : ∀ t x, lk (st.aft sel L L').env t = some x → noYd x = true) (hb : (st.aft sel L L').bs.all boxNY = true) (h : Q .normal (st.aft sel L L')) : AF P W0 (.rangeFunc g ps assign body) Q st := by
  intro E M m a w hEn hEd hC nn
  obtain ⟨Ew, EM, Em, En, Ed⟩ := E
  simp only at hEn hEd
  subst hEn hEd
  refine wpIn_rangeFunc ?_
  intro fn hfn
  have hW := hC.base.size
  have hEw := hC.fr.size
  simp only at hEw
  have hu := evo_sound hC.env hg
  simp only [RA] at hu
  obtain ⟨cs, hu, hcs⟩ := hu
  obtain ⟨r, hr⟩ : ∃ r : Loop, r = { state := .ready, pending := none, fn, tmps := a.tmps, params := ps, assign, body, defers := w.heap.size } := ⟨_, rfl⟩
  obtain ⟨W1, hW1⟩ : ∃ W1, (w.alloc (.deferred (some []))).alloc (.loop r) = W1 := ⟨_, rfl⟩
  have hs1 : W1.heap.size = w.heap.size + 2 := by rw [← hW1]; simp
  have hl : W1.heap[w.heap.size + 1]? = some (.loop r) := by
    rw [← hW1]; have := World.alloc_heap_new (w.alloc (.deferred (some []))) (.loop r); rwa [World.size_alloc] at this
  have hD : W1.heap[w.heap.size]? = some (.deferred (some [])) := by
    rw [← hW1]; exact (Below.heap_alloc _ _ _ (by simp)).trans (World.alloc_heap_new w _)
  have hC1 : C W0 ⟨Ew, EM, Em, 0, []⟩ M m st a W1 := hW1 ▸ (hC.alien _).alien _
  have hMl : ¬ M (w.heap.size + 1) := fun x => by have := hC.mLt _ x; omega
  have hMD : ¬ M w.heap.size := fun x => by have := hC.mLt _ x; omega
  refine ⟨w.heap.size + 1, [mark w.heap.size], W1, { target := .fn (.func gf) cs, args := #[.func (.yield (w.heap.size + 1)) #[] #[]] }, W1, gf, #[.func (.yield (w.heap.size + 1)) #[] #[]] ++ cs, W1, ?_, ?_, fun _ _ => trivial, ?_, fun e => (by cases e), ?_⟩
  · rw [← hW1, hr]; exact run_enterLoop_outer _ _ _ _ _
  · simp only [resolve, hu]
    simp [go_sem]
  · simp only [invoke]
    exact run_callFunc hc _ _
  · have hcs1 := evl_sound hC1.env hts
    have hcs2 := evo_sound hC1.env hg
    simp only [RA, hu] at hcs2
    obtain ⟨cs', hcs', hcs2⟩ := hcs2
    cases hcs'
    refine (callsIn_RF (hcall r (by rw [hr]) (by rw [hr]) (by rw [hr]) (by rw [hr]) (by rw [hr]) (by rw [hr]; exact hC.wide) (by rw [hr]; simp only; omega) M _ W1 _ (hC1.calleeB hn hlen hL) (RAs.ren (σ := sg sel st.bs.length) (fun b _ => rfl) _ _ ?_))).mono ?_
    · rw [hargs]
      simp only [Array.toList_append, List.cons_append, List.nil_append, RAs, RA]
      refine ⟨⟨w.heap.size + 1, ⟨rfl, by rw [hr]⟩, hMl, hl, ?_⟩, hcs2⟩
      rw [hr]
      simpa [List.map_map, Function.comp_def, Act.eval] using hcs1
    · rintro e w3 ⟨rr, L2, M', m', ⟨⟨y, rfl⟩, rfl⟩, hres, hC'⟩
      cases e with
      | panicked c => exact hres.elim
      | outgrown => exact hres.elim
      | returned u =>
        obtain ⟨m'', hC2, _⟩ := hC1.aftB hn hlen hL hC' hk
        have hl3 : w3.heap[w.heap.size + 1]? = some (.loop r) := (hC'.fr.block _ (by simp only; omega) (fun ⟨b, _, e⟩ => hMl (hC1.mIn _ _ e))).trans hl
        have hD3 : w3.heap[w.heap.size]? = some (.deferred (some [])) := (hC'.fr.block _ (by simp only; omega) (fun ⟨b, _, e⟩ => hMD (hC1.mIn _ _ e))).trans hD
        have hM3 : ¬ M' (w.heap.size + 1) := fun x => (hC'.mNew _ x).elim hMl fun e => by simp only at e; omega
        have hMD3 : ¬ M' w.heap.size := fun x => (hC'.mNew _ x).elim hMD fun e => by simp only at e; omega
        have hpe : r.pending = none := by rw [hr]
        have hend := run_endLoop (P := P) hl3 (by rw [hr]; simp)
        rw [hpe] at hend
        refine ⟨none, _, hend, ?_⟩
        have hC3 := hC2.nc (.loop { r with state := .exhausted, pending := none }) ⟨_, hl3, rfl⟩ (by omega) (by simp only; omega) hM3 hy hb
        refine ⟨w.heap.size, M', m'', st.aft sel L L2, .normal, { hC3 with defers := ?_ }, ?_, hMD3, by simp only; omega, by omega, h, trivial⟩
        · simp only [hC.defers, List.append_nil]
        · exact (World.putObj_heap_other (by omega)).trans hD3
end
end Go.Proofs.YtfbegbpipmgfiaaDoor.Lift
end
section
/- The lift: a call of yield where the loop's boxes lie first. No conditions. -/
set_option linter.unusedVariables false
set_option linter.unusedSimpArgs false
namespace Go.Proofs.YtfbegbpipmgfiaaDoor.Lift
open Go Go.RowKit
section
variable {P : Program} {W0 : World} {n : Nat}

mutual
theorem renA_id {σ : Nat → Nat} {k : Nat} (hs : ∀ b, b < k → σ b = b) : ∀ x : AV, x.names (fun b => decide (b < k)) = true → renA σ x = x
  | .d _, _ | .dp _, _ | .junk, _ => rfl
  | .ptr b _, h | .ep b _ _ _, h | .sl b _ _ _, h | .mref b, h => by
    simp only [AV.names, decide_eq_true_eq] at h
    simp only [renA, hs b h]
  | .fn _ l, h | .yd _ _ l, h | .agg l, h | .tup l, h => by
    simp only [AV.names] at h
    simp only [renA, renL_id hs l h]
  | .opt _ x, h => by
    simp only [AV.names] at h
    simp only [renA, renA_id hs x h]
theorem renL_id {σ : Nat → Nat} {k : Nat} (hs : ∀ b, b < k → σ b = b) : ∀ l : List AV, namesAll (fun b => decide (b < k)) l = true → renL σ l = l
  | [], _ => rfl
  | x :: l, h => by
    simp only [namesAll, Bool.and_eq_true] at h
    simp only [renL, renA_id hs x h.1, renL_id hs l h.2]
end
theorem renB_id {σ : Nat → Nat} {k : Nat} (hs : ∀ b, b < k → σ b = b) (x : Box) (h : boxBelow k x = true) : renB σ x = x := by
  cases x <;> simp only [boxBelow] at h <;> simp only [renB]
  · rw [renL_id hs _ h]
  · rw [renL_id hs _ h]
theorem renBs_id {σ : Nat → Nat} {k : Nat} (hs : ∀ b, b < k → σ b = b) : ∀ l : List Box, l.all (boxBelow k) = true → l.map (renB σ) = l
  | [], _ => rfl
  | x :: l, h => by
    simp only [List.all_cons, Bool.and_eq_true] at h
    simp only [List.map_cons, renB_id hs x h.1, renBs_id hs l h.2]
theorem setAll_range : ∀ (L pre bs : List Box), L.length ≤ bs.length → setAll (pre ++ bs) (List.range' pre.length L.length) L = pre ++ L ++ bs.drop L.length
  | [], pre, bs, _ => by simp [setAll]
  | x :: L, pre, [], h => by simp at h
  | x :: L, pre, y :: bs, h => by
    have h2 := setAll_range L (pre ++ [x]) bs (by simpa using h)
    simp only [List.length_append, List.length_cons, List.length_nil, List.append_assoc, List.cons_append, List.nil_append] at h2
    simp only [List.length_cons, List.range'_succ, setAll, List.drop_succ_cons]
    rw [List.set_append_right _ _ (Nat.le_refl _), Nat.sub_self, List.set_cons_zero, Nat.zero_add] at *
    simpa [List.append_assoc] using h2
theorem aft_first {st : St} {S S' X : List Box} (hbs : st.bs = S ++ X) (hlen : S'.length = S.length) (hb' : S'.all (boxBelow S.length) = true) :
    st.aft (List.range S.length) S S' = ⟨st.N, killPE (moved (List.range S.length) S S') st.env, S' ++ X.map (killPB (moved (List.range S.length) S S'))⟩ := by
  have hs : ∀ b, b < S.length → sg (List.range S.length) st.bs.length b = b := fun b hb => sg_lt (by rw [List.getElem?_range hb])
  unfold St.aft
  rw [renBs_id hs S' hb', List.length_range, List.drop_eq_nil_of_le (Nat.le_of_eq hlen), List.map_nil, List.append_nil, hbs, List.map_append]
  have h := setAll_range S' [] (S.map (killPB (moved (List.range S.length) S S')) ++ X.map (killPB (moved (List.range S.length) S S'))) (by simp; omega)
  simp only [List.nil_append, List.length_nil, hlen, ← List.range_eq_range'] at h
  rw [h, List.drop_append_of_le_length (by simp), List.drop_eq_nil_of_le (by simp), List.nil_append]
/-- A call of yield: the loop's boxes lie first. -/
theorem A_yield0 {Q : Ax → St → Prop} {st : St} {ops : Array Oper} {o : Oper} {rest : List Oper} {fo : Operand} {args : Array Operand} {tys : Array TypeId} {r : Loop} {ts : List Nat} {caps xs : List AV} {S S' X : List Box} (hr : ARound P W0 r ts caps xs S S')
    (hbs : st.bs = S ++ X) (hg : o.guard = none) (ho : o.op = .call ⟨.value fo, args, tys⟩) (hf : evo (lk st.env) fo = some (.yd r ts caps)) (ha : evl (lk st.env) args.toList = some xs) (hd : dOk st.N o.dst = true)
    (hb : S.all (boxBelow S.length) = true) (hb' : S'.all (boxBelow S.length) = true) (hlen : S'.length = S.length) (hc : namesAll (fun b => decide (b < S.length)) caps = true) (hx : namesAll (fun b => decide (b < S.length)) xs = true) (hk : kindsOk S S' = true)
    (h : AOpsI P W0 n ops rest Q ((⟨st.N, killPE (moved (List.range S.length) S S') st.env, S' ++ X.map (killPB (moved (List.range S.length) S S'))⟩ : St).put o.dst (.d (.v (.bool true))))) : AOpsI P W0 n ops (o :: rest) Q st := by
  have hs : ∀ b, b < S.length → sg (List.range S.length) st.bs.length b = b := fun b hb => sg_lt (by rw [List.getElem?_range hb])
  refine A_yield (List.range S.length) hr hg ho hf ha hd List.nodup_range (by simp) (fun i b hib => ?_) (renL_id hs _ hx) (renL_id hs _ hc) hk ?_
  · have hi : i < S.length := by have := (List.getElem?_eq_some_iff.1 hib).1; simpa using this
    rw [List.getElem?_range hi] at hib
    cases hib
    rw [hbs, List.getElem?_append_left hi, List.getElem?_eq_getElem hi, Option.map_some, ← hbs]
    rw [renB_id hs _ (List.all_eq_true.1 hb _ (List.getElem_mem hi))]
  · rw [aft_first hbs hlen hb']
    exact h
end
end Go.Proofs.YtfbegbpipmgfiaaDoor.Lift
end
section
/- Facts of the types and functions of this translation. No conditions. -/
namespace Go.Proofs.YtfbegbpipmgfiaaDoor.Lift
open Go
@[go_sem] theorem ty2_0 : szT Tryd.prog 2 = some 1 := by kernel_rfl
@[go_sem] theorem ty2_2 : aggT Tryd.prog 2 = some false := by kernel_rfl
@[go_sem] theorem ty2_6 : isBl Tryd.prog 2 = false := by kernel_rfl
@[go_sem] theorem ty3_0 : szT Tryd.prog 3 = some 1 := by kernel_rfl
@[go_sem] theorem ty3_2 : aggT Tryd.prog 3 = some false := by kernel_rfl
@[go_sem] theorem ty3_6 : isBl Tryd.prog 3 = false := by kernel_rfl
@[go_sem] theorem ty3_8 : isTy Tryd.prog 3 = true := by kernel_rfl
@[go_sem] theorem ty3_10 : zrT Tryd.prog 3 = some [(.int .i64 0)] := by kernel_rfl
@[go_sem] theorem ty4_0 : szT Tryd.prog 4 = some 1 := by kernel_rfl
@[go_sem] theorem ty4_1 : btT Tryd.prog 4 = some 1 := by kernel_rfl
@[go_sem] theorem ty4_2 : aggT Tryd.prog 4 = some false := by kernel_rfl
@[go_sem] theorem ty4_6 : isBl Tryd.prog 4 = true := by kernel_rfl
@[go_sem] theorem ty4_10 : zrT Tryd.prog 4 = some [(.bool false)] := by kernel_rfl
@[go_sem] theorem ty5_0 : szT Tryd.prog 5 = some 1 := by kernel_rfl
@[go_sem] theorem ty5_2 : aggT Tryd.prog 5 = some false := by kernel_rfl
@[go_sem] theorem ty5_6 : isBl Tryd.prog 5 = false := by kernel_rfl
@[go_sem] theorem ty9_0 : szT Tryd.prog 9 = some 1 := by kernel_rfl
@[go_sem] theorem ty9_2 : aggT Tryd.prog 9 = some false := by kernel_rfl
@[go_sem] theorem ty9_4 : isStr Tryd.prog 9 = true := by kernel_rfl
@[go_sem] theorem ty9_5 : isSl Tryd.prog 9 = false := by kernel_rfl
@[go_sem] theorem ty9_6 : isBl Tryd.prog 9 = false := by kernel_rfl
@[go_sem] theorem ty9_7 : ikT Tryd.prog 9 = none := by kernel_rfl
@[go_sem] theorem ty21_0 : szT Tryd.prog 21 = some 1 := by kernel_rfl
@[go_sem] theorem ty21_2 : aggT Tryd.prog 21 = some false := by kernel_rfl
@[go_sem] theorem ty21_6 : isBl Tryd.prog 21 = false := by kernel_rfl
@[go_sem] theorem ty21_7 : ikT Tryd.prog 21 = some .i32 := by kernel_rfl
@[go_sem] theorem ty21_8 : isTy Tryd.prog 21 = true := by kernel_rfl
@[go_sem] theorem ty22_0 : szT Tryd.prog 22 = some 1 := by kernel_rfl
@[go_sem] theorem ty22_2 : aggT Tryd.prog 22 = some false := by kernel_rfl
@[go_sem] theorem ty22_6 : isBl Tryd.prog 22 = false := by kernel_rfl
@[go_sem] theorem ty23_0 : szT Tryd.prog 23 = some 1 := by kernel_rfl
@[go_sem] theorem ty23_2 : aggT Tryd.prog 23 = some false := by kernel_rfl
@[go_sem] theorem ty23_3 : elT Tryd.prog 23 = some 36 := by kernel_rfl
@[go_sem] theorem ty23_4 : isStr Tryd.prog 23 = false := by kernel_rfl
@[go_sem] theorem ty23_5 : isSl Tryd.prog 23 = true := by kernel_rfl
@[go_sem] theorem ty25_0 : szT Tryd.prog 25 = some 2 := by kernel_rfl
@[go_sem] theorem ty25_1 : btT Tryd.prog 25 = some 32 := by kernel_rfl
@[go_sem] theorem ty25_2 : aggT Tryd.prog 25 = some true := by kernel_rfl
@[go_sem] theorem ty25_10 : zrT Tryd.prog 25 = some [(.int .u8 0), (.slice none 0 0)] := by kernel_rfl
@[go_sem] theorem ty25_11 : plT Tryd.prog 25 = some [(0, 1), (1, 1)] := by kernel_rfl
@[go_sem] theorem ty25_12 : fdT Tryd.prog 25 0 = some (0, 22) := by kernel_rfl
@[go_sem] theorem ty25_13 : fdT Tryd.prog 25 1 = some (1, 23) := by kernel_rfl
@[go_sem] theorem ty27_6 : isBl Tryd.prog 27 = false := by kernel_rfl
@[go_sem] theorem ty30_0 : szT Tryd.prog 30 = some 1 := by kernel_rfl
@[go_sem] theorem ty30_2 : aggT Tryd.prog 30 = some false := by kernel_rfl
@[go_sem] theorem ty30_3 : elT Tryd.prog 30 = some 55 := by kernel_rfl
@[go_sem] theorem ty30_4 : isStr Tryd.prog 30 = false := by kernel_rfl
@[go_sem] theorem ty30_5 : isSl Tryd.prog 30 = true := by kernel_rfl
@[go_sem] theorem ty33_3 : elT Tryd.prog 33 = some 25 := by kernel_rfl
@[go_sem] theorem ty33_4 : isStr Tryd.prog 33 = false := by kernel_rfl
@[go_sem] theorem ty33_5 : isSl Tryd.prog 33 = true := by kernel_rfl
@[go_sem] theorem ty34_0 : szT Tryd.prog 34 = some 1 := by kernel_rfl
@[go_sem] theorem ty34_2 : aggT Tryd.prog 34 = some false := by kernel_rfl
@[go_sem] theorem ty34_3 : elT Tryd.prog 34 = some 61 := by kernel_rfl
@[go_sem] theorem ty34_4 : isStr Tryd.prog 34 = false := by kernel_rfl
@[go_sem] theorem ty34_5 : isSl Tryd.prog 34 = true := by kernel_rfl
@[go_sem] theorem ty34_6 : isBl Tryd.prog 34 = false := by kernel_rfl
@[go_sem] theorem ty36_0 : szT Tryd.prog 36 = some 5 := by kernel_rfl
@[go_sem] theorem ty36_1 : btT Tryd.prog 36 = some 104 := by kernel_rfl
@[go_sem] theorem ty36_2 : aggT Tryd.prog 36 = some true := by kernel_rfl
@[go_sem] theorem ty36_10 : zrT Tryd.prog 36 = some [(.slice none 0 0), (.string ByteArray.empty), (.string ByteArray.empty), (.slice none 0 0), (.slice none 0 0)] := by kernel_rfl
@[go_sem] theorem ty36_11 : plT Tryd.prog 36 = some [(0, 1), (1, 1), (2, 1), (3, 1), (4, 1)] := by kernel_rfl
@[go_sem] theorem ty36_12 : fdT Tryd.prog 36 0 = some (0, 34) := by kernel_rfl
@[go_sem] theorem ty36_13 : fdT Tryd.prog 36 1 = some (1, 9) := by kernel_rfl
@[go_sem] theorem ty36_14 : fdT Tryd.prog 36 2 = some (2, 9) := by kernel_rfl
@[go_sem] theorem ty36_15 : fdT Tryd.prog 36 3 = some (3, 34) := by kernel_rfl
@[go_sem] theorem ty36_16 : fdT Tryd.prog 36 4 = some (4, 30) := by kernel_rfl
@[go_sem] theorem ty39_0 : szT Tryd.prog 39 = some 1 := by kernel_rfl
@[go_sem] theorem ty39_2 : aggT Tryd.prog 39 = some false := by kernel_rfl
@[go_sem] theorem ty39_3 : elT Tryd.prog 39 = some 4 := by kernel_rfl
@[go_sem] theorem ty39_4 : isStr Tryd.prog 39 = false := by kernel_rfl
@[go_sem] theorem ty39_5 : isSl Tryd.prog 39 = true := by kernel_rfl
@[go_sem] theorem ty42_0 : szT Tryd.prog 42 = some 1 := by kernel_rfl
@[go_sem] theorem ty42_1 : btT Tryd.prog 42 = some 8 := by kernel_rfl
@[go_sem] theorem ty42_2 : aggT Tryd.prog 42 = some false := by kernel_rfl
@[go_sem] theorem ty42_6 : isBl Tryd.prog 42 = false := by kernel_rfl
@[go_sem] theorem ty42_7 : ikT Tryd.prog 42 = some .u64 := by kernel_rfl
@[go_sem] theorem ty42_10 : zrT Tryd.prog 42 = some [(.int .u64 0)] := by kernel_rfl
@[go_sem] theorem ty43_0 : szT Tryd.prog 43 = some 1 := by kernel_rfl
@[go_sem] theorem ty43_2 : aggT Tryd.prog 43 = some false := by kernel_rfl
@[go_sem] theorem ty43_6 : isBl Tryd.prog 43 = false := by kernel_rfl
@[go_sem] theorem ty44_0 : szT Tryd.prog 44 = some 1 := by kernel_rfl
@[go_sem] theorem ty44_1 : btT Tryd.prog 44 = some 8 := by kernel_rfl
@[go_sem] theorem ty44_2 : aggT Tryd.prog 44 = some false := by kernel_rfl
@[go_sem] theorem ty44_6 : isBl Tryd.prog 44 = false := by kernel_rfl
@[go_sem] theorem ty44_10 : zrT Tryd.prog 44 = some [(.float .f64 0)] := by kernel_rfl
@[go_sem] theorem ty45_0 : szT Tryd.prog 45 = some 1 := by kernel_rfl
@[go_sem] theorem ty45_2 : aggT Tryd.prog 45 = some false := by kernel_rfl
@[go_sem] theorem ty45_3 : elT Tryd.prog 45 = some 47 := by kernel_rfl
@[go_sem] theorem ty45_4 : isStr Tryd.prog 45 = false := by kernel_rfl
@[go_sem] theorem ty45_5 : isSl Tryd.prog 45 = true := by kernel_rfl
@[go_sem] theorem ty45_6 : isBl Tryd.prog 45 = false := by kernel_rfl
@[go_sem] theorem ty47_0 : szT Tryd.prog 47 = some 7 := by kernel_rfl
@[go_sem] theorem ty47_1 : btT Tryd.prog 47 = some 96 := by kernel_rfl
@[go_sem] theorem ty47_2 : aggT Tryd.prog 47 = some true := by kernel_rfl
@[go_sem] theorem ty47_10 : zrT Tryd.prog 47 = some [(.int .u8 0), (.string ByteArray.empty), (.bool false), (.int .i64 0), (.float .f64 0), (.slice none 0 0), (.slice none 0 0)] := by kernel_rfl
@[go_sem] theorem ty47_11 : plT Tryd.prog 47 = some [(0, 1), (1, 1), (2, 1), (3, 1), (4, 1), (5, 1), (6, 1)] := by kernel_rfl
@[go_sem] theorem ty47_12 : fdT Tryd.prog 47 0 = some (0, 43) := by kernel_rfl
@[go_sem] theorem ty47_13 : fdT Tryd.prog 47 1 = some (1, 9) := by kernel_rfl
@[go_sem] theorem ty47_14 : fdT Tryd.prog 47 2 = some (2, 4) := by kernel_rfl
@[go_sem] theorem ty47_15 : fdT Tryd.prog 47 3 = some (3, 2) := by kernel_rfl
@[go_sem] theorem ty47_16 : fdT Tryd.prog 47 4 = some (4, 44) := by kernel_rfl
@[go_sem] theorem ty47_17 : fdT Tryd.prog 47 5 = some (5, 45) := by kernel_rfl
@[go_sem] theorem ty47_18 : fdT Tryd.prog 47 6 = some (6, 34) := by kernel_rfl
@[go_sem] theorem ty48_0 : szT Tryd.prog 48 = some 1 := by kernel_rfl
@[go_sem] theorem ty48_2 : aggT Tryd.prog 48 = some false := by kernel_rfl
@[go_sem] theorem ty48_6 : isBl Tryd.prog 48 = false := by kernel_rfl
@[go_sem] theorem ty49_0 : szT Tryd.prog 49 = some 1 := by kernel_rfl
@[go_sem] theorem ty49_2 : aggT Tryd.prog 49 = some false := by kernel_rfl
@[go_sem] theorem ty49_3 : elT Tryd.prog 49 = some 44 := by kernel_rfl
@[go_sem] theorem ty49_4 : isStr Tryd.prog 49 = false := by kernel_rfl
@[go_sem] theorem ty49_5 : isSl Tryd.prog 49 = true := by kernel_rfl
@[go_sem] theorem ty49_6 : isBl Tryd.prog 49 = false := by kernel_rfl
@[go_sem] theorem ty50_0 : szT Tryd.prog 50 = some 1 := by kernel_rfl
@[go_sem] theorem ty50_2 : aggT Tryd.prog 50 = some false := by kernel_rfl
@[go_sem] theorem ty50_3 : elT Tryd.prog 50 = some 42 := by kernel_rfl
@[go_sem] theorem ty50_4 : isStr Tryd.prog 50 = false := by kernel_rfl
@[go_sem] theorem ty50_5 : isSl Tryd.prog 50 = true := by kernel_rfl
@[go_sem] theorem ty50_6 : isBl Tryd.prog 50 = false := by kernel_rfl
@[go_sem] theorem ty51_0 : szT Tryd.prog 51 = some 1 := by kernel_rfl
@[go_sem] theorem ty51_2 : aggT Tryd.prog 51 = some false := by kernel_rfl
@[go_sem] theorem ty51_3 : elT Tryd.prog 51 = some 85 := by kernel_rfl
@[go_sem] theorem ty51_4 : isStr Tryd.prog 51 = false := by kernel_rfl
@[go_sem] theorem ty51_5 : isSl Tryd.prog 51 = true := by kernel_rfl
@[go_sem] theorem ty51_6 : isBl Tryd.prog 51 = false := by kernel_rfl
@[go_sem] theorem ty53_0 : szT Tryd.prog 53 = some 14 := by kernel_rfl
@[go_sem] theorem ty53_2 : aggT Tryd.prog 53 = some true := by kernel_rfl
@[go_sem] theorem ty53_10 : zrT Tryd.prog 53 = some [(.int .u8 0), (.int .i64 0), (.float .f64 0), (.int .u64 0), (.float .f64 0), (.bool false), (.slice none 0 0), (.slice none 0 0), (.int .i32 0), (.int .u64 0), (.int .i32 0), (.int .i32 0), (.slice none 0 0), (.slice none 0 0)] := by kernel_rfl
@[go_sem] theorem ty53_11 : plT Tryd.prog 53 = some [(0, 1), (1, 1), (2, 1), (3, 1), (4, 1), (5, 1), (6, 1), (7, 1), (8, 1), (9, 1), (10, 1), (11, 1), (12, 1), (13, 1)] := by kernel_rfl
@[go_sem] theorem ty53_12 : fdT Tryd.prog 53 0 = some (0, 48) := by kernel_rfl
@[go_sem] theorem ty53_13 : fdT Tryd.prog 53 1 = some (1, 2) := by kernel_rfl
@[go_sem] theorem ty53_14 : fdT Tryd.prog 53 2 = some (2, 44) := by kernel_rfl
@[go_sem] theorem ty53_15 : fdT Tryd.prog 53 3 = some (3, 42) := by kernel_rfl
@[go_sem] theorem ty53_16 : fdT Tryd.prog 53 4 = some (4, 44) := by kernel_rfl
@[go_sem] theorem ty53_17 : fdT Tryd.prog 53 5 = some (5, 4) := by kernel_rfl
@[go_sem] theorem ty53_18 : fdT Tryd.prog 53 6 = some (6, 49) := by kernel_rfl
@[go_sem] theorem ty53_19 : fdT Tryd.prog 53 7 = some (7, 50) := by kernel_rfl
@[go_sem] theorem ty53_20 : fdT Tryd.prog 53 8 = some (8, 21) := by kernel_rfl
@[go_sem] theorem ty53_21 : fdT Tryd.prog 53 9 = some (9, 42) := by kernel_rfl
@[go_sem] theorem ty53_22 : fdT Tryd.prog 53 10 = some (10, 21) := by kernel_rfl
@[go_sem] theorem ty53_23 : fdT Tryd.prog 53 11 = some (11, 21) := by kernel_rfl
@[go_sem] theorem ty53_24 : fdT Tryd.prog 53 12 = some (12, 50) := by kernel_rfl
@[go_sem] theorem ty53_25 : fdT Tryd.prog 53 13 = some (13, 51) := by kernel_rfl
@[go_sem] theorem ty55_0 : szT Tryd.prog 55 = some 34 := by kernel_rfl
@[go_sem] theorem ty55_1 : btT Tryd.prog 55 = some 416 := by kernel_rfl
@[go_sem] theorem ty55_2 : aggT Tryd.prog 55 = some true := by kernel_rfl
@[go_sem] theorem ty55_10 : zrT Tryd.prog 55 = some [(.string ByteArray.empty), (.string ByteArray.empty), (.int .i32 0), (.int .u8 0), (.bool false), (.int .u64 0), (.int .u64 0), (.string ByteArray.empty), (.string ByteArray.empty), (.string ByteArray.empty), (.int .u8 0), (.string ByteArray.empty), (.slice none 0 0), (.int .u8 0), (.string ByteArray.empty), (.bool false), (.int .i64 0), (.float .f64 0), (.slice none 0 0), (.slice none 0 0), (.int .u8 0), (.int .i64 0), (.float .f64 0), (.int .u64 0), (.float .f64 0), (.bool false), (.slice none 0 0), (.slice none 0 0), (.int .i32 0), (.int .u64 0), (.int .i32 0), (.int .i32 0), (.slice none 0 0), (.slice none 0 0)] := by kernel_rfl
@[go_sem] theorem ty55_11 : plT Tryd.prog 55 = some [(0, 1), (1, 1), (2, 1), (3, 1), (4, 1), (5, 1), (6, 1), (7, 1), (8, 1), (9, 1), (10, 1), (11, 1), (12, 1), (13, 7), (20, 14)] := by kernel_rfl
@[go_sem] theorem ty55_12 : fdT Tryd.prog 55 0 = some (0, 9) := by kernel_rfl
@[go_sem] theorem ty55_13 : fdT Tryd.prog 55 1 = some (1, 9) := by kernel_rfl
@[go_sem] theorem ty55_14 : fdT Tryd.prog 55 2 = some (2, 21) := by kernel_rfl
@[go_sem] theorem ty55_15 : fdT Tryd.prog 55 3 = some (3, 5) := by kernel_rfl
@[go_sem] theorem ty55_16 : fdT Tryd.prog 55 4 = some (4, 4) := by kernel_rfl
@[go_sem] theorem ty55_17 : fdT Tryd.prog 55 5 = some (5, 42) := by kernel_rfl
@[go_sem] theorem ty55_18 : fdT Tryd.prog 55 6 = some (6, 42) := by kernel_rfl
@[go_sem] theorem ty55_19 : fdT Tryd.prog 55 7 = some (7, 9) := by kernel_rfl
@[go_sem] theorem ty55_20 : fdT Tryd.prog 55 8 = some (8, 9) := by kernel_rfl
@[go_sem] theorem ty55_21 : fdT Tryd.prog 55 9 = some (9, 9) := by kernel_rfl
@[go_sem] theorem ty55_22 : fdT Tryd.prog 55 10 = some (10, 5) := by kernel_rfl
@[go_sem] theorem ty55_23 : fdT Tryd.prog 55 11 = some (11, 9) := by kernel_rfl
@[go_sem] theorem ty55_24 : fdT Tryd.prog 55 12 = some (12, 34) := by kernel_rfl
@[go_sem] theorem ty55_25 : fdT Tryd.prog 55 13 = some (13, 47) := by kernel_rfl
@[go_sem] theorem ty55_26 : fdT Tryd.prog 55 14 = some (20, 53) := by kernel_rfl
@[go_sem] theorem ty61_0 : szT Tryd.prog 61 = some 8 := by kernel_rfl
@[go_sem] theorem ty61_1 : btT Tryd.prog 61 = some 112 := by kernel_rfl
@[go_sem] theorem ty61_2 : aggT Tryd.prog 61 = some true := by kernel_rfl
@[go_sem] theorem ty61_10 : zrT Tryd.prog 61 = some [(.string ByteArray.empty), (.int .u8 0), (.string ByteArray.empty), (.bool false), (.int .i64 0), (.float .f64 0), (.slice none 0 0), (.slice none 0 0)] := by kernel_rfl
@[go_sem] theorem ty61_11 : plT Tryd.prog 61 = some [(0, 1), (1, 7)] := by kernel_rfl
@[go_sem] theorem ty61_12 : fdT Tryd.prog 61 0 = some (0, 9) := by kernel_rfl
@[go_sem] theorem ty61_13 : fdT Tryd.prog 61 1 = some (1, 47) := by kernel_rfl
@[go_sem] theorem ty85_0 : szT Tryd.prog 85 = some 2 := by kernel_rfl
@[go_sem] theorem ty85_1 : btT Tryd.prog 85 = some 16 := by kernel_rfl
@[go_sem] theorem ty85_2 : aggT Tryd.prog 85 = some true := by kernel_rfl
@[go_sem] theorem ty85_10 : zrT Tryd.prog 85 = some [(.float .f64 0), (.float .f64 0)] := by kernel_rfl
@[go_sem] theorem ty85_12 : fdT Tryd.prog 85 0 = some (0, 44) := by kernel_rfl
@[go_sem] theorem ty85_13 : fdT Tryd.prog 85 1 = some (1, 44) := by kernel_rfl
@[go_sem] theorem mp_117 : smT Tryd.prog 117 = some (.int .i64 0) := by kernel_rfl
theorem ky_117 {s : ByteArray} (hs : s.size ≤ 140737488355328) : keyB Tryd.prog 117 (.string s) = true := keyB_str (kt := 9) (et := 3) (by kernel_rfl) (by kernel_rfl) hs
@[go_sem] theorem bf_9 : bitsFn Tryd.prog 9 = none := by kernel_rfl
@[go_sem] theorem cb_9 : callable Tryd.prog 9 = true := by kernel_rfl
@[go_sem] theorem bf_10 : bitsFn Tryd.prog 10 = none := by kernel_rfl
@[go_sem] theorem cb_10 : callable Tryd.prog 10 = true := by kernel_rfl
@[go_sem] theorem bf_11 : bitsFn Tryd.prog 11 = none := by kernel_rfl
@[go_sem] theorem cb_11 : callable Tryd.prog 11 = true := by kernel_rfl
@[go_sem] theorem bf_12 : bitsFn Tryd.prog 12 = none := by kernel_rfl
@[go_sem] theorem cb_12 : callable Tryd.prog 12 = true := by kernel_rfl
@[go_sem] theorem bf_13 : bitsFn Tryd.prog 13 = none := by kernel_rfl
@[go_sem] theorem cb_13 : callable Tryd.prog 13 = true := by kernel_rfl
@[go_sem] theorem bf_14 : bitsFn Tryd.prog 14 = none := by kernel_rfl
@[go_sem] theorem cb_14 : callable Tryd.prog 14 = true := by kernel_rfl
@[go_sem] theorem bf_15 : bitsFn Tryd.prog 15 = none := by kernel_rfl
@[go_sem] theorem cb_15 : callable Tryd.prog 15 = true := by kernel_rfl
@[go_sem] theorem bf_17 : bitsFn Tryd.prog 17 = none := by kernel_rfl
@[go_sem] theorem cb_17 : callable Tryd.prog 17 = true := by kernel_rfl
@[go_sem] theorem bf_18 : bitsFn Tryd.prog 18 = none := by kernel_rfl
@[go_sem] theorem cb_18 : callable Tryd.prog 18 = true := by kernel_rfl
@[go_sem] theorem bf_19 : bitsFn Tryd.prog 19 = none := by kernel_rfl
@[go_sem] theorem cb_19 : callable Tryd.prog 19 = true := by kernel_rfl
@[go_sem] theorem bf_20 : bitsFn Tryd.prog 20 = none := by kernel_rfl
@[go_sem] theorem cb_20 : callable Tryd.prog 20 = true := by kernel_rfl
@[go_sem] theorem bf_21 : bitsFn Tryd.prog 21 = none := by kernel_rfl
@[go_sem] theorem cb_21 : callable Tryd.prog 21 = true := by kernel_rfl
@[go_sem] theorem bf_22 : bitsFn Tryd.prog 22 = none := by kernel_rfl
@[go_sem] theorem cb_22 : callable Tryd.prog 22 = true := by kernel_rfl
@[go_sem] theorem bf_23 : bitsFn Tryd.prog 23 = none := by kernel_rfl
@[go_sem] theorem cb_23 : callable Tryd.prog 23 = true := by kernel_rfl
@[go_sem] theorem bf_24 : bitsFn Tryd.prog 24 = none := by kernel_rfl
@[go_sem] theorem cb_24 : callable Tryd.prog 24 = true := by kernel_rfl
@[go_sem] theorem bf_25 : bitsFn Tryd.prog 25 = none := by kernel_rfl
@[go_sem] theorem cb_25 : callable Tryd.prog 25 = true := by kernel_rfl
@[go_sem] theorem cb_26 : callable Tryd.prog 26 = true := by kernel_rfl
@[go_sem] theorem bf_27 : bitsFn Tryd.prog 27 = none := by kernel_rfl
@[go_sem] theorem cb_27 : callable Tryd.prog 27 = true := by kernel_rfl
@[go_sem] theorem bf_28 : bitsFn Tryd.prog 28 = none := by kernel_rfl
@[go_sem] theorem cb_28 : callable Tryd.prog 28 = true := by kernel_rfl
@[go_sem] theorem bf_29 : bitsFn Tryd.prog 29 = none := by kernel_rfl
@[go_sem] theorem cb_29 : callable Tryd.prog 29 = true := by kernel_rfl
@[go_sem] theorem cb_30 : callable Tryd.prog 30 = true := by kernel_rfl
@[go_sem] theorem cb_31 : callable Tryd.prog 31 = true := by kernel_rfl
@[go_sem] theorem bf_32 : bitsFn Tryd.prog 32 = none := by kernel_rfl
@[go_sem] theorem cb_32 : callable Tryd.prog 32 = true := by kernel_rfl
@[go_sem] theorem cb_33 : callable Tryd.prog 33 = true := by kernel_rfl
@[go_sem] theorem cb_34 : callable Tryd.prog 34 = true := by kernel_rfl
@[go_sem] theorem bf_35 : bitsFn Tryd.prog 35 = none := by kernel_rfl
@[go_sem] theorem cb_35 : callable Tryd.prog 35 = true := by kernel_rfl
@[go_sem] theorem cb_37 : callable Tryd.prog 37 = true := by kernel_rfl
@[go_sem] theorem bf_38 : bitsFn Tryd.prog 38 = none := by kernel_rfl
@[go_sem] theorem cb_38 : callable Tryd.prog 38 = true := by kernel_rfl
@[go_sem] theorem bf_39 : bitsFn Tryd.prog 39 = none := by kernel_rfl
@[go_sem] theorem cb_39 : callable Tryd.prog 39 = true := by kernel_rfl
@[go_sem] theorem bf_40 : bitsFn Tryd.prog 40 = none := by kernel_rfl
@[go_sem] theorem cb_40 : callable Tryd.prog 40 = true := by kernel_rfl
@[go_sem] theorem bf_41 : bitsFn Tryd.prog 41 = none := by kernel_rfl
@[go_sem] theorem cb_41 : callable Tryd.prog 41 = true := by kernel_rfl
@[go_sem] theorem bf_42 : bitsFn Tryd.prog 42 = none := by kernel_rfl
@[go_sem] theorem cb_42 : callable Tryd.prog 42 = true := by kernel_rfl
@[go_sem] theorem bf_43 : bitsFn Tryd.prog 43 = none := by kernel_rfl
@[go_sem] theorem cb_43 : callable Tryd.prog 43 = true := by kernel_rfl
@[go_sem] theorem bf_44 : bitsFn Tryd.prog 44 = none := by kernel_rfl
@[go_sem] theorem cb_44 : callable Tryd.prog 44 = true := by kernel_rfl
@[go_sem] theorem bf_45 : bitsFn Tryd.prog 45 = none := by kernel_rfl
@[go_sem] theorem cb_45 : callable Tryd.prog 45 = true := by kernel_rfl
@[go_sem] theorem bf_46 : bitsFn Tryd.prog 46 = none := by kernel_rfl
@[go_sem] theorem cb_46 : callable Tryd.prog 46 = true := by kernel_rfl
@[go_sem] theorem bf_48 : bitsFn Tryd.prog 48 = none := by kernel_rfl
@[go_sem] theorem cb_48 : callable Tryd.prog 48 = true := by kernel_rfl
@[go_sem] theorem bf_49 : bitsFn Tryd.prog 49 = none := by kernel_rfl
@[go_sem] theorem cb_49 : callable Tryd.prog 49 = true := by kernel_rfl
@[go_sem] theorem bf_50 : bitsFn Tryd.prog 50 = none := by kernel_rfl
@[go_sem] theorem cb_50 : callable Tryd.prog 50 = true := by kernel_rfl
@[go_sem] theorem bf_51 : bitsFn Tryd.prog 51 = none := by kernel_rfl
@[go_sem] theorem cb_51 : callable Tryd.prog 51 = true := by kernel_rfl
@[go_sem] theorem bf_52 : bitsFn Tryd.prog 52 = none := by kernel_rfl
@[go_sem] theorem cb_52 : callable Tryd.prog 52 = true := by kernel_rfl
@[go_sem] theorem bf_53 : bitsFn Tryd.prog 53 = none := by kernel_rfl
@[go_sem] theorem cb_53 : callable Tryd.prog 53 = true := by kernel_rfl
@[go_sem] theorem bf_54 : bitsFn Tryd.prog 54 = none := by kernel_rfl
@[go_sem] theorem cb_54 : callable Tryd.prog 54 = true := by kernel_rfl
@[go_sem] theorem bf_56 : bitsFn Tryd.prog 56 = none := by kernel_rfl
@[go_sem] theorem cb_56 : callable Tryd.prog 56 = true := by kernel_rfl
@[go_sem] theorem cb_57 : callable Tryd.prog 57 = true := by kernel_rfl
@[go_sem] theorem bf_58 : bitsFn Tryd.prog 58 = none := by kernel_rfl
@[go_sem] theorem cb_58 : callable Tryd.prog 58 = true := by kernel_rfl
@[go_sem] theorem bf_59 : bitsFn Tryd.prog 59 = none := by kernel_rfl
@[go_sem] theorem cb_59 : callable Tryd.prog 59 = true := by kernel_rfl
@[go_sem] theorem cb_60 : callable Tryd.prog 60 = true := by kernel_rfl
@[go_sem] theorem bf_61 : bitsFn Tryd.prog 61 = none := by kernel_rfl
@[go_sem] theorem cb_61 : callable Tryd.prog 61 = true := by kernel_rfl
@[go_sem] theorem bf_62 : bitsFn Tryd.prog 62 = none := by kernel_rfl
@[go_sem] theorem cb_62 : callable Tryd.prog 62 = true := by kernel_rfl
@[go_sem] theorem bf_63 : bitsFn Tryd.prog 63 = none := by kernel_rfl
@[go_sem] theorem cb_63 : callable Tryd.prog 63 = true := by kernel_rfl
@[go_sem] theorem cb_64 : callable Tryd.prog 64 = true := by kernel_rfl
@[go_sem] theorem bf_65 : bitsFn Tryd.prog 65 = none := by kernel_rfl
@[go_sem] theorem cb_65 : callable Tryd.prog 65 = true := by kernel_rfl
@[go_sem] theorem bf_66 : bitsFn Tryd.prog 66 = none := by kernel_rfl
@[go_sem] theorem cb_66 : callable Tryd.prog 66 = true := by kernel_rfl
@[go_sem] theorem bf_67 : bitsFn Tryd.prog 67 = none := by kernel_rfl
@[go_sem] theorem cb_67 : callable Tryd.prog 67 = true := by kernel_rfl
@[go_sem] theorem bf_68 : bitsFn Tryd.prog 68 = some true := by kernel_rfl
@[go_sem] theorem bf_69 : bitsFn Tryd.prog 69 = none := by kernel_rfl
@[go_sem] theorem cb_69 : callable Tryd.prog 69 = true := by kernel_rfl
@[go_sem] theorem cb_70 : callable Tryd.prog 70 = true := by kernel_rfl
@[go_sem] theorem bf_71 : bitsFn Tryd.prog 71 = none := by kernel_rfl
@[go_sem] theorem cb_71 : callable Tryd.prog 71 = true := by kernel_rfl
@[go_sem] theorem bf_72 : bitsFn Tryd.prog 72 = none := by kernel_rfl
@[go_sem] theorem cb_72 : callable Tryd.prog 72 = true := by kernel_rfl
@[go_sem] theorem bf_73 : bitsFn Tryd.prog 73 = none := by kernel_rfl
@[go_sem] theorem cb_73 : callable Tryd.prog 73 = true := by kernel_rfl
@[go_sem] theorem bf_74 : bitsFn Tryd.prog 74 = none := by kernel_rfl
@[go_sem] theorem cb_74 : callable Tryd.prog 74 = true := by kernel_rfl
@[go_sem] theorem bf_75 : bitsFn Tryd.prog 75 = none := by kernel_rfl
@[go_sem] theorem cb_75 : callable Tryd.prog 75 = true := by kernel_rfl
@[go_sem] theorem bf_76 : bitsFn Tryd.prog 76 = none := by kernel_rfl
@[go_sem] theorem cb_76 : callable Tryd.prog 76 = true := by kernel_rfl
@[go_sem] theorem bf_77 : bitsFn Tryd.prog 77 = none := by kernel_rfl
@[go_sem] theorem cb_77 : callable Tryd.prog 77 = true := by kernel_rfl
@[go_sem] theorem bf_78 : bitsFn Tryd.prog 78 = none := by kernel_rfl
@[go_sem] theorem cb_78 : callable Tryd.prog 78 = true := by kernel_rfl
@[go_sem] theorem bf_79 : bitsFn Tryd.prog 79 = none := by kernel_rfl
@[go_sem] theorem cb_79 : callable Tryd.prog 79 = true := by kernel_rfl
@[go_sem] theorem bf_80 : bitsFn Tryd.prog 80 = none := by kernel_rfl
@[go_sem] theorem cb_80 : callable Tryd.prog 80 = true := by kernel_rfl
@[go_sem] theorem bf_81 : bitsFn Tryd.prog 81 = none := by kernel_rfl
@[go_sem] theorem cb_81 : callable Tryd.prog 81 = true := by kernel_rfl
@[go_sem] theorem bf_82 : bitsFn Tryd.prog 82 = none := by kernel_rfl
@[go_sem] theorem cb_82 : callable Tryd.prog 82 = true := by kernel_rfl
@[go_sem] theorem bf_84 : bitsFn Tryd.prog 84 = none := by kernel_rfl
@[go_sem] theorem cb_84 : callable Tryd.prog 84 = true := by kernel_rfl
@[go_sem] theorem bf_85 : bitsFn Tryd.prog 85 = none := by kernel_rfl
@[go_sem] theorem cb_85 : callable Tryd.prog 85 = true := by kernel_rfl
@[go_sem] theorem cb_86 : callable Tryd.prog 86 = true := by kernel_rfl
@[go_sem] theorem bf_87 : bitsFn Tryd.prog 87 = none := by kernel_rfl
@[go_sem] theorem cb_87 : callable Tryd.prog 87 = true := by kernel_rfl
@[go_sem] theorem bf_88 : bitsFn Tryd.prog 88 = none := by kernel_rfl
@[go_sem] theorem cb_88 : callable Tryd.prog 88 = true := by kernel_rfl
@[go_sem] theorem bf_89 : bitsFn Tryd.prog 89 = none := by kernel_rfl
@[go_sem] theorem cb_89 : callable Tryd.prog 89 = true := by kernel_rfl
@[go_sem] theorem bf_90 : bitsFn Tryd.prog 90 = none := by kernel_rfl
@[go_sem] theorem cb_90 : callable Tryd.prog 90 = true := by kernel_rfl
@[go_sem] theorem bf_91 : bitsFn Tryd.prog 91 = none := by kernel_rfl
@[go_sem] theorem cb_91 : callable Tryd.prog 91 = true := by kernel_rfl
@[go_sem] theorem bf_92 : bitsFn Tryd.prog 92 = none := by kernel_rfl
@[go_sem] theorem cb_92 : callable Tryd.prog 92 = true := by kernel_rfl
@[go_sem] theorem bf_93 : bitsFn Tryd.prog 93 = none := by kernel_rfl
@[go_sem] theorem cb_93 : callable Tryd.prog 93 = true := by kernel_rfl
@[go_sem] theorem bf_94 : bitsFn Tryd.prog 94 = none := by kernel_rfl
@[go_sem] theorem cb_94 : callable Tryd.prog 94 = true := by kernel_rfl
@[go_sem] theorem bf_95 : bitsFn Tryd.prog 95 = none := by kernel_rfl
@[go_sem] theorem cb_95 : callable Tryd.prog 95 = true := by kernel_rfl
@[go_sem] theorem bf_96 : bitsFn Tryd.prog 96 = none := by kernel_rfl
@[go_sem] theorem cb_96 : callable Tryd.prog 96 = true := by kernel_rfl
@[go_sem] theorem bf_97 : bitsFn Tryd.prog 97 = none := by kernel_rfl
@[go_sem] theorem cb_97 : callable Tryd.prog 97 = true := by kernel_rfl
@[go_sem] theorem bf_98 : bitsFn Tryd.prog 98 = none := by kernel_rfl
@[go_sem] theorem cb_98 : callable Tryd.prog 98 = true := by kernel_rfl
@[go_sem] theorem cb_99 : callable Tryd.prog 99 = true := by kernel_rfl
@[go_sem] theorem bf_100 : bitsFn Tryd.prog 100 = none := by kernel_rfl
@[go_sem] theorem cb_100 : callable Tryd.prog 100 = true := by kernel_rfl
theorem mixedO : Tryd.prog.follows .mixedOrders = true := by kernel_rfl
end Go.Proofs.YtfbegbpipmgfiaaDoor.Lift
end
