/- Joined from Lfk, Lfl, Lfm, Lfn, Lfo, Lfp, Lfq, Lfr, Lfs, Lft, Lfu, Lt, Lva, Lvc, Lvd, Lca, Lfy, Lvq, Lvs, Lvt, Lvu, Lvv. No conditions. -/
import Derived.Test.YtbgfiflnfndckaaDoorJ0
import Derived.Deep.AppendSrc
import Derived.Lib.ConvBytes
import Derived.Laws.BytesArg
import Derived.Laws.MakeOwn
import Derived.Test.YtbgfiflnfndckaaDoorProg
import Derived.Lib.Hide
import Derived.SizedLaws
import Derived.ChangeArms
import Derived.WideShapes
import Derived.Deep.Slices
import Derived.Lib.SmallJoins
import Derived.Test.YtbgfiflnfndckaaDoorShv
section
/- The lift, eleventh part: a call that is handed boxes. No conditions: words and their laws. -/
set_option linter.unusedVariables false
set_option linter.unusedSimpArgs false
namespace Go.Proofs.YtbgfiflnfndckaaDoor.Lift
open Go Go.RowKit

section
variable {P : Program} {W0 : World} {n : Nat}

mutual
/-- Boxes by other numbers. -/
def renA (σ : Nat → Nat) : AV → AV
  | .ptr b j => .ptr (σ b) j
  | .ep b sz i j => .ep (σ b) sz i j
  | .sl b sz lo n => .sl (σ b) sz lo n
  | .fn f l => .fn f (renL σ l)
  | .agg l => .agg (renL σ l)
  | .tup l => .tup (renL σ l)
  | .opt g x => .opt g (renA σ x)
  | .mref b => .mref (σ b)
  | x => x
def renL (σ : Nat → Nat) : List AV → List AV
  | [] => []
  | x :: l => renA σ x :: renL σ l
end
def renB (σ : Nat → Nat) : Box → Box
  | .var cs => .var (renL σ cs)
  | .own sz bt cs => .own sz bt (renL σ cs)
  | x => x
theorem renL_len (σ : Nat → Nat) : ∀ l : List AV, (renL σ l).length = l.length
  | [] => rfl
  | x :: l => by simp only [renL, List.length_cons, renL_len σ l]
mutual
theorem RA.ren {M : Nat → Prop} {m m' : Nat → Pl} {w : World} {σ : Nat → Nat} (hm : ∀ b, m (σ b) ≠ .no → m' b = m (σ b)) : ∀ (x : AV) (u : Value), RA M m w (renA σ x) u → RA M m' w x u
  | .d x, u, h => by simpa only [renA, RA] using h
  | .dp ds, u, h => by simpa only [renA, RA] using h
  | .ptr b j, u, h => by
    simp only [renA, RA] at h ⊢
    obtain ⟨k, h1, h2⟩ := h
    exact ⟨k, (hm b (by simp [h1])).trans h1, h2⟩
  | .ep b sz i j, u, h => by
    simp only [renA, RA] at h ⊢
    obtain ⟨k, h1, h2⟩ := h
    exact ⟨k, (hm b (by simp [h1])).trans h1, h2⟩
  | .sl b sz lo n, u, h => by
    simp only [renA, RA] at h ⊢
    rcases h with ⟨h1, h2, h3, h4⟩ | ⟨k, cap, C, T, h1, h2⟩
    · exact .inl ⟨h1, h2, (hm b (by simp [h3])).trans h3, h4⟩
    · exact .inr ⟨k, cap, C, T, (hm b (by simp [h1])).trans h1, h2⟩
  | .fn f l, u, h => by
    simp only [renA, RA] at h ⊢
    obtain ⟨us, h1, h2⟩ := h
    exact ⟨us, h1, RAs.ren hm _ _ h2⟩
  | .agg l, u, h => by
    simp only [renA, RA] at h ⊢
    obtain ⟨us, h1, h2⟩ := h
    exact ⟨us, h1, RAs.ren hm _ _ h2⟩
  | .tup l, u, h => by
    simp only [renA, RA] at h ⊢
    obtain ⟨us, h1, h2⟩ := h
    exact ⟨us, h1, RAs.ren hm _ _ h2⟩
  | .opt g x, u, h => by
    simp only [renA, RA] at h ⊢
    exact ⟨fun hg => RA.ren hm x u (h.1 hg), h.2⟩
  | .mref b, u, h => by
    simp only [renA, RA] at h ⊢
    obtain ⟨k, h1, h2⟩ := h
    exact ⟨k, (hm b (by simp [h1])).trans h1, h2⟩
  | .junk, u, h => by simp only [RA]
theorem RAs.ren {M : Nat → Prop} {m m' : Nat → Pl} {w : World} {σ : Nat → Nat} (hm : ∀ b, m (σ b) ≠ .no → m' b = m (σ b)) : ∀ (l : List AV) (us : List Value), RAs M m w (renL σ l) us → RAs M m' w l us
  | [], [], h => by simp only [RAs]
  | x :: l, u :: us, h => by
    simp only [renL, RAs] at h ⊢
    exact ⟨RA.ren hm x u h.1, RAs.ren hm l us h.2⟩
  | [], _ :: _, h => by simp only [renL, RAs] at h
  | _ :: _, [], h => by simp only [renL, RAs] at h
end
mutual
theorem RA.back {M : Nat → Prop} {m m' : Nat → Pl} {w : World} {σ : Nat → Nat} (hm : ∀ b, m' b ≠ .no → m (σ b) = m' b) : ∀ (x : AV) (u : Value), RA M m' w x u → RA M m w (renA σ x) u
  | .d x, u, h => by simpa only [renA, RA] using h
  | .dp ds, u, h => by simpa only [renA, RA] using h
  | .ptr b j, u, h => by
    simp only [renA, RA] at h ⊢
    obtain ⟨k, h1, h2⟩ := h
    exact ⟨k, (hm b (by simp [h1])).trans h1, h2⟩
  | .ep b sz i j, u, h => by
    simp only [renA, RA] at h ⊢
    obtain ⟨k, h1, h2⟩ := h
    exact ⟨k, (hm b (by simp [h1])).trans h1, h2⟩
  | .sl b sz lo n, u, h => by
    simp only [renA, RA] at h ⊢
    rcases h with ⟨h1, h2, h3, h4⟩ | ⟨k, cap, C, T, h1, h2⟩
    · exact .inl ⟨h1, h2, (hm b (by simp [h3])).trans h3, h4⟩
    · exact .inr ⟨k, cap, C, T, (hm b (by simp [h1])).trans h1, h2⟩
  | .fn f l, u, h => by
    simp only [renA, RA] at h ⊢
    obtain ⟨us, h1, h2⟩ := h
    exact ⟨us, h1, RAs.back hm _ _ h2⟩
  | .agg l, u, h => by
    simp only [renA, RA] at h ⊢
    obtain ⟨us, h1, h2⟩ := h
    exact ⟨us, h1, RAs.back hm _ _ h2⟩
  | .tup l, u, h => by
    simp only [renA, RA] at h ⊢
    obtain ⟨us, h1, h2⟩ := h
    exact ⟨us, h1, RAs.back hm _ _ h2⟩
  | .opt g x, u, h => by
    simp only [renA, RA] at h ⊢
    exact ⟨fun hg => RA.back hm x u (h.1 hg), h.2⟩
  | .mref b, u, h => by
    simp only [renA, RA] at h ⊢
    obtain ⟨k, h1, h2⟩ := h
    exact ⟨k, (hm b (by simp [h1])).trans h1, h2⟩
  | .junk, u, h => by simp only [renA, RA]
theorem RAs.back {M : Nat → Prop} {m m' : Nat → Pl} {w : World} {σ : Nat → Nat} (hm : ∀ b, m' b ≠ .no → m (σ b) = m' b) : ∀ (l : List AV) (us : List Value), RAs M m' w l us → RAs M m w (renL σ l) us
  | [], [], h => by simp only [renL, RAs]
  | x :: l, u :: us, h => by
    simp only [renL, RAs] at h ⊢
    exact ⟨RA.back hm x u h.1, RAs.back hm l us h.2⟩
  | [], _ :: _, h => by simp only [RAs] at h
  | _ :: _, [], h => by simp only [RAs] at h
end

mutual
/-- Some boxes are no more what they were. -/
def killP (p : Nat → Bool) : AV → AV
  | .ptr b j => if p b = true then .junk else .ptr b j
  | .ep b sz i j => if p b = true then .junk else .ep b sz i j
  | .sl b sz lo n => if p b = true then .junk else .sl b sz lo n
  | .fn f l => .fn f (killPL p l)
  | .agg l => .agg (killPL p l)
  | .tup l => .tup (killPL p l)
  | .opt g x => .opt g (killP p x)
  | .mref b => if p b = true then .junk else .mref b
  | x => x
def killPL (p : Nat → Bool) : List AV → List AV
  | [] => []
  | x :: l => killP p x :: killPL p l
end
mutual
theorem RA.killP {M : Nat → Prop} {m m' : Nat → Pl} {w : World} {p : Nat → Bool} (hm : ∀ b, p b ≠ true → m b ≠ .no → m' b = m b) : ∀ (x : AV) (u : Value), RA M m w x u → RA M m' w (Lift.killP p x) u
  | .d x, u, h => by simpa only [Lift.killP, RA] using h
  | .dp ds, u, h => by simpa only [Lift.killP, RA] using h
  | .ptr b j, u, h => by
    simp only [Lift.killP]
    split
    · simp only [RA]
    · rename_i e
      simp only [RA] at h ⊢
      obtain ⟨k, h1, h2⟩ := h
      exact ⟨k, (hm b e (by simp [h1])).trans h1, h2⟩
  | .ep b sz i j, u, h => by
    simp only [Lift.killP]
    split
    · simp only [RA]
    · rename_i e
      simp only [RA] at h ⊢
      obtain ⟨k, h1, h2⟩ := h
      exact ⟨k, (hm b e (by simp [h1])).trans h1, h2⟩
  | .sl b sz lo n, u, h => by
    simp only [Lift.killP]
    split
    · simp only [RA]
    · rename_i e
      simp only [RA] at h ⊢
      rcases h with ⟨h1, h2, h3, h4⟩ | ⟨k, cap, C, T, h1, h2⟩
      · exact .inl ⟨h1, h2, (hm b e (by simp [h3])).trans h3, h4⟩
      · exact .inr ⟨k, cap, C, T, (hm b e (by simp [h1])).trans h1, h2⟩
  | .fn f l, u, h => by
    simp only [Lift.killP, RA] at h ⊢
    obtain ⟨us, h1, h2⟩ := h
    exact ⟨us, h1, RAs.killP hm _ _ h2⟩
  | .agg l, u, h => by
    simp only [Lift.killP, RA] at h ⊢
    obtain ⟨us, h1, h2⟩ := h
    exact ⟨us, h1, RAs.killP hm _ _ h2⟩
  | .tup l, u, h => by
    simp only [Lift.killP, RA] at h ⊢
    obtain ⟨us, h1, h2⟩ := h
    exact ⟨us, h1, RAs.killP hm _ _ h2⟩
  | .opt g x, u, h => by
    simp only [Lift.killP, RA] at h ⊢
    exact ⟨fun hg => RA.killP hm x u (h.1 hg), h.2⟩
  | .mref b, u, h => by
    simp only [Lift.killP]
    split
    · simp only [RA]
    · rename_i e
      simp only [RA] at h ⊢
      obtain ⟨k, h1, h2⟩ := h
      exact ⟨k, (hm b e (by simp [h1])).trans h1, h2⟩
  | .junk, u, h => by simp only [Lift.killP, RA]
theorem RAs.killP {M : Nat → Prop} {m m' : Nat → Pl} {w : World} {p : Nat → Bool} (hm : ∀ b, p b ≠ true → m b ≠ .no → m' b = m b) : ∀ (l : List AV) (us : List Value), RAs M m w l us → RAs M m' w (killPL p l) us
  | [], [], h => by simp only [killPL, RAs]
  | x :: l, u :: us, h => by
    simp only [killPL, RAs] at h ⊢
    exact ⟨RA.killP hm x u h.1, RAs.killP hm l us h.2⟩
  | [], _ :: _, h => by simp only [RAs] at h
  | _ :: _, [], h => by simp only [RAs] at h
end
def killPE (p : Nat → Bool) (e : List (List (Option AV))) : List (List (Option AV)) := mapE (killP p) e
def killPB (p : Nat → Bool) : Box → Box
  | .var cs => .var (killPL p cs)
  | .own sz bt cs => .own sz bt (killPL p cs)
  | x => x
theorem killPL_len (p : Nat → Bool) : ∀ l : List AV, (killPL p l).length = l.length
  | [] => rfl
  | x :: l => by simp only [killPL, List.length_cons, killPL_len p l]
theorem lk_killPE {p : Nat → Bool} {l : List (List (Option AV))} {t : Nat} {x : AV} (h : lk (killPE p l) t = some x) : ∃ y, lk l t = some y ∧ x = killP p y := by
  rw [killPE, lk_mapE, Option.map_eq_some_iff] at h
  obtain ⟨y, h1, h2⟩ := h
  exact ⟨y, h1, h2.symm⟩

/-- The callee's numbers as the caller's: first those that it was handed, then new ones. -/
def sg (sel : List Nat) (k i : Nat) : Nat := match sel[i]? with | some b => b | none => k + (i - sel.length)
def setAll (bs : List Box) : List Nat → List Box → List Box
  | b :: sel, x :: L => setAll (bs.set b x) sel L
  | _, _ => bs
theorem setAll_len : ∀ (sel : List Nat) (L bs : List Box), (setAll bs sel L).length = bs.length
  | [], _, _ => by simp [setAll]
  | _ :: _, [], _ => by simp [setAll]
  | b :: sel, x :: L, bs => by simp [setAll, setAll_len sel L]
theorem setAll_get : ∀ (sel : List Nat) (L bs : List Box) (b : Nat), sel.Nodup → (∀ b ∈ sel, b < bs.length) → sel.length ≤ L.length →
    (∀ i : Nat, sel[i]? = some b → (setAll bs sel L)[b]? = L[i]?) ∧ (b ∉ sel → (setAll bs sel L)[b]? = bs[b]?)
  | [], L, bs, b, _, _, _ => ⟨fun i h => by simp at h, fun _ => by simp [setAll]⟩
  | c :: sel, [], bs, b, _, _, h => by simp at h
  | c :: sel, x :: L, bs, b, hn, hlt, hl => by
    simp only [List.nodup_cons] at hn
    obtain ⟨h1, h2⟩ := setAll_get sel L (bs.set c x) b hn.2 (fun b hb => by simpa using hlt b (by simp [hb])) (by simpa using hl)
    refine ⟨fun i hi => ?_, fun hb => ?_⟩
    · cases i with
      | zero =>
        simp only [List.getElem?_cons_zero, Option.some.injEq] at hi
        subst hi
        simp only [setAll, List.getElem?_cons_zero]
        rw [h2 hn.1, List.getElem?_set_self (hlt c (by simp))]
      | succ i =>
        simp only [List.getElem?_cons_succ] at hi ⊢
        exact h1 i hi
    · simp only [List.mem_cons, not_or] at hb
      simp only [setAll]
      rw [h2 hb.2, List.getElem?_set_ne (Ne.symm hb.1)]
def isVar : Box → Bool
  | .var _ => true
  | _ => false
/-- The boxes that were handed and may lie elsewhere now. -/
def moved : List Nat → List Box → List Box → Nat → Bool
  | b :: sel, x :: L, y :: L', c => (b == c && !(isVar x && isVar y)) || moved sel L L' c
  | _, _, _, _ => false
theorem moved_get : ∀ {sel : List Nat} {L L' : List Box} {c i : Nat}, sel[i]? = some c → moved sel L L' c ≠ true → ∀ {x y : Box}, L[i]? = some x → L'[i]? = some y → isVar x = true ∧ isVar y = true
  | [], L, L', c, i, h, _, _, _, _, _ => by simp at h
  | b :: sel, [], L', c, i, h, _, x, y, hx, _ => by simp at hx
  | b :: sel, x' :: L, [], c, i, h, _, x, y, _, hy => by simp at hy
  | b :: sel, x' :: L, y' :: L', c, 0, h, hm, x, y, hx, hy => by
    simp only [List.getElem?_cons_zero, Option.some.injEq] at h hx hy
    subst h
    subst hx
    subst hy
    simp only [moved, beq_self_eq_true, Bool.true_and, ne_eq, Bool.or_eq_true, not_or, Bool.not_eq_true', Bool.not_eq_false] at hm
    simpa using hm.1
  | b :: sel, x' :: L, y' :: L', c, i + 1, h, hm, x, y, hx, hy => by
    simp only [List.getElem?_cons_succ] at h hx hy
    simp only [moved, ne_eq, Bool.or_eq_true, not_or] at hm
    exact moved_get h hm.2 hx hy
/-- A box that is a variable behind the call was one ahead of it. -/
def kindsOk : List Box → List Box → Bool
  | x :: L, y :: L' => (!isVar y || isVar x) && kindsOk L L'
  | _, _ => true
theorem kindsOk_get : ∀ {L L' : List Box} {i : Nat} {x y : Box}, kindsOk L L' = true → L[i]? = some x → L'[i]? = some y → isVar y = true → isVar x = true
  | [], _, _, _, _, _, hx, _, _ => by simp at hx
  | _ :: _, [], _, _, _, _, _, hy, _ => by simp at hy
  | x' :: L, y' :: L', 0, x, y, h, hx, hy, hv => by
    simp only [List.getElem?_cons_zero, Option.some.injEq] at hx hy
    subst hx
    subst hy
    simp only [kindsOk, hv, Bool.not_true, Bool.false_or, Bool.and_eq_true] at h
    exact h.1
  | x' :: L, y' :: L', i + 1, x, y, h, hx, hy, hv => by
    simp only [List.getElem?_cons_succ] at hx hy
    simp only [kindsOk, Bool.and_eq_true] at h
    exact kindsOk_get h.2 hx hy hv

/-- The state behind such a call. -/
def St.aft (st : St) (sel : List Nat) (L L' : List Box) : St :=
  ⟨st.N, killPE (moved sel L L') st.env, setAll (st.bs.map (killPB (moved sel L L'))) sel (L'.map (renB (sg sel st.bs.length))) ++ (L'.drop sel.length).map (renB (sg sel st.bs.length))⟩

theorem sg_lt {sel : List Nat} {k i b : Nat} (h : sel[i]? = some b) : sg sel k i = b := by simp [sg, h]
theorem sg_ge {sel : List Nat} {k i : Nat} (h : sel.length ≤ i) : sg sel k i = k + (i - sel.length) := by simp [sg, List.getElem?_eq_none h]

theorem C.calleeB {E : En} {M : Nat → Prop} {m : Nat → Pl} {st : St} {a : Act} {w : World} (h : C W0 E M m st a w) {sel : List Nat} {L : List Box} (hn : sel.Nodup) (hlen : L.length = sel.length) (hL : ∀ (i b : Nat), sel[i]? = some b → st.bs[b]? = (L[i]?).map (renB (sg sel st.bs.length))) :
    C W0 ⟨w, M, fun i => m (sg sel st.bs.length i), L.length⟩ M (fun i => m (sg sel st.bs.length i)) ⟨0, [], L⟩ nobody w where
  base := h.base
  fr := Fr.refl _ _
  eLt := h.mLt
  mLow := h.mLow
  mUp := fun _ x => x
  mNew := fun _ x => .inl x
  mLt := h.mLt
  mNo := fun b hb => by
    simp only at hb
    simp only [sg_ge (k := st.bs.length) (show sel.length ≤ b by omega)]
    exact h.mNo _ (by omega)
  mIn := fun b k hb => h.mIn _ k hb
  inj := fun b b' k hb hb' => by
    have key : ∀ c, m (sg sel st.bs.length c) = .at_ k → ∃ d, sel[c]? = some d ∧ m d = .at_ k := fun c hc => by
      rcases Nat.lt_or_ge c sel.length with h1 | h1
      · exact ⟨sel[c], List.getElem?_eq_getElem h1, by rwa [sg_lt (List.getElem?_eq_getElem h1)] at hc⟩
      · rw [sg_ge h1, h.mNo _ (by omega)] at hc
        cases hc
    obtain ⟨d, h1, h2⟩ := key b hb
    obtain ⟨d', h3, h4⟩ := key b' hb'
    have hd := h.inj d d' k h2 h4
    subst hd
    obtain ⟨q1, e1⟩ := List.getElem?_eq_some_iff.1 h1
    obtain ⟨q2, e2⟩ := List.getElem?_eq_some_iff.1 h3
    exact (List.getElem_inj (xs := sel) hn).1 (e1.trans e2.symm)
  oldv := fun b cs hb hc => rfl
  oldr := fun b k hb hk => .inl hk
  new := fun b k hb hk => by
    simp only at hb hk
    rw [sg_ge (show sel.length ≤ b by omega), h.mNo _ (by omega)] at hk
    cases hk
  len := Nat.le_refl _
  box := fun i x hx => by
    have hi : i < L.length := (List.getElem?_eq_some_iff.1 hx).1
    have hb : sel[i]? = some sel[i] := List.getElem?_eq_getElem (by omega)
    have h1 := hL i _ hb
    rw [hx, Option.map_some] at h1
    have h2 := h.box _ _ h1
    cases x with
    | dead => trivial
    | var cs =>
      obtain ⟨k, Cs, T, h3, h4, h5⟩ := h2
      exact ⟨k, Cs, T, by simp only [sg_lt hb]; exact h3, h4, RAs.ren (σ := sg sel st.bs.length) (fun b _ => rfl) _ _ h5⟩
    | vec sz bt l =>
      obtain ⟨g0, g1, g2, g3⟩ := h2
      refine ⟨g0, g1, g2, ?_⟩
      simp only [sg_lt hb]
      exact g3
    | mp es =>
      obtain ⟨k, F, c, h3, h4⟩ := h2
      exact ⟨k, F, c, by simp only [sg_lt hb]; exact h3, h4⟩
    | own sz bt cs =>
      obtain ⟨g0, g1, g2, g3⟩ := h2
      refine ⟨g0, g1, by simpa only [renL_len] using g2, ?_⟩
      simp only [sg_lt hb]
      rcases g3 with ⟨h4, h5⟩ | ⟨q, Cs, T, h4, h5, h6, h7⟩
      · exact .inl ⟨h4, List.eq_nil_of_length_eq_zero (by rw [← renL_len (sg sel st.bs.length), h5]; rfl)⟩
      · rw [renL_len] at h6 h7
        exact .inr ⟨q, Cs, T, h4, h5, h6, RAs.ren (σ := sg sel st.bs.length) (fun b _ => rfl) _ _ h7⟩
  env := fun t x hx => by simp [lk_nil] at hx
  wide := rfl
  defers := rfl

theorem C.aftB {E : En} {M M' : Nat → Prop} {m mc : Nat → Pl} {st : St} {a : Act} {w w' : World} (h : C W0 E M m st a w) {sel : List Nat} {L L' : List Box} (hn : sel.Nodup) (hlen : L.length = sel.length) (hL : ∀ (i b : Nat), sel[i]? = some b → st.bs[b]? = (L[i]?).map (renB (sg sel st.bs.length)))
    (h' : C W0 ⟨w, M, fun i => m (sg sel st.bs.length i), L.length⟩ M' mc ⟨0, [], L'⟩ nobody w') (hk : kindsOk L L' = true) :
    ∃ m', C W0 E M' m' (st.aft sel L L') a w' ∧ ∀ x u, RA M' mc w' x u → RA M' m' w' (renA (sg sel st.bs.length) x) u := by
  have hlt : ∀ b ∈ sel, b < st.bs.length := fun b hb => by
    obtain ⟨i, hi⟩ := List.mem_iff_getElem?.1 hb
    have h1 := hL i b hi
    have h2 : i < L.length := by rw [hlen]; exact (List.getElem?_eq_some_iff.1 hi).1
    rw [List.getElem?_eq_getElem h2] at h1
    exact (List.getElem?_eq_some_iff.1 h1).1
  have hlen' : L.length ≤ L'.length := h'.len
  have idx : ∀ b ∈ sel, ∃ i, sel[i]? = some b ∧ i < sel.length := fun b hb => by
    obtain ⟨i, hi⟩ := List.mem_iff_getElem?.1 hb
    exact ⟨i, hi, (List.getElem?_eq_some_iff.1 hi).1⟩
  -- where the boxes lie now
  let m' : Nat → Pl := fun b => if b < st.bs.length then (match sel.idxOf? b with | some i => mc i | none => m b) else mc (b - st.bs.length + sel.length)
  have m_sel : ∀ i b, sel[i]? = some b → m' b = mc i := fun i b hi => by
    have hb := hlt b (List.mem_of_getElem? hi)
    have : sel.idxOf? b = some i := by
      obtain ⟨q, e⟩ := List.getElem?_eq_some_iff.1 hi
      subst e
      rw [List.idxOf?_eq_some_iff]
      refine ⟨q, by simp, fun j hj => ?_⟩
      have hjq : j < sel.length := by omega
      intro e
      have e' : sel[j] = sel[i] := by simpa using e
      have := (List.getElem_inj (xs := sel) hn).1 e'
      omega
    simp only [m', if_pos hb, this]
  have m_old : ∀ b, b < st.bs.length → b ∉ sel → m' b = m b := fun b hb hs => by
    have : sel.idxOf? b = none := by rw [List.idxOf?_eq_none_iff]; exact hs
    simp only [m', if_pos hb, this]
  have m_new : ∀ b, st.bs.length ≤ b → m' b = mc (b - st.bs.length + sel.length) := fun b hb => by simp only [m', if_neg (Nat.not_lt.2 hb)]
  have m_sg : ∀ i, mc i ≠ .no → m' (sg sel st.bs.length i) = mc i := fun i hi => by
    rcases Nat.lt_or_ge i sel.length with h1 | h1
    · have h2 : sel[i]? = some sel[i] := List.getElem?_eq_getElem h1
      rw [sg_lt h2]
      exact m_sel i _ h2
    · rw [sg_ge h1, m_new _ (by omega)]
      congr 1
      omega
  have cases_ : ∀ b k, m' b = .at_ k → (∃ i, sel[i]? = some b ∧ mc i = .at_ k) ∨ (b < st.bs.length ∧ b ∉ sel ∧ m b = .at_ k) ∨ (st.bs.length ≤ b ∧ mc (b - st.bs.length + sel.length) = .at_ k) := fun b k hb => by
    rcases Nat.lt_or_ge b st.bs.length with h1 | h1
    · by_cases h2 : b ∈ sel
      · obtain ⟨i, hi, _⟩ := idx b h2
        rw [m_sel i b hi] at hb
        exact .inl ⟨i, hi, hb⟩
      · rw [m_old b h1 h2] at hb
        exact .inr (.inl ⟨h1, h2, hb⟩)
    · rw [m_new b h1] at hb
      exact .inr (.inr ⟨h1, hb⟩)
  let ES : Nat → Prop := fun k => ∃ b, b < L.length ∧ m (sg sel st.bs.length b) = .at_ k
  have hf : Fr ES w w' := h'.fr
  have ES_M : ∀ k, k < w.heap.size → ES k → M k := fun k _ ⟨b, _, hb⟩ => h.mIn _ k hb
  have ES_sel : ∀ k, ES k → ∃ b ∈ sel, m b = .at_ k := fun k ⟨b, hb, hk⟩ => by
    have h1 : sel[b]? = some sel[b] := List.getElem?_eq_getElem (by omega)
    rw [sg_lt h1] at hk
    exact ⟨_, List.mem_of_getElem? h1, hk⟩
  have hM : ∀ k, k < w.heap.size → M' k → M k := fun k hk hm => (h'.mNew k hm).resolve_right (by simp; omega)
  have far : ∀ b k, b ∉ sel → m b = .at_ k → ¬ ES k := fun b k hb hk he => by
    obtain ⟨c, hc, hck⟩ := ES_sel k he
    exact hb (h.inj b c k hk hck ▸ hc)
  have mc_old : ∀ i k, mc i = .at_ k → (∃ b, sel[i]? = some b ∧ m b = .at_ k) ∨ w.heap.size ≤ k := fun i k hi => by
    rcases Nat.lt_or_ge i L.length with h1 | h1
    · rcases h'.oldr i k h1 hi with h2 | h2
      · have h3 : sel[i]? = some sel[i] := List.getElem?_eq_getElem (by omega)
        simp only [sg_lt h3] at h2
        exact .inl ⟨_, h3, h2⟩
      · exact .inr h2
    · exact .inr (h'.new i k h1 hi)
  have kill : ∀ b, moved sel L L' b ≠ true → m b ≠ .no → m' b = m b := fun b hp hno => by
    have hb : b < st.bs.length := by
      rcases Nat.lt_or_ge b st.bs.length with h1 | h1
      · exact h1
      · exact absurd (h.mNo b h1) hno
    by_cases hs : b ∈ sel
    · obtain ⟨i, hi, hil⟩ := idx b hs
      rw [m_sel i b hi]
      have hx : L[i]? = some L[i] := List.getElem?_eq_getElem (by omega)
      have hy : L'[i]? = some L'[i] := List.getElem?_eq_getElem (by omega)
      obtain ⟨_, hv⟩ := moved_get hi hp hx hy
      cases hyv : L'[i] with
      | var cs =>
        have := h'.oldv i cs (show i < L.length by omega) (by simp only; rw [hy, hyv])
        simp only [sg_lt hi] at this
        exact this
      | dead => rw [hyv] at hv; cases hv
      | vec sz bt l => rw [hyv] at hv; cases hv
      | mp es => rw [hyv] at hv; cases hv
      | own sz bt cs => rw [hyv] at hv; cases hv
    · exact m_old b hb hs
  have getb : ∀ (b : Nat) (y : Box), (st.aft sel L L').bs[b]? = some y → (∃ i z, sel[i]? = some b ∧ L'[i]? = some z ∧ y = renB (sg sel st.bs.length) z) ∨ (∃ z, b < st.bs.length ∧ b ∉ sel ∧ st.bs[b]? = some z ∧ y = killPB (moved sel L L') z) ∨
      (∃ z, st.bs.length ≤ b ∧ L'[b - st.bs.length + sel.length]? = some z ∧ y = renB (sg sel st.bs.length) z) := fun b y hy => by
    simp only [St.aft] at hy
    have hl : (setAll (st.bs.map (killPB (moved sel L L'))) sel (L'.map (renB (sg sel st.bs.length)))).length = st.bs.length := by rw [setAll_len, List.length_map]
    obtain ⟨g1, g2⟩ := setAll_get sel (L'.map (renB (sg sel st.bs.length))) (st.bs.map (killPB (moved sel L L'))) b hn (fun b hb => by simpa using hlt b hb) (by simp; omega)
    rcases Nat.lt_or_ge b st.bs.length with h1 | h1
    · rw [List.getElem?_append_left (by omega)] at hy
      by_cases hs : b ∈ sel
      · obtain ⟨i, hi, _⟩ := idx b hs
        rw [g1 i hi, List.getElem?_map] at hy
        cases hz : L'[i]? with
        | none => simp [hz] at hy
        | some z =>
          simp only [hz, Option.map_some, Option.some.injEq] at hy
          exact .inl ⟨i, z, hi, hz, hy.symm⟩
      · rw [g2 hs, List.getElem?_map] at hy
        cases hz : st.bs[b]? with
        | none => simp [hz] at hy
        | some z =>
          simp only [hz, Option.map_some, Option.some.injEq] at hy
          exact .inr (.inl ⟨z, h1, hs, rfl, hy.symm⟩)
    · rw [List.getElem?_append_right (by omega), hl, List.getElem?_map, List.getElem?_drop] at hy
      rw [show b - st.bs.length + sel.length = sel.length + (b - st.bs.length) by omega]
      cases hz : L'[sel.length + (b - st.bs.length)]? with
      | none => simp [hz] at hy
      | some z =>
        simp only [hz, Option.map_some, Option.some.injEq] at hy
        exact .inr (.inr ⟨z, h1, rfl, hy.symm⟩)
  have boxren : ∀ (i b : Nat) (z : Box), m' b = mc i → BoxR M' mc w' i z → BoxR M' m' w' b (renB (sg sel st.bs.length) z) := fun i b z hb hz => by
    cases z with
    | dead => trivial
    | var cs =>
      obtain ⟨k, Cs, T, h3, h4, h5⟩ := hz
      exact ⟨k, Cs, T, hb.trans h3, h4, RAs.back m_sg _ _ h5⟩
    | vec sz bt l =>
      obtain ⟨g0, g1, g2, g3⟩ := hz
      refine ⟨g0, g1, g2, ?_⟩
      rw [hb]
      exact g3
    | mp es =>
      obtain ⟨k, F, c, h3, h4⟩ := hz
      exact ⟨k, F, c, hb.trans h3, h4⟩
    | own sz bt cs =>
      obtain ⟨g0, g1, g2, g3⟩ := hz
      refine ⟨g0, g1, by simpa only [renL_len] using g2, ?_⟩
      rw [hb]
      rcases g3 with ⟨h4, h5⟩ | ⟨q, Cs, T, h4, h5, h6, h7⟩
      · exact .inl ⟨h4, by rw [h5]; rfl⟩
      · refine .inr ⟨q, Cs, T, h4, h5, by simpa only [renL_len] using h6, ?_⟩
        rw [renL_len]
        exact RAs.back m_sg _ _ h7
  refine ⟨m', {
    base := h'.base
    fr := ?_
    eLt := h.eLt
    mLow := h'.mLow
    mUp := fun k hk => h'.mUp k (h.mUp k hk)
    mNew := fun k hk => (h'.mNew k hk).elim (h.mNew k) fun hw => .inr (Nat.le_trans h.fr.size hw)
    mLt := h'.mLt
    mNo := ?_
    mIn := ?_
    inj := ?_
    oldv := ?_
    oldr := ?_
    new := ?_
    len := ?_
    box := ?_
    env := ?_
    wide := h.wide
    defers := h.defers }, fun x u hx => RA.back m_sg x u hx⟩
  · refine ⟨hf.os.trans h.fr.os, hf.tape.trans h.fr.tape, hf.output.trans h.fr.output, Nat.le_trans h.fr.size hf.size, fun i hi he => ?_, fun i D t hi => ?_⟩
    · refine (hf.block i (Nat.lt_of_lt_of_le hi h.fr.size) fun e => ?_).trans (h.fr.block i hi he)
      obtain ⟨b, _, hb⟩ := ES_sel i e
      rcases h.own hb with h1 | h1
      · exact he h1
      · omega
    · obtain ⟨D', h1, h2⟩ := h.fr.keep i D t hi
      obtain ⟨D'', h3, h4⟩ := hf.keep i D' t h1
      exact ⟨D'', h3, h4.trans h2⟩
  · intro b hb
    simp only [St.aft, List.length_append, setAll_len, List.length_map, List.length_drop] at hb
    rw [m_new b (by omega)]
    exact h'.mNo _ (by simp only; omega)
  · intro b k hb
    rcases cases_ b k hb with ⟨i, _, h1⟩ | ⟨_, _, h1⟩ | ⟨_, h1⟩
    · exact h'.mIn i k h1
    · exact h'.mUp k (h.mIn b k h1)
    · exact h'.mIn _ k h1
  · intro b b' k hb hb'
    have cross : ∀ b b', (∃ i, mc i = .at_ k ∧ ∀ c, sel[i]? = some c → c = b) → (b' < st.bs.length ∧ b' ∉ sel ∧ m b' = .at_ k) → False := fun b b' ⟨i, hi, _⟩ ⟨h1, h2, h3⟩ => by
      rcases mc_old i k hi with ⟨c, hc, hck⟩ | hw
      · exact h2 (h.inj b' c k h3 hck ▸ List.mem_of_getElem? hc)
      · have := h.mLt k (h.mIn b' k h3)
        omega
    rcases cases_ b k hb with ⟨i, h1, h1'⟩ | h1 | ⟨h1, h1'⟩ <;> rcases cases_ b' k hb' with ⟨j, h2, h2'⟩ | h2 | ⟨h2, h2'⟩
    · have := h'.inj i j k h1' h2'
      subst this
      rw [h1] at h2
      cases h2
      rfl
    · exact (cross b b' ⟨i, h1', fun c hc => by rw [h1] at hc; cases hc; rfl⟩ h2).elim
    · have e := h'.inj i _ k h1' h2'
      have := (List.getElem?_eq_some_iff.1 h1).1
      omega
    · exact (cross b' b ⟨j, h2', fun c hc => by rw [h2] at hc; cases hc; rfl⟩ h1).elim
    · exact h.inj b b' k h1.2.2 h2.2.2
    · exact (cross b' b ⟨_, h2', fun c hc => by have := (List.getElem?_eq_some_iff.1 hc).1; omega⟩ h1).elim
    · have e := h'.inj _ j k h1' h2'
      have := (List.getElem?_eq_some_iff.1 h2).1
      omega
    · exact (cross b b' ⟨_, h1', fun c hc => by have := (List.getElem?_eq_some_iff.1 hc).1; omega⟩ h2).elim
    · have e := h'.inj _ _ k h1' h2'
      omega
  · intro b cs hb hc
    have hbl : b < st.bs.length := Nat.lt_of_lt_of_le hb h.len
    rcases getb b _ hc with ⟨i, z, hi, hz, e⟩ | ⟨z, _, hs, hz, e⟩ | ⟨z, hz, _⟩
    · have hil : i < L.length := by have := (List.getElem?_eq_some_iff.1 hi).1; omega
      have hzv : isVar z = true := by cases z <;> simp only [renB] at e <;> first | (cases e; done) | rfl
      have hx : L[i]? = some L[i] := List.getElem?_eq_getElem hil
      have hxv := kindsOk_get hk hx hz hzv
      rw [m_sel i b hi]
      have h1 := hL i b hi
      rw [hx, Option.map_some] at h1
      cases hLi : L[i] with
      | var cs0 =>
        rw [hLi] at h1
        have h2 := h.oldv b _ hb h1
        cases z with
        | var zs =>
          have h3 := h'.oldv i zs hil hz
          simp only [sg_lt hi] at h3
          exact h3.trans h2
        | dead => cases hzv
        | vec => cases hzv
        | mp => cases hzv
        | own => cases hzv
      | dead => rw [hLi] at hxv; cases hxv
      | vec => rw [hLi] at hxv; cases hxv
      | mp => rw [hLi] at hxv; cases hxv
      | own => rw [hLi] at hxv; cases hxv
    · rw [m_old b hbl hs]
      cases z <;> simp only [killPB] at e <;> first
        | (cases e; done)
        | exact h.oldv b _ hb hz
    · omega
  · intro b k hb hbk
    have hbl : b < st.bs.length := Nat.lt_of_lt_of_le hb h.len
    rcases cases_ b k hbk with ⟨i, h1, h1'⟩ | ⟨_, _, h1⟩ | ⟨h1, _⟩
    · rcases mc_old i k h1' with ⟨c, hc, hck⟩ | hw
      · rw [h1] at hc
        cases hc
        exact h.oldr b k hb hck
      · exact .inr (Nat.le_trans h.fr.size hw)
    · exact h.oldr b k hb h1
    · omega
  · intro b k hb hbk
    rcases cases_ b k hbk with ⟨i, h1, h1'⟩ | ⟨_, _, h1⟩ | ⟨_, h1'⟩
    · rcases mc_old i k h1' with ⟨c, hc, hck⟩ | hw
      · rw [h1] at hc
        cases hc
        exact h.new b k hb hck
      · exact Nat.le_trans h.fr.size hw
    · exact h.new b k hb h1
    · rcases mc_old _ k h1' with ⟨c, hc, hck⟩ | hw
      · have := (List.getElem?_eq_some_iff.1 hc).1
        omega
      · exact Nat.le_trans h.fr.size hw
  · have := h.len
    simp only [St.aft, List.length_append, setAll_len, List.length_map]
    omega
  · intro b y hy
    rcases getb b y hy with ⟨i, z, hi, hz, rfl⟩ | ⟨z, hbl, hs, hz, rfl⟩ | ⟨z, hbl, hz, rfl⟩
    · exact boxren i b z (m_sel i b hi) (h'.box i z hz)
    · have h1 := (h.box b z hz).mono hf ES_M hM fun k hk => far b k hs hk
      cases z with
      | dead => trivial
      | var cs =>
        obtain ⟨k, Cs, T, h3, h4, h5⟩ := h1
        exact ⟨k, Cs, T, (m_old b hbl hs).trans h3, h4, RAs.killP kill _ _ h5⟩
      | vec sz bt l =>
        obtain ⟨g0, g1, g2, g3⟩ := h1
        refine ⟨g0, g1, g2, ?_⟩
        rw [m_old b hbl hs]
        exact g3
      | mp es =>
        obtain ⟨k, F, c, h3, h4⟩ := h1
        exact ⟨k, F, c, (m_old b hbl hs).trans h3, h4⟩
      | own sz bt cs =>
        obtain ⟨g0, g1, g2, g3⟩ := h1
        refine ⟨g0, g1, by simpa only [killPL_len] using g2, ?_⟩
        rw [m_old b hbl hs]
        rcases g3 with ⟨h4, h5⟩ | ⟨q, Cs, T, h4, h5, h6, h7⟩
        · exact .inl ⟨h4, by rw [h5]; rfl⟩
        · refine .inr ⟨q, Cs, T, h4, h5, by simpa only [killPL_len] using h6, ?_⟩
          rw [killPL_len]
          exact RAs.killP kill _ _ h7
    · exact boxren _ b z (m_new b hbl) (h'.box _ z hz)
  · intro t x hx
    obtain ⟨y, h1, rfl⟩ := lk_killPE hx
    exact RA.killP kill _ _ (RA.mono hf ES_M hM y _ (h.env t y h1))

/-- A call that is handed some boxes. -/
theorem A_callB {Q : Ax → St → Prop} {st : St} {ops : Array Oper} {o : Oper} {rest : List Oper} {fo : Operand} {args : Array Operand} {ts : Array TypeId} {f : FuncId} {caps xs : List AV} (sel : List Nat) {cargs : List AV} {L : List Box} {R : Res → List Box → Prop} (hcall : ACalls P W0 f cargs L R)
    (hg : o.guard = none) (ho : o.op = .call ⟨.value fo, args, ts⟩) (hf : evo (lk st.env) fo = some (.fn f caps)) (ha : evl (lk st.env) args.toList = some xs) (hc : callable P f = true) (hd : dOk st.N o.dst = true)
    (hn : sel.Nodup) (hlen : L.length = sel.length) (hL : ∀ (i b : Nat), sel[i]? = some b → st.bs[b]? = (L[i]?).map (renB (sg sel st.bs.length))) (hargs : renL (sg sel st.bs.length) cargs = xs ++ caps)
    (h : ∀ r L', R r L' → kindsOk L L' = true ∧ match r with | .ret x => AOps P W0 n ops rest Q ((st.aft sel L L').put o.dst (renA (sg sel st.bs.length) x)) | .panic x => Q (.panic (renA (sg sel st.bs.length) x)) (st.aft sel L L')) : AOps P W0 n ops (o :: rest) Q st := by
  intro E M m a w hE hC
  refine wpList_plain hg fun K hK => ?_
  obtain ⟨us, h1, h2⟩ := run_call (P := P) hC ho hf ha hc
  unfold Oper.wp
  rw [h1, Oper.upon_enter]
  refine (hcall M _ w us (hC.calleeB hn hlen hL) (RAs.ren (σ := sg sel st.bs.length) (fun b _ => rfl) _ _ (by rw [hargs]; exact h2))).mono ?_
  rintro e w' ⟨r, L', M', m', hR, hres, hC'⟩
  obtain ⟨hk, hr⟩ := h r L' hR
  obtain ⟨m'', hC2, hx⟩ := hC.aftB hn hlen hL hC' hk
  cases r with
  | ret x =>
    cases e with
    | returned u => exact hK _ _ (hr E M' m'' _ _ hE (hC2.value (dOk_iff hd) (hx x u hres)))
    | panicked c => exact hres.elim
    | outgrown => exact hres.elim
  | panic x =>
    cases e with
    | returned u => exact hres.elim
    | panicked c =>
      obtain ⟨u, rfl, h3⟩ := hres
      exact ⟨M', m'', _, .panic _, hC2, hr, u, rfl, hx x u h3⟩
    | outgrown => exact hres.elim
end
end Go.Proofs.YtbgfiflnfndckaaDoor.Lift
end
section
/- The lift, twelfth part: quiet regions with their guards' temporaries given; what the simplifier need not look at. No conditions: words and their laws. -/
set_option linter.unusedVariables false
set_option linter.unusedSimpArgs false
namespace Go.Proofs.YtbgfiflnfndckaaDoor.Lift
open Go Go.RowKit

section
variable {P : Program} {W0 : World} {n : Nat}

@[congr] theorem AOps_congr {ops : Array Oper} {l : List Oper} {Q : Ax → St → Prop} {st st' : St} (h : st = st') : AOps P W0 n ops l Q st = AOps P W0 n ops l Q st' := by rw [h]
@[congr] theorem ACode_congr {c : Code} {Q : Ax → St → Prop} {st st' : St} (h : st = st') : ACode P W0 n c Q st = ACode P W0 n c Q st' := by rw [h]
/-- The temporaries that operations' guards are in. -/
def gsl (ops : Array Oper) (l : List Oper) : List (Option (Option Nat × Bool)) := l.map fun o => o.guard.map fun g => ((ops[g.1]?).bind (·.dst), g.2)
def Code.gs : Code → List (List (Option (Option Nat × Bool)))
  | .region _ ops _ => [gsl ops ops.toList]
  | .seq a b => Code.gs a ++ Code.gs b
  | .cond _ a b => Code.gs a ++ Code.gs b
  | .block _ a => Code.gs a
  | .loop a => Code.gs a
  | _ => []
/-- What an operation gives that turns nothing; a slice built, as data. -/
def opW (P : Program) (e : Nat → Option AV) (bs : List Box) (op : Op) : Option AV := match op with | .buildSlice _ _ _ => bsD P e op | _ => opV P e bs op
theorem opW_Q1 {bs : List Box} {e : Nat → Option AV} {o : Oper} {x : AV} (h : opW P e bs o.op = some x) : Q1 P W0 bs e o x := by
  unfold opW at h
  split at h
  · exact .data x h
  · exact .op x h
def stepG (P : Program) (bs : List Box) (env : List (List (Option AV))) (op : Op) : Option (Option Nat × Bool) → Option AV
  | none => opW P (lk env) bs op
  | some (some t, want) => match lk env t with
    | some (.d (.v (.bool b))) => (opW P (resE (if want then b else !b) (lk env)) bs op).map (.opt (if want then b else !b))
    | some (.opt g (.d (.v (.bool b)))) => (opW P (resE (g && (if want then b else !b)) (lk env)) bs op).map (.opt (g && (if want then b else !b)))
    | _ => none
  | some (none, _) => none
def runG (P : Program) (bs : List Box) (K : List Oper → List (Option (Option Nat × Bool)) → List (List (Option AV)) → Prop) : List Oper → List (Option (Option Nat × Bool)) → List (List (Option AV)) → Prop
  | [], gs, env => K [] gs env
  | o :: l, [], env => K (o :: l) [] env
  | o :: l, g :: gs, env => onSome (stepG P bs env o.op g) (fun x => runG P bs K l gs (putL o.dst x env)) (K (o :: l) (g :: gs) env)
def aqg (P : Program) (W0 : World) (bs : List Box) (ops : Array Oper) (K : List (List (Option AV)) → Prop) (l : List Oper) (gs : List (Option (Option Nat × Bool))) (env : List (List (Option AV))) : Prop := gsl ops l = gs → aqs P W0 bs ops K l env
theorem stepG_Yl {bs : List Box} {ops : Array Oper} {env : List (List (Option AV))} {o : Oper} {g : Option (Option Nat × Bool)} {x : AV} (hg : o.guard.map (fun g => ((ops[g.1]?).bind (·.dst), g.2)) = g) (h : stepG P bs env o.op g = some x) : Yl P W0 bs ops (lk env) o x := by
  unfold Yl
  subst hg
  cases hg : o.guard with
  | none =>
    simp only [hg, Option.map_none, stepG] at h ⊢
    exact opW_Q1 h
  | some g =>
    obtain ⟨j, want⟩ := g
    simp only [hg, Option.map_some] at h ⊢
    cases hd : (ops[j]?).bind (·.dst) with
    | none => rw [hd] at h; cases h
    | some t =>
      rw [hd] at h
      simp only [stepG] at h
      split at h
      · rename_i b hb
        simp only [Option.map_eq_some_iff] at h
        obtain ⟨y, h1, rfl⟩ := h
        exact ⟨t, _, y, rfl, (by rw [hb]; rfl), rfl, fun _ => opW_Q1 h1⟩
      · rename_i g b hb
        simp only [Option.map_eq_some_iff] at h
        obtain ⟨y, h1, rfl⟩ := h
        exact ⟨t, _, y, rfl, (by rw [hb]; rfl), rfl, fun _ => opW_Q1 h1⟩
      · cases h
theorem aqg_run {bs : List Box} {ops : Array Oper} {K : List (List (Option AV)) → Prop} : ∀ {l : List Oper} {gs : List (Option (Option Nat × Bool))} {env : List (List (Option AV))}, runG P bs (aqg P W0 bs ops K) l gs env → aqg P W0 bs ops K l gs env
  | [], gs, env, h => h
  | o :: l, [], env, h => h
  | o :: l, g :: gs, env, h => by
    simp only [runG] at h
    cases hs : stepG P bs env o.op g with
    | none =>
      rw [hs] at h
      exact h
    | some x =>
      rw [hs] at h
      intro hg
      simp only [gsl, List.map_cons, List.cons.injEq] at hg
      exact ⟨x, stepG_Yl hg.1 hs, aqg_run h hg.2⟩
theorem aqg_nil {bs : List Box} {ops : Array Oper} {K : List (List (Option AV)) → Prop} {gs : List (Option (Option Nat × Bool))} {env : List (List (Option AV))} (h : K env) : aqg P W0 bs ops K [] gs env := fun _ => h
theorem A_quietG {Q : Ax → St → Prop} {st : St} {id : Nat} {l : List Oper} {gs : List (Option (Option Nat × Bool))} (hm : P.follows .mixedOrders = true) (hB : Region.lexB .any l.toArray = true) (hg : gsl l.toArray l = gs) (hd : l.all (fun o => dOk st.N o.dst) = true)
    (h : aqg P W0 st.bs l.toArray (fun env => Q .normal ⟨st.N, env, st.bs⟩) l gs st.env) : ACode P W0 n (.region id l.toArray true) Q st := A_quiet hm hB hd (h hg)
theorem A_calmG {Q : Ax → St → Prop} {st : St} {id : Nat} {l : List Oper} {gs : List (Option (Option Nat × Bool))} (hg : gsl l.toArray l = gs) (hd : l.all (fun o => dOk st.N o.dst) = true)
    (h : aqg P W0 st.bs l.toArray (fun env => Q .normal ⟨st.N, env, st.bs⟩) l gs st.env) : ACode P W0 n (.region id l.toArray false) Q st := A_calm hd (h hg)
/-- A call of a pure function. -/
theorem aqg_call {bs : List Box} {ops : Array Oper} {K : List (List (Option AV)) → Prop} {o : Oper} {l : List Oper} {gs : List (Option (Option Nat × Bool))} {env : List (List (Option AV))} {fo : Operand} {args : Array Operand} {ts : Array TypeId} {f : FuncId} {caps xs : List AV} {y : AV}
    (hr : APure P W0 f (xs ++ caps) fun r => r = .ret y) (ho : o.op = .call ⟨.value fo, args, ts⟩) (hf : evo (lk env) fo = some (.fn f caps)) (ha : evl (lk env) args.toList = some xs) (hc : callable P f = true)
    (hn : noNames (xs ++ caps) = true) (hy : noName y = true) (h : aqg P W0 bs ops K l gs (putL o.dst y env)) : aqg P W0 bs ops K (o :: l) (none :: gs) env := by
  intro hg
  simp only [gsl, List.map_cons, List.cons.injEq, Option.map_eq_none_iff] at hg
  refine ⟨y, ?_, h hg.2⟩
  unfold Yl
  rw [hg.1]
  exact .call fo args ts f caps xs y ho hf ha hc hn hr hy
theorem aqg_callg0 {bs : List Box} {ops : Array Oper} {K : List (List (Option AV)) → Prop} {o : Oper} {l : List Oper} {gs : List (Option (Option Nat × Bool))} {env : List (List (Option AV))} {fo : Operand} {args : Array Operand} {ts : Array TypeId} {f : FuncId} {xs : List AV} {y : AV} {t : Nat} {want b : Bool}
    (hr : (if want then b else !b) = true → APure P W0 f xs fun r => r = .ret y) (hb : lk env t = some (.d (.v (.bool b)))) (ho : o.op = .call ⟨.value fo, args, ts⟩)
    (hf : (if want then b else !b) = true → evo (resE (if want then b else !b) (lk env)) fo = some (.fn f []) ∧ evl (resE (if want then b else !b) (lk env)) args.toList = some xs) (hc : callable P f = true)
    (hn : noNames xs = true) (hy : noName y = true) (h : aqg P W0 bs ops K l gs (putL o.dst (.opt (if want then b else !b) y) env)) : aqg P W0 bs ops K (o :: l) (some (some t, want) :: gs) env := by
  intro hg
  simp only [gsl, List.map_cons, List.cons.injEq, Option.map_eq_some_iff, Prod.mk.injEq] at hg
  obtain ⟨⟨⟨j, w⟩, h1, h2, h3⟩, h4⟩ := hg
  refine ⟨_, ?_, h h4⟩
  unfold Yl
  rw [h1]
  cases h3
  exact ⟨t, _, y, h2, (by rw [hb]; rfl), rfl, fun hh => .call fo args ts f [] xs y ho (hf hh).1 (hf hh).2 hc (by rw [List.append_nil]; exact hn) (by rw [List.append_nil]; exact hr hh) hy⟩

/-- Rows in data are no longer than memory has room for. -/
inductive DB : D → Prop
  | v (x : Value) : DB (.v x)
  | e : DB .e
  | any : DB .any
  | rows (sz bt : Nat) (l : List (List D)) (h : l.length * bt ≤ 140737488355328) (hs : ∀ row ∈ l, ∀ d ∈ row, DB d) : DB (.rows sz bt l)
theorem RD.db {M : Nat → Prop} {w : World} {d : D} {u : Value} (h : RD M w d u) : DB d := by
  induction h with
  | v x h => exact .v x
  | e A => exact .e
  | any u h => exact .any
  | rows sz bt l A c U hbt hb hc hA hU ih =>
    refine .rows sz bt l hb fun row hr d hd => ?_
    obtain ⟨i, hi⟩ := List.getElem?_of_mem hr
    obtain ⟨j, hj⟩ := List.getElem?_of_mem hd
    exact ih i row j d hi hj
def AB : AV → Prop
  | .d x => DB x
  | .agg l => ∀ d, AV.d d ∈ l → DB d
  | _ => True
theorem RAs.db {M : Nat → Prop} {m : Nat → Pl} {w : World} : ∀ {l : List AV} {us : List Value}, RAs M m w l us → ∀ d, AV.d d ∈ l → DB d
  | [], [], _, _, h => by cases h
  | x :: l, u :: us, h, d, hd => by
    simp only [RAs] at h
    rcases List.mem_cons.1 hd with e | e
    · subst e
      have := h.1
      simp only [RA] at this
      exact this.db
    · exact RAs.db h.2 d e
  | [], _ :: _, h, _, _ => by simp only [RAs] at h
  | _ :: _, [], h, _, _ => by simp only [RAs] at h
theorem RA.ab {M : Nat → Prop} {m : Nat → Pl} {w : World} {x : AV} {u : Value} (h : RA M m w x u) : AB x := by
  cases x <;> simp only [AB]
  · simp only [RA] at h
    exact h.db
  · simp only [RA] at h
    obtain ⟨us, _, h2⟩ := h
    exact fun d hd => h2.db d hd
theorem RAs.ab {M : Nat → Prop} {m : Nat → Pl} {w : World} : ∀ {l : List AV} {us : List Value}, RAs M m w l us → ∀ x ∈ l, AB x
  | [], [], _, _, h => by cases h
  | x :: l, u :: us, h, y, hd => by
    simp only [RAs] at h
    rcases List.mem_cons.1 hd with e | e
    · subst e
      exact h.1.ab
    · exact RAs.ab h.2 y e
  | [], _ :: _, h, _, _ => by simp only [RAs] at h
  | _ :: _, [], h, _, _ => by simp only [RAs] at h
/-- What is known of what is handed. -/
theorem ACalls.known {f : FuncId} {args : List AV} {L : List Box} {R : Res → List Box → Prop} (h : (∀ x ∈ args, AB x) → ACalls P W0 f args L R) : ACalls P W0 f args L R :=
  fun M m w us hc ha => h ha.ab M m w us hc ha
theorem APure.known {f : FuncId} {args : List AV} {R : Res → Prop} (h : (∀ x ∈ args, AB x) → APure P W0 f args R) : APure P W0 f args R := ACalls.known h

/- Not by rfl, so that congruences have a proof to take. -/
theorem stepG_n (bs : List Box) (env : List (List (Option AV))) (op : Op) : stepG P bs env op none = opW P (lk env) bs op := (Eq.refl _).trans rfl
theorem stepG_s (bs : List Box) (env : List (List (Option AV))) (op : Op) (t : Nat) (want : Bool) : stepG P bs env op (some (some t, want)) = match lk env t with
    | some (.d (.v (.bool b))) => (opW P (resE (if want then b else !b) (lk env)) bs op).map (.opt (if want then b else !b))
    | some (.opt g (.d (.v (.bool b)))) => (opW P (resE (g && (if want then b else !b)) (lk env)) bs op).map (.opt (g && (if want then b else !b)))
    | _ => none := (Eq.refl _).trans rfl
theorem putL_s (t : Nat) (x : AV) (env : List (List (Option AV))) : putL (some t) x env = putE env t x := (Eq.refl _).trans rfl
theorem put_s (st : St) (t : Nat) (x : AV) : st.put (some t) x = ⟨st.N, putE st.env t x, st.bs⟩ := (Eq.refl _).trans rfl
theorem put_n (st : St) (x : AV) : st.put none x = st := (Eq.refl _).trans rfl
theorem stepT_ap (st : St) (o : Oper) : stepT P st o = match o.guard with | none => opR P (lk st.env) st.bs o.op | some _ => none := (Eq.refl _).trans rfl
theorem resE_ap (g : Bool) (e : Nat → Option AV) (t : Nat) : resE g e t = (e t).map (resA g) := rfl
end
end Go.Proofs.YtbgfiflnfndckaaDoor.Lift
end
section
/- The lift, thirteenth part: a row of one's own that is lent; functions that hand back rows. No conditions: words and their laws. -/
set_option linter.unusedVariables false
set_option linter.unusedSimpArgs false
set_option linter.unusedSectionVars false
namespace Go.Proofs.YtbgfiflnfndckaaDoor.Lift
open Go Go.RowKit

section
variable {P : Program} {W0 : World} {n : Nat}

/-- A part of a row of one's own, as data. -/
theorem vec_data {E : En} {M : Nat → Prop} {m : Nat → Pl} {st : St} {a : Act} {w : World} (h : C W0 E M m st a w) {b sz bt : Nat} {l : List (List D)} (hb : st.bs[b]? = some (.vec sz bt l)) : ∀ lo n u, lo + n ≤ l.length → RA M m w (.sl b sz lo n) u → RD (fun k => M k ∧ m b ≠ .at_ k) w (.rows sz bt ((l.drop lo).take n)) u := by
  obtain ⟨hsz, hbt, hb47, hbox⟩ := h.box b _ hb
  intro lo n u hle hr
  have hlen : ((l.drop lo).take n).length = n := by simp; omega
  have hbn : ((l.drop lo).take n).length * bt ≤ 140737488355328 := Nat.le_trans (Nat.mul_le_mul_right _ (by omega)) hb47
  have get : ∀ (i : Nat) (row : List D), ((l.drop lo).take n)[i]? = some row → l[lo + i]? = some row := fun i row hi => by
    rw [List.getElem?_take] at hi
    split at hi
    · rwa [List.getElem?_drop] at hi
    · cases hi
  simp only [RA] at hr
  rcases hr with ⟨rfl, rfl, _, A, rfl⟩ | ⟨k, cap, C1, T1, h1, rfl, h2, h3, h4⟩
  · have := RD.rows (M := fun k => M k ∧ m b ≠ .at_ k) (w := w) sz bt [] A 0 (fun _ _ => default) hbt (by simp) (by simp) (fun i row h => by simp at h) (fun i row j d h => by simp at h)
    simpa using this
  · rcases hbox with ⟨h5, _⟩ | ⟨k', C2, T2, h5, h6, h7, h8⟩
    · rw [h1] at h5
      cases h5
    · rw [h1] at h5
      cases h5
      have := RD.rows (M := fun i => M i ∧ m b ≠ .at_ i) (w := w) sz bt ((l.drop lo).take n) (some ⟨k, lo * sz, none⟩) cap (fun i j => C2.getD ((lo + i) * sz + j) default) hbt hbn (by omega) (fun i row hi => ?_) (fun i row j d hi hj => ?_)
      · rw [hlen] at this
        exact this
      · obtain ⟨g1, g2⟩ := h8 _ row (get i row hi)
        refine ⟨g1, k, lo * sz, rfl, fun j hj => ⟨fun hk => hk.2 h1, ?_⟩⟩
        obtain ⟨v, g3, _⟩ := g2 j row[j] (List.getElem?_eq_getElem (by omega))
        rw [cell_of_row w k _ C2 T2 (0, 0) h6, show lo * sz + i * sz + j = (lo + i) * sz + j by rw [Nat.add_mul], g3]
        simp [Array.getD_eq_getD_getElem?, g3]
      · obtain ⟨g1, g2⟩ := h8 _ row (get i row hi)
        obtain ⟨v, g3, g4⟩ := g2 j d hj
        have : C2.getD ((lo + i) * sz + j) default = v := by simp [Array.getD_eq_getD_getElem?, g3]
        simp only [this]
        exact g4.mono (Fr.refl (fun _ => False) w) (fun _ _ x => x.elim) (fun k _ hk => hk.1)

/-- A pure function may look at a row of one's own, if it answers no rows. -/
theorem A_lend {Q : Ax → St → Prop} {st : St} {ops : Array Oper} {o : Oper} {rest : List Oper} {fo : Operand} {args : Array Operand} {ts : Array TypeId} {f : FuncId} {caps xs cargs : List AV} {R : Res → Prop} (b : Nat) {sz bt : Nat} {l : List (List D)} (hcall : APure P W0 f cargs R) (hb : st.bs[b]? = some (.vec sz bt l))
    (hg : o.guard = none) (ho : o.op = .call ⟨.value fo, args, ts⟩) (hf : evo (lk st.env) fo = some (.fn f caps)) (ha : evl (lk st.env) args.toList = some xs) (hc : callable P f = true) (hd : dOk st.N o.dst = true) (hz : fzL b sz bt l (xs ++ caps) = cargs) (hn : noNames cargs = true)
    (h : ∀ r, R r → ∃ v, (r = .ret (.d (.v v)) ∧ AOps P W0 n ops rest Q (st.put o.dst (.d (.v v)))) ∨ (r = .panic (.d (.v v)) ∧ Q (.panic (.d (.v v))) st)) : AOps P W0 n ops (o :: rest) Q st := by
  intro E M m a w hE hC
  refine wpList_plain hg fun K hK => ?_
  obtain ⟨us, h1, h2⟩ := run_call (P := P) hC ho hf ha hc
  unfold Oper.wp
  rw [h1, Oper.upon_enter]
  have hM : ∀ k, (M k ∧ m b ≠ .at_ k) → M k := fun k hk => hk.1
  have h3 : RAs (fun k => M k ∧ m b ≠ .at_ k) m w cargs us.toList := by
    rw [← hz]
    exact RAs.fz (fun _ _ => rfl) hM (vec_data hC hb) _ _ h2
  have c0 : C W0 ⟨w, fun k => M k ∧ m b ≠ .at_ k, fun _ => .no, 0⟩ (fun k => M k ∧ m b ≠ .at_ k) (fun _ => .no) ⟨0, [], []⟩ nobody w := by
    have := hC.callee
    exact { this with eLt := fun k hk => this.eLt k hk.1, mLow := fun k hk => this.mLow k hk.1, mUp := fun k hk => hk, mNew := fun k hk => .inl hk, mLt := fun k hk => this.mLt k hk.1, mNo := this.mNo, mIn := fun b k hb => (by cases hb), oldv := this.oldv, oldr := this.oldr, box := fun b x hb => (by simp at hb), env := fun t x hx => (by simp [lk_nil] at hx) }
  refine (hcall _ (fun _ => .no) w us c0 (RAs.remap (p := fun _ => false) (fun b hb => by cases hb) _ _ hn h3)).mono ?_
  rintro e w' ⟨r, L', M', m', ⟨hR, rfl⟩, hres, hC'⟩
  have hC1 : C W0 ⟨w, M, fun _ => .no, 0⟩ (fun k => M' k ∨ m b = .at_ k) m' ⟨0, [], []⟩ nobody w' :=
    { hC' with
      eLt := hC.mLt
      mLow := fun k hk => hk.elim (hC'.mLow k) fun e => hC.mLow k (hC.mIn b k e)
      mUp := fun k hk => by
        by_cases e : m b = .at_ k
        · exact .inr e
        · exact .inl (hC'.mUp k ⟨hk, e⟩)
      mNew := fun k hk => hk.elim (fun x => (hC'.mNew k x).elim (fun y => .inl y.1) .inr) fun e => .inl (hC.mIn b k e)
      mLt := fun k hk => hk.elim (hC'.mLt k) fun e => Nat.lt_of_lt_of_le (hC.mLt k (hC.mIn b k e)) hC'.fr.size
      mNo := hC'.mNo
      mIn := fun b k hb => .inl (hC'.mIn b k hb)
      oldv := fun b cs hb => absurd hb (Nat.not_lt_zero _)
      oldr := fun b k hb => absurd hb (Nat.not_lt_zero _)
      box := fun b x hb => (by simp at hb)
      env := fun t x hx => (by simp [lk_nil] at hx) }
  have hC2 := hC.after hC1
  have one : ∀ (v : Value) (u : Value), RA M' m' w' (.d (.v v)) u → RA (fun k => M' k ∨ m b = .at_ k) m w' (.d (.v v)) u := fun v u hu => by
    simp only [RA] at hu ⊢
    cases hu with
    | v _ hx => exact .v _ hx
  obtain ⟨v, ⟨rfl, h5⟩ | ⟨rfl, h5⟩⟩ := h r hR
  · cases e with
    | returned u => exact hK _ _ (h5 E _ m _ _ hE (hC2.value (dOk_iff hd) (one v u hres)))
    | panicked c => exact hres.elim
    | outgrown => exact hres.elim
  · cases e with
    | returned u => exact hres.elim
    | panicked c =>
      obtain ⟨u, rfl, h3⟩ := hres
      exact ⟨_, m, st, .panic _, hC2, h5, u, rfl, one v u h3⟩
    | outgrown => exact hres.elim

/-- A function is done; its first boxes stay. -/
theorem fin_mk {st : St} {x x' : AV} {L' : List Box} (hb : ∃ ex, st.bs = L' ++ ex) (hl : n ≤ L'.length) (h1 : x'.names (fun b => decide (b < L'.length)) = true) (h2 : L'.all (boxBelow L'.length) = true) (hle : Le x x') : Fin W0 n st x L' x' := by
  intro E M m a w u hE h hx
  have h3 : C W0 E M m ⟨1, ofL (mkEnv 0 [x]), st.bs⟩ ⟨#[u] ++ Array.replicate (1 - 1) undef, []⟩ w := h.frame (args := [x]) (us := #[u]) (N := 1) (by simp only [RAs, and_true]; exact hx) (by simp)
  obtain ⟨M', m', h4⟩ := Sb.mk (W0 := W0) (n := n) (st := ⟨1, ofL (mkEnv 0 [x]), st.bs⟩) (N := 1) (env := [(0, x')]) (bs := L') rfl ⟨⟨x, rfl, hle⟩, trivial⟩ hb hl (by simp only [envBelow, List.all_cons, List.all_nil, Bool.and_true]; exact h1) h2 E M m _ w hE h3
  exact ⟨M', m', h4.bare, by simpa using h4.env 0 x' rfl⟩
/-- A function that was handed no box hands back a row of its own. -/
theorem fin_own {st : St} {x : AV} (b : Nat) {sz bt lo k : Nat} {l : List (List D)} (hb : st.bs[b]? = some (.vec sz bt l)) (hx : x = .sl b sz lo k) : Fin W0 0 st x [.vec sz bt l] (.sl 0 sz lo k) := by
  subst hx
  intro E M m a w u hE h hx
  refine ⟨M, fun b' => if b' = 0 then m b else .no, { h.bare with mNo := ?_, mIn := ?_, inj := ?_, oldv := ?_, oldr := ?_, new := ?_, len := ?_, box := ?_, env := ?_ }, ?_⟩
  · intro b' hb'
    simp only [List.length_cons, List.length_nil] at hb'
    exact if_neg (by omega)
  · intro b' k hk
    split at hk
    · exact h.mIn b k hk
    · cases hk
  · intro b1 b2 k h1 h2
    split at h1
    · split at h2
      · omega
      · cases h2
    · cases h1
  · intro b' cs hb'
    omega
  · intro b' k hb'
    omega
  · intro b' k _ hk
    split at hk
    · exact h.new b k (by omega) hk
    · cases hk
  · omega
  · intro b' y hy
    match b', hy with
    | 0, hy =>
      simp only [List.getElem?_cons_zero, Option.some.injEq] at hy
      subst hy
      have := h.box b _ hb
      simp only [BoxR, if_true] at this ⊢
      exact this
  · exact fun t x hx => (by simp [lk_nil] at hx)
  · simp only [RA, if_true] at hx ⊢
    exact hx
end
end Go.Proofs.YtbgfiflnfndckaaDoor.Lift
end
section
/- The lift, fourteenth part: drawn regions whose last operations turn something. No conditions: words and their laws. -/
set_option linter.unusedVariables false
set_option linter.unusedSimpArgs false
set_option linter.unusedSectionVars false
set_option linter.unnecessarySimpa false
namespace Go.Proofs.YtbgfiflnfndckaaDoor.Lift
open Go Go.RowKit

/-- What can be listed without an operation, in the order of the text. -/
def grS (md : Region.Mode) (i : Nat) : List Oper → List Bool → List Bool
  | [], S => S
  | o :: l, S => grS md i l (S ++ [S.length != i && o.after.all fun e => !Region.binds md e || S.getD e.on false])
def backF (md : Region.Mode) : List Oper → Nat → Bool
  | [], _ => true
  | o :: l, k => (o.after.all fun e => !Region.binds md e || decide (e.on < k)) && backF md l (k + 1)
def qtf (k : Nat) (qs : List Nat) (i : Nat) : Bool := decide (i < k) || qs.contains i
def chkF (md : Region.Mode) (l : List Oper) (k : Nat) (qs : List Nat) (i : Nat) : Bool := (List.range l.length).all fun j => qtf k qs j || !(grS md i l []).getD j false
def drF (md : Region.Mode) (l : List Oper) (k : Nat) (qs : List Nat) : Nat → Nat → Array Bool → Bool
  | 0, _, _ => true
  | c + 1, i, listed => (Region.ready md l.toArray listed).contains i && Region.free md l.toArray listed i && chkF md l k qs i && drF md l k qs c (i + 1) (listed.setIfInBounds i true)
def setN : Nat → Nat → Array Bool → Array Bool
  | 0, _, L => L
  | c + 1, i, L => setN c (i + 1) (L.setIfInBounds i true)
def drB (l : List Oper) (k : Nat) (qs : List Nat) : Bool := backF .any l 0 && drF .any l k qs k 0 (Array.replicate l.length false)

theorem grS_keep {md : Region.Mode} {i : Nat} : ∀ (l : List Oper) (S : List Bool) (j : Nat), j < S.length → (grS md i l S).getD j false = S.getD j false
  | [], _, _, _ => rfl
  | o :: l, S, j, h => by
    rw [grS, grS_keep l _ j (by simp; omega)]
    simp only [List.getD_eq_getElem?_getD]
    rw [List.getElem?_append_left h]
theorem grS_at {md : Region.Mode} {i : Nat} : ∀ (l : List Oper) (S : List Bool) (j : Nat) (o : Oper), backF md l S.length = true → l[j]? = some o →
    (grS md i l S).getD (S.length + j) false = (S.length + j != i && o.after.all fun e => !Region.binds md e || (grS md i l S).getD e.on false)
  | [], S, j, o, _, h => by simp at h
  | o' :: l, S, 0, o, hb, h => by
    simp only [List.getElem?_cons_zero, Option.some.injEq] at h
    subst h
    simp only [backF, Bool.and_eq_true] at hb
    rw [grS, grS_keep l _ _ (by simp)]
    simp only [List.getD_eq_getElem?_getD, Nat.add_zero]
    rw [List.getElem?_append_right (Nat.le_refl _)]
    simp only [Nat.sub_self, List.getElem?_cons_zero, Option.getD_some]
    congr 1
    rw [Bool.eq_iff_iff, Array.all_eq_true_iff_forall_mem, Array.all_eq_true_iff_forall_mem]
    have hk : ∀ e ∈ o'.after, Region.binds md e = true → (grS md i l (S ++ [S.length != i && o'.after.all fun e => !Region.binds md e || S[e.on]?.getD false]))[e.on]?.getD false = S[e.on]?.getD false := fun e he hbd => by
      have h1 := Array.all_eq_true_iff_forall_mem.1 hb.1 e he
      simp only [hbd, Bool.not_true, Bool.false_or, decide_eq_true_eq] at h1
      have := grS_keep (md := md) (i := i) l (S ++ [S.length != i && o'.after.all fun e => !Region.binds md e || S[e.on]?.getD false]) e.on (by simp; omega)
      simp only [List.getD_eq_getElem?_getD] at this
      rw [this, List.getElem?_append_left h1]
    constructor
    · intro h e he
      have := h e he
      cases hbd : Region.binds md e
      · rfl
      · rw [hbd] at this
        rw [hk e he hbd]
        exact this
    · intro h e he
      have := h e he
      cases hbd : Region.binds md e
      · rfl
      · rw [hbd] at this
        rw [hk e he hbd] at this
        exact this
  | o' :: l, S, j + 1, o, hb, h => by
    simp only [backF, Bool.and_eq_true] at hb
    have := grS_at (md := md) (i := i) l (S ++ [S.length != i && o'.after.all fun e => !Region.binds md e || S.getD e.on false]) j o (by simpa using hb.2) (by simpa using h)
    rw [grS]
    rw [show S.length + (j + 1) = (S ++ [S.length != i && o'.after.all fun e => !Region.binds md e || S.getD e.on false]).length + j by simp; omega]
    exact this

/-- Listed only behind what it waits for. -/
def DC (md : Region.Mode) (ops : Array Oper) (listed : Array Bool) : Prop := ∀ (j : Nat) (o : Oper), ops[j]? = some o → listed.getD j false = true → ∀ e ∈ o.after, Region.binds md e = true → listed.getD e.on false = true
theorem DC.set {md : Region.Mode} {ops : Array Oper} {listed : Array Bool} (h : DC md ops listed) {i : Nat} (hi : i ∈ Region.ready md ops listed) : DC md ops (listed.setIfInBounds i true) := by
  intro j o ho hj e he hb
  by_cases hij : i = j
  · subst hij
    obtain ⟨_, o', ho', hall⟩ := mem_ready.1 hi
    rw [ho] at ho'
    cases ho'
    exact getD_set_true (hall e he hb)
  · rw [getD_set_ne false hij] at hj
    exact getD_set_true (h j o ho hj e he hb)
theorem back_spec {md : Region.Mode} : ∀ (l : List Oper) (k j : Nat) (o : Oper), backF md l k = true → l[j]? = some o → ∀ e ∈ o.after, Region.binds md e = true → e.on < k + j
  | [], _, _, _, _, h => by simp at h
  | o' :: l, k, 0, o, hb, h => by
    simp only [List.getElem?_cons_zero, Option.some.injEq] at h
    subst h
    simp only [backF, Bool.and_eq_true] at hb
    intro e he hbd
    have h1 := Array.all_eq_true_iff_forall_mem.1 hb.1 e he
    simpa [hbd] using h1
  | o' :: l, k, j + 1, o, hb, h => by
    simp only [backF, Bool.and_eq_true] at hb
    intro e he hbd
    have := back_spec l (k + 1) j o hb.2 (by simpa using h) e he hbd
    omega
theorem grS_all {md : Region.Mode} {l : List Oper} {i : Nat} (hb : backF md l 0 = true) {listed : Array Bool} (hs : listed.size = l.length) (hdc : DC md l.toArray listed) (hi : listed.getD i false = false) : ∀ j, listed.getD j false = true → (grS md i l []).getD j false = true := by
  intro j
  induction j using Nat.strongRecOn with
  | _ j ih =>
    intro hj
    have hlt : j < l.length := by
      rcases Nat.lt_or_ge j listed.size with h | h
      · omega
      · simp [Array.getElem?_eq_none h] at hj
    have ho : l[j]? = some l[j] := List.getElem?_eq_getElem hlt
    have := grS_at (md := md) (i := i) l [] j l[j] hb ho
    simp only [List.length_nil, Nat.zero_add] at this
    rw [this, Bool.and_eq_true]
    refine ⟨?_, Array.all_eq_true_iff_forall_mem.2 fun e he => ?_⟩
    · simp only [bne_iff_ne, ne_eq]
      rintro rfl
      rw [hi] at hj
      cases hj
    · cases hbd : Region.binds md e
      · rfl
      · have h1 := back_spec l 0 j l[j] hb ho e he hbd
        have h2 := hdc j l[j] (by simpa using ho) hj e he hbd
        rw [ih e.on (by omega) h2]
        rfl
theorem chk_spec {md : Region.Mode} {l : List Oper} {k : Nat} {qs : List Nat} {i : Nat} (hb : backF md l 0 = true) (hq : qtf k qs i = true) (hc : chkF md l k qs i = true) {listed : Array Bool} (hs : listed.size = l.length) (hdc : DC md l.toArray listed) (hi : listed.getD i false = false) : ∀ j ∈ Region.ready md l.toArray listed, qtf k qs j = true := by
  intro j hj
  obtain ⟨h0, o, ho, hall⟩ := mem_ready.1 hj
  have ho' : l[j]? = some o := by simpa using ho
  have hlt : j < l.length := (List.getElem?_eq_some_iff.1 ho').1
  have h1 := List.all_eq_true.1 hc j (List.mem_range.2 hlt)
  rw [Bool.or_eq_true] at h1
  by_cases hj' : qtf k qs j = true
  · exact hj'
  exfalso
  have h2 := h1.resolve_left hj'
  have h3 := grS_at (md := md) (i := i) l [] j o hb ho'
  simp only [List.length_nil, Nat.zero_add] at h3
  rw [h3] at h2
  have h4 : (o.after.all fun e => !Region.binds md e || (grS md i l []).getD e.on false) = true := Array.all_eq_true_iff_forall_mem.2 fun e he => by
    cases hbd : Region.binds md e
    · rfl
    · rw [grS_all hb hs hdc hi e.on (hall e he hbd)]
      rfl
  rw [h4, Bool.and_true] at h2
  simp only [Bool.not_eq_true', bne_eq_false_iff_eq] at h2
  subst h2
  exact hj' hq

section
variable {P : Program} {W0 : World} {n : Nat}

variable {X : Ax → St → Prop}
/-- An operation that may turn something; how it may end the call. -/
def gO (P : Program) (W0 : World) (n N : Nat) (X : Ax → St → Prop) (ops : Array Oper) (o : Oper) (K : List Box → (Nat → Option AV) → Prop) (bs : List Box) (e : Nat → Option AV) : Prop :=
  ∀ E M m a w (Q : Exit → Act → World → Prop), E.n = n → CE W0 E M m N bs e a w → (∀ e a w, e ≠ .normal → LQ W0 E X e a w → Q e a w) → if Region.wanted o (yielded ops a.tmps) then o.wp P a w (fun a' w' => ∃ M' m' bs' e', CE W0 E M' m' N bs' e' a' w' ∧ K bs' e') Q else ∃ M' m' bs' e', CE W0 E M' m' N bs' e' (a.put o.dst undef) w ∧ K bs' e'
def anyS (P : Program) (W0 : World) (n N : Nat) (X : Ax → St → Prop) (md : Region.Mode) (ops : Array Oper) (qt : Nat → Bool) (Q : List Box → (Nat → Option AV) → Prop) : Nat → Array Bool → List Box → (Nat → Option AV) → Prop
  | 0, listed, bs, e => Region.ready md ops listed = [] ∧ Q bs e
  | fuel + 1, listed, bs, e => (Region.ready md ops listed = [] → Q bs e) ∧ ∀ i ∈ Region.ready md ops listed, ∃ o, ops[i]? = some o ∧
      if qt i = true then ∃ x, Yl P W0 bs ops e o x ∧ anyS P W0 n N X md ops qt Q fuel (listed.setIfInBounds i true) bs (upd e o.dst x)
      else gO P W0 n N X ops o (fun bs' e' => anyS P W0 n N X md ops qt Q fuel (listed.setIfInBounds i true) bs' e') bs e

theorem wpAny_ofS {E : En} {N : Nat} {md : Region.Mode} {ops : Array Oper} {qt : Nat → Bool} {Q : List Box → (Nat → Option AV) → Prop} {Q' : Exit → Act → World → Prop} (hE : E.n = n) (hd : ∀ (i : Nat) (o : Oper), ops[i]? = some o → dOk N o.dst = true) (hX : ∀ e a w, e ≠ .normal → LQ W0 E X e a w → Q' e a w) (hQ : ∀ M m bs e a w, CE W0 E M m N bs e a w → Q bs e → Q' .normal a w) :
    ∀ (fuel : Nat) (listed : Array Bool) (M : Nat → Prop) (m : Nat → Pl) (bs : List Box) (e : Nat → Option AV) (a : Act) (w : World), CE W0 E M m N bs e a w → anyS P W0 n N X md ops qt Q fuel listed bs e → wpAny P md ops Q' fuel listed a w
  | 0, _, M, m, bs, e, a, w, hw, h => ⟨h.1, hQ M m bs e a w hw h.2⟩
  | fuel + 1, listed, M, m, bs, e, a, w, hw, h => ⟨fun h0 => hQ M m bs e a w hw (h.1 h0), fun i hi => by
      obtain ⟨o, ho, h1⟩ := h.2 i hi
      unfold wpOp
      simp only [ho]
      by_cases hq : qt i = true
      · rw [if_pos hq] at h1
        obtain ⟨x, hy, hk⟩ := h1
        have := Yl_sound (K := wpAny P md ops Q' fuel (listed.setIfInBounds i true)) (Q := Q') hw (hd i o ho) hy fun M' a' w' hc => wpAny_ofS hE hd hX hQ fuel _ M' m bs _ a' w' hc hk
        split
        · rename_i hwt
          rw [if_pos hwt] at this
          exact .inl this
        · rename_i hwt
          rw [if_neg hwt] at this
          exact this
      · rw [if_neg hq] at h1
        have := h1 E M m a w Q' hE hw hX
        split
        · rename_i hwt
          rw [if_pos hwt] at this
          exact .inl (Oper.wp_mono (fun a' w' ⟨M', m', bs', e', hc, hk⟩ => wpAny_ofS hE hd hX hQ fuel _ M' m' bs' e' a' w' hc hk) this)
        · rename_i hwt
          rw [if_neg hwt] at this
          obtain ⟨M', m', bs', e', hc, hk⟩ := this
          exact wpAny_ofS hE hd hX hQ fuel _ M' m' bs' e' _ w hc hk⟩

theorem anyS_first {N : Nat} {md : Region.Mode} {ops : Array Oper} {qt : Nat → Bool} {Q : List Box → (Nat → Option AV) → Prop} {bs : List Box} {i : Nat} {oi : Oper} {x : AV} (hi : ops[i]? = some oi) (hqi : qt i = true)
    (hT : ∀ listed : Array Bool, listed.size = ops.size → DC md ops listed → listed.getD i false = false → ∀ j ∈ Region.ready md ops listed, qt j = true) :
    ∀ (fuel : Nat) (listed : Array Bool) (e : Nat → Option AV), listed.size = ops.size → DC md ops listed →
      (∀ j oj, ops[j]? = some oj → j ≠ i → listed.getD j true = false → (∀ e ∈ oj.after, Region.binds md e = true → e.on ≠ i) → oi.apart ops oj = true) →
      i ∈ Region.ready md ops listed → Yl P W0 bs ops e oi x →
      anyS P W0 n N X md ops qt Q fuel (listed.setIfInBounds i true) bs (upd e oi.dst x) → anyS P W0 n N X md ops qt Q (fuel + 1) listed bs e := by
  intro fuel
  have own : ∀ (fuel : Nat) (listed : Array Bool) (e : Nat → Option AV), Yl P W0 bs ops e oi x → anyS P W0 n N X md ops qt Q fuel (listed.setIfInBounds i true) bs (upd e oi.dst x) → ∃ o, ops[i]? = some o ∧
      if qt i = true then ∃ x, Yl P W0 bs ops e o x ∧ anyS P W0 n N X md ops qt Q fuel (listed.setIfInBounds i true) bs (upd e o.dst x)
      else gO P W0 n N X ops o (fun bs' e' => anyS P W0 n N X md ops qt Q fuel (listed.setIfInBounds i true) bs' e') bs e := fun fuel listed e hy hk => by
    refine ⟨oi, hi, ?_⟩
    rw [if_pos hqi]
    exact ⟨x, hy, hk⟩
  induction fuel with
  | zero =>
    intro listed e hs hdc _ hr hy H
    refine ⟨fun h => (by rw [h] at hr; cases hr), fun j hj => ?_⟩
    by_cases hji : j = i
    · subst hji; exact own _ _ _ hy H
    · have := ready_mono hj hji
      rw [H.1] at this
      cases this
  | succ fuel ih =>
    intro listed e hs hdc hfree hr hy H
    refine ⟨fun h => (by rw [h] at hr; cases hr), fun j hj => ?_⟩
    by_cases hji : j = i
    · subst hji; exact own _ _ _ hy H
    · have hun : listed.getD i false = false := by
        have h0 := (mem_ready.1 hr).1
        rcases Nat.lt_or_ge i listed.size with h' | h'
        · simp [h'] at h0 ⊢; exact h0
        · simp [Array.getElem?_eq_none h']
      have hqj := hT listed hs hdc hun j hj
      obtain ⟨oj, hoj, h1⟩ := H.2 j (ready_mono hj hji)
      rw [if_pos hqj] at h1
      obtain ⟨hjun, oj', hoj', hall⟩ := mem_ready.1 hj
      rw [hoj] at hoj'
      cases hoj'
      have hnot : ∀ e ∈ oj.after, Region.binds md e = true → e.on ≠ i := fun e he hb heq => by
        have h1 := hall e he hb
        rw [heq, hun] at h1
        cases h1
      obtain ⟨p1, p2, p3⟩ := Oper.apart_spec (hfree j oj hoj hji hjun hnot)
      have hfree' : ∀ k ok, ops[k]? = some ok → k ≠ i → (listed.setIfInBounds j true).getD k true = false →
          (∀ e ∈ ok.after, Region.binds md e = true → e.on ≠ i) → oi.apart ops ok = true := fun k ok hk hki hun hno => by
        refine hfree k ok hk hki ?_ hno
        by_cases hjk : j = k
        · subst hjk; exact hjun
        · rw [getD_set_ne true hjk] at hun; exact hun
      obtain ⟨y, hy1, hy2⟩ := h1
      refine ⟨oj, hoj, ?_⟩
      rw [if_pos hqj]
      refine ⟨y, (Yl_upd p1).1 hy1, ih (listed.setIfInBounds j true) _ (by simpa using hs) (hdc.set hj) hfree' (ready_mono hr (Ne.symm hji)) ((Yl_upd p3).2 hy) ?_⟩
      rw [Array.setIfInBounds_comm _ _ hji, ← upd_comm e x y p2]
      exact hy2

theorem anyS_lex {N : Nat} {md : Region.Mode} {l : List Oper} {k : Nat} {qs : List Nat} {Q : List Box → (Nat → Option AV) → Prop} {bs : List Box} {fuel : Nat} (hb : backF md l 0 = true) : ∀ (l1 : List Oper) (i : Nat) (listed : Array Bool) (env : List (List (Option AV))), (∀ j : Nat, j < l1.length → l1[j]? = l[i + j]?) → i + l1.length ≤ k → listed.size = l.length → DC md l.toArray listed →
    drF md l k qs l1.length i listed = true → aqs P W0 bs l.toArray (fun env => anyS P W0 n N X md l.toArray (qtf k qs) Q fuel (setN l1.length i listed) bs (lk env)) l1 env → anyS P W0 n N X md l.toArray (qtf k qs) Q (l1.length + fuel) listed bs (lk env)
  | [], i, listed, env, _, _, _, _, _, h => by
    simp only [List.length_nil, Nat.zero_add]
    exact h
  | o :: l1, i, listed, env, hl, hk, hs, hdc, hB, h => by
    have h0 : l.toArray[i]? = some o := by
      have := hl 0 (by simp)
      simpa using this.symm
    simp only [List.length_cons, drF, Bool.and_eq_true] at hB
    obtain ⟨⟨⟨hr, hf⟩, hc⟩, hB'⟩ := hB
    obtain ⟨x, hy, hkk⟩ := h
    have hqi : qtf k qs i = true := by
      simp only [List.length_cons] at hk
      simp only [qtf, Bool.or_eq_true, decide_eq_true_eq]
      left
      omega
    have hmem : i ∈ Region.ready md l.toArray listed := by simpa using hr
    have := anyS_first (P := P) (W0 := W0) (n := n) (X := X) (N := N) (Q := Q) (bs := bs) h0 hqi (fun listed hs hdc hun => chk_spec hb hqi hc (by simpa using hs) hdc hun) (l1.length + fuel) listed (lk env) (by simpa using hs) hdc (Region.free_spec h0 hf) hmem hy ?_
    · simp only [List.length_cons]
      rw [show l1.length + 1 + fuel = l1.length + fuel + 1 by omega]
      exact this
    rw [← lk_putL]
    exact anyS_lex hb l1 (i + 1) _ _ (fun j hj => by have := hl (j + 1) (by simp; omega); simpa [Nat.add_assoc, Nat.add_comm 1 j] using this) (by simp only [List.length_cons] at hk; omega) (by simpa using hs) (hdc.set hmem) hB' hkk

/-- What is left of a drawn region. -/
def TL (P : Program) (W0 : World) (n N : Nat) (ops : Array Oper) (qt : Nat → Bool) (Q : Ax → St → Prop) (fuel : Nat) (listed : Array Bool) (bs : List Box) (env : List (List (Option AV))) : Prop :=
  anyS P W0 n N Q .any ops qt (fun bs e => ∃ env', lk env' = e ∧ Q .normal ⟨N, env', bs⟩) fuel listed bs (lk env)
theorem A_drawn {Q : Ax → St → Prop} {st : St} {id : Nat} {l l1 : List Oper} {gs : List (Option (Option Nat × Bool))} (k : Nat) (qs : List Nat) (hm : P.follows .mixedOrders = true) (h1 : l.take k = l1) (hB : drB l k qs = true) (hg : gsl l.toArray l1 = gs) (hd : l.all (fun o => dOk st.N o.dst) = true) (hk : k ≤ l.length)
    (h : aqg P W0 st.bs l.toArray (fun env => TL P W0 n st.N l.toArray (qtf k qs) Q (l.length - k) (setN k 0 (Array.replicate l.length false)) st.bs env) l1 gs st.env) : ACode P W0 n (.region id l.toArray true) Q st := by
  intro E M m a w hn hC
  have hd' : ∀ (i : Nat) (o : Oper), l.toArray[i]? = some o → dOk st.N o.dst = true := fun i o ho => List.all_eq_true.1 hd o (List.mem_of_getElem? (by simpa using ho))
  simp only [drB, Bool.and_eq_true] at hB
  have hl1 : l1.length = k := by rw [← h1, List.length_take]; omega
  refine wp_region_any hm (wpAny_ofS (P := P) (W0 := W0) (n := n) (X := Q) (qt := qtf k qs) (Q := fun bs e => ∃ env', lk env' = e ∧ Q .normal ⟨st.N, env', bs⟩) hn hd' (fun _ _ _ _ h => h) (fun M m bs e a w hc ⟨env', he, hq⟩ => ⟨M, m, ⟨st.N, env', bs⟩, .normal, CE.to (by rw [he]; exact hc), hq, trivial⟩) _ _ M m st.bs (lk st.env) a _ (CE.of hC.drew) ?_)
  have := anyS_lex (P := P) (W0 := W0) (n := n) (X := Q) (N := st.N) (md := .any) (l := l) (k := k) (qs := qs) (bs := st.bs) (fuel := l.length - k) (Q := fun bs e => ∃ env', lk env' = e ∧ Q .normal ⟨st.N, env', bs⟩) hB.1 l1 0 (Array.replicate l.length false) st.env (fun j hj => by rw [← h1, List.getElem?_take, if_pos (by omega), Nat.zero_add]) (by omega) (by simp) (fun j o _ hj => by simp [Array.getD_eq_getD_getElem?, Array.getElem?_replicate] at hj; split at hj <;> simp at hj) (by rw [hl1]; exact hB.2) (by rw [hl1]; exact h hg)
  rw [hl1] at this
  simpa [show k + (l.length - k) = l.length by omega] using this
theorem T_nil {N : Nat} {ops : Array Oper} {qt : Nat → Bool} {Q : Ax → St → Prop} {fuel : Nat} {listed : Array Bool} {bs : List Box} {env : List (List (Option AV))} (hr : Region.ready .any ops listed = []) (h : Q .normal ⟨N, env, bs⟩) : TL P W0 n N ops qt Q fuel listed bs env := by
  cases fuel with
  | zero => exact ⟨hr, env, rfl, h⟩
  | succ k => exact ⟨fun _ => ⟨env, rfl, h⟩, fun i hi => by rw [hr] at hi; cases hi⟩
theorem wp_exits {o : Oper} {a : Act} {w : World} {K : Act → World → Prop} {Q Q' : Exit → Act → World → Prop} (h : ∀ e a w, e ≠ .normal → Q e a w → Q' e a w) (hh : o.wp P a w K Q) : o.wp P a w K Q' := by
  unfold Oper.wp at *
  generalize (execOp a.eval o).run P w = r at *
  cases r with
  | ok n w' =>
    cases n <;> simp only [Oper.upon] at hh ⊢ <;>
      first
        | exact hh
        | exact h _ _ _ (by simp) hh
        | exact Calls.mono hh (fun e w'' he => by cases e <;> first | exact he | exact (let ⟨a, w, h'⟩ := he; ⟨a, w, h _ _ _ (by simp) h'⟩) | exact h _ _ _ (by simp) he)
  | halt x w' => cases x <;> simp only [Oper.upon] at hh ⊢ <;> first | exact hh | exact h _ _ _ (by simp) hh
/-- What a part of a region leaves, or the whole. -/
def TQ (Q : Ax → St → Prop) (N : Nat) (K : St → Prop) : Ax → St → Prop
  | .normal, st => st.N = N ∧ K st
  | .exit i, st => Q (.exit i) st
  | .goto i, st => Q (.goto i) st
  | .ret, st => Q .ret st
  | .panic x, st => Q (.panic x) st
theorem gO_of {N : Nat} {ops : Array Oper} {o : Oper} {bs : List Box} {env : List (List (Option AV))} {K : List Box → (Nat → Option AV) → Prop} (hg : o.guard = none) (h : AOps P W0 n ops [o] (TQ X N fun st' => K st'.bs (lk st'.env)) ⟨N, env, bs⟩) : gO P W0 n N X ops o K bs (lk env) := by
  intro E M m a w Q hn hc hX
  have := h E M m a w hn hc.to
  have hw : Region.wanted o (yielded ops a.tmps) = true := by simp [Region.wanted, hg]
  unfold wpList at this
  rw [if_pos hw] at this ⊢
  have ex : ∀ e a w, e ≠ .normal → LQ W0 E (TQ X N fun st' => K st'.bs (lk st'.env)) e a w → Q e a w := by
    rintro e a w he ⟨M, m, st, ax, h1, h2, h3⟩
    refine hX e a w he ⟨M, m, st, ax, h1, ?_, h3⟩
    cases ax with
    | normal => cases e <;> first | exact (he rfl).elim | exact h3.elim
    | _ => exact h2
  rcases this with h1 | ⟨_, a, w, h1⟩
  · refine wp_exits ex (Oper.wp_mono ?_ h1)
    rintro a' w' ⟨M', m', st', ax, h2, h4, h3⟩
    cases ax with
    | normal =>
      obtain ⟨rfl, h4⟩ := h4
      exact ⟨M', m', st'.bs, lk st'.env, CE.of h2, h4⟩
    | _ => exact h3.elim
  · obtain ⟨M, m, st, ax, _, _, h3⟩ := h1
    cases ax <;> exact h3.elim
theorem T_one {N : Nat} {ops : Array Oper} {qt : Nat → Bool} {Q : Ax → St → Prop} {fuel : Nat} {listed : Array Bool} {bs : List Box} {env : List (List (Option AV))} (i : Nat) (o : Oper) (hr : Region.ready .any ops listed = [i]) (ho : ops[i]? = some o) (hq : qt i = false) (hg : o.guard = none)
    (h : AOps P W0 n ops [o] (TQ Q N fun st' => TL P W0 n N ops qt Q fuel (listed.setIfInBounds i true) st'.bs st'.env) ⟨N, env, bs⟩) : TL P W0 n N ops qt Q (fuel + 1) listed bs env := by
  refine ⟨fun h0 => (by rw [hr] at h0; cases h0), fun j hj => ?_⟩
  rw [hr, List.mem_singleton] at hj
  subst hj
  refine ⟨o, ho, ?_⟩
  rw [if_neg (by rw [hq]; simp)]
  exact gO_of hg h
end
end Go.Proofs.YtbgfiflnfndckaaDoor.Lift
end
section
/- The lift, fifteenth part: a variable that becomes data; slices held against nil, slices of no elements, slices cleared. No conditions: words and their laws. -/
set_option linter.unusedVariables false
set_option linter.unusedSimpArgs false
set_option linter.unusedSectionVars false
namespace Go.Proofs.YtbgfiflnfndckaaDoor.Lift
open Go Go.RowKit

mutual
/-- A variable becomes data. -/
def fvA (b : Nat) (ds : List D) : AV → AV
  | .ptr b' j => if b' = b then .dp (ds.drop j) else .ptr b' j
  | .ep b' sz' i j => if b' = b then .junk else .ep b' sz' i j
  | .sl b' sz' lo n => if b' = b then .junk else .sl b' sz' lo n
  | .fn f x => .fn f (fvL b ds x)
  | .agg x => .agg (fvL b ds x)
  | .tup x => .tup (fvL b ds x)
  | .opt g x => .opt g (fvA b ds x)
  | .mref b' => if b' = b then .junk else .mref b'
  | x => x
def fvL (b : Nat) (ds : List D) : List AV → List AV
  | [] => []
  | x :: xs => fvA b ds x :: fvL b ds xs
end
def fvE (b : Nat) (ds : List D) (e : List (List (Option AV))) : List (List (Option AV)) := mapE (fvA b ds) e
def fvB (b : Nat) (ds : List D) : Box → Box
  | .var cs => .var (fvL b ds cs)
  | .own sz' bt' cs => .own sz' bt' (fvL b ds cs)
  | x => x
theorem fvL_len (b : Nat) (ds : List D) : ∀ l : List AV, (fvL b ds l).length = l.length
  | [] => rfl
  | x :: l => by simp only [fvL, List.length_cons, fvL_len b ds l]

section
variable {M M' : Nat → Prop} {m m' : Nat → Pl} {w : World} {b : Nat} {ds : List D} (hm : ∀ b', b' ≠ b → m' b' = m b') (hM : ∀ k, M' k → M k) (hsl : ∀ (j : Nat) (u : Value), (∃ k, m b = .at_ k ∧ u = .pointer (some ⟨k, j, none⟩)) → ∃ g o, u = .pointer (some ⟨g, o, none⟩) ∧ PD M' w g o (ds.drop j))
include hm hM hsl
mutual
theorem RA.fv : ∀ (x : AV) (u : Value), RA M m w x u → RA M' m' w (fvA b ds x) u
  | .d x, u, h => by
    simp only [fvA, RA] at h ⊢
    exact h.mono (Fr.refl (fun _ => False) w) (fun _ _ x => x.elim) (fun k _ hk => hM k hk)
  | .dp ds', u, h => by
    simp only [fvA, RA] at h ⊢
    obtain ⟨g, o, h1, h2⟩ := h
    exact ⟨g, o, h1, h2.mono (Fr.refl (fun _ => False) w) (fun _ _ x => x.elim) (fun k _ hk => hM k hk)⟩
  | .ptr b' j, u, h => by
    simp only [fvA]
    split
    · rename_i e
      subst e
      simp only [RA] at h ⊢
      exact hsl j u h
    · rename_i e
      simp only [RA] at h ⊢
      rwa [hm b' e]
  | .ep b' sz' i j, u, h => by
    simp only [fvA]
    split
    · simp only [RA]
    · rename_i e
      simp only [RA] at h ⊢
      rwa [hm b' e]
  | .sl b' sz' lo n, u, h => by
    simp only [fvA]
    split
    · simp only [RA]
    · rename_i e
      simp only [RA] at h ⊢
      rwa [hm b' e]
  | .fn f x, u, h => by
    simp only [fvA, RA] at h ⊢
    obtain ⟨us, h1, h2⟩ := h
    exact ⟨us, h1, RAs.fv _ _ h2⟩
  | .agg x, u, h => by
    simp only [fvA, RA] at h ⊢
    obtain ⟨us, h1, h2⟩ := h
    exact ⟨us, h1, RAs.fv _ _ h2⟩
  | .tup x, u, h => by
    simp only [fvA, RA] at h ⊢
    obtain ⟨us, h1, h2⟩ := h
    exact ⟨us, h1, RAs.fv _ _ h2⟩
  | .opt g x, u, h => by
    simp only [fvA, RA] at h ⊢
    exact ⟨fun hg => RA.fv x u (h.1 hg), h.2⟩
  | .mref b', u, h => by
    simp only [fvA]
    split
    · simp only [RA]
    · rename_i e
      simp only [RA] at h ⊢
      rwa [hm b' e]
  | .junk, u, h => by simp only [fvA, RA]
theorem RAs.fv : ∀ (x : List AV) (us : List Value), RAs M m w x us → RAs M' m' w (fvL b ds x) us
  | [], [], h => by simp only [fvL, RAs]
  | x :: xs, u :: us, h => by
    simp only [fvL, RAs] at h ⊢
    exact ⟨RA.fv x u h.1, RAs.fv xs us h.2⟩
  | [], _ :: _, h => by simp only [RAs] at h
  | _ :: _, [], h => by simp only [RAs] at h
end
end
theorem lk_fvE {b : Nat} {ds : List D} {x : List (List (Option AV))} {t : Nat} {y : AV} (h : lk (fvE b ds x) t = some y) : ∃ z, lk x t = some z ∧ y = fvA b ds z := by
  rw [fvE, lk_mapE, Option.map_eq_some_iff] at h
  obtain ⟨z, h1, h2⟩ := h
  exact ⟨z, h1, h2.symm⟩

section
variable {P : Program} {W0 : World} {n : Nat}

theorem Sb.freezeV {st : St} (b : Nat) {cs : List AV} {ds : List D} (hb : st.bs[b]? = some (.var cs)) (hds : toDs cs = some ds) (hn : n ≤ b) : Sb W0 n st ⟨st.N, fvE b ds st.env, (st.bs.map (fvB b ds)).set b .dead⟩ := by
  intro E M m a w hE h
  have hblt : b < st.bs.length := (List.getElem?_eq_some_iff.1 hb).1
  have hbox := h.box b _ hb
  simp only [BoxR] at hbox
  have hm : ∀ b', b' ≠ b → mAdd m b .no b' = m b' := fun b' e => if_neg e
  have hmb : mAdd m b .no b = .no := if_pos rfl
  have hMM : ∀ k, (M k ∧ m b ≠ .at_ k) → M k := fun k hk => hk.1
  have at_ : ∀ b' k, mAdd m b .no b' = .at_ k → b' ≠ b ∧ m b' = .at_ k := fun b' k hk => by
    by_cases e : b' = b
    · subst e
      rw [hmb] at hk
      cases hk
    · rw [hm b' e] at hk
      exact ⟨e, hk⟩
  have hsl : ∀ (j : Nat) (u : Value), (∃ k, m b = .at_ k ∧ u = .pointer (some ⟨k, j, none⟩)) → ∃ g o, u = .pointer (some ⟨g, o, none⟩) ∧ PD (fun k => M k ∧ m b ≠ .at_ k) w g o (ds.drop j) := by
    rintro j u ⟨k, h1, rfl⟩
    obtain ⟨k', C2, T2, h5, h6, h7⟩ := hbox
    rw [h1] at h5
    cases h5
    refine ⟨k, j, rfl, fun i d hi => ?_⟩
    rw [List.getElem?_drop] at hi
    have h8 : cs[j + i]? = some (.d d) := by rw [toDs_eq hds, List.getElem?_map, hi]; rfl
    obtain ⟨u, h9, h10⟩ := h7.get h8
    simp only [RA] at h10
    refine ⟨u, fun hk => hk.2 h1, ?_, h10.mono (Fr.refl (fun _ => False) w) (fun _ _ x => x.elim) (fun k _ hk => hk.1)⟩
    rw [cell_of_row w k _ C2 T2 (0, 0) h6]
    simpa using h9
  have getb : ∀ (b' : Nat) (y : Box), ((st.bs.map (fvB b ds)).set b .dead)[b']? = some y → (b' = b ∧ y = .dead) ∨ ∃ z, b' ≠ b ∧ st.bs[b']? = some z ∧ y = fvB b ds z := by
    intro b' y hy
    by_cases e : b' = b
    · subst e
      rw [List.getElem?_set_self (by simpa using hblt)] at hy
      cases hy
      exact .inl ⟨rfl, rfl⟩
    · rw [List.getElem?_set_ne (Ne.symm e), List.getElem?_map] at hy
      cases hx : st.bs[b']? with
      | none => simp [hx] at hy
      | some z =>
        simp only [hx, Option.map_some, Option.some.injEq] at hy
        exact .inr ⟨z, e, rfl, hy.symm⟩
  refine ⟨fun k => M k ∧ m b ≠ .at_ k, mAdd m b .no, { h with mLow := fun k hk => h.mLow k hk.1, mUp := ?_, mNew := fun k hk => h.mNew k hk.1, mLt := fun k hk => h.mLt k hk.1, mNo := ?_, mIn := ?_, inj := ?_, oldv := ?_, oldr := fun b' k hb' hk => h.oldr b' k hb' (at_ b' k hk).2, new := fun b' k hb' hk => h.new b' k hb' (at_ b' k hk).2, len := by simpa using h.len, box := ?_, env := ?_ }⟩
  · intro k hk
    refine ⟨h.mUp k hk, fun e => ?_⟩
    have h1 := h.new b k (by omega) e
    have h2 := h.eLt k hk
    omega
  · intro b' hb'
    simp at hb'
    rw [hm b' (by omega)]
    exact h.mNo b' hb'
  · intro b' k hk
    obtain ⟨e, h1⟩ := at_ b' k hk
    exact ⟨h.mIn b' k h1, fun e2 => e (h.inj b' b k h1 e2)⟩
  · intro b1 b2 k h1 h2
    exact h.inj b1 b2 k (at_ b1 k h1).2 (at_ b2 k h2).2
  · intro b' cs hb' hc
    rcases getb b' _ hc with ⟨_, h1⟩ | ⟨z, e, h1, h2⟩
    · cases h1
    · rw [hm b' e]
      cases z <;> simp only [fvB] at h2 <;> first
        | (cases h2; done)
        | exact h.oldv b' _ hb' h1
  · intro b' y hy
    rcases getb b' y hy with ⟨_, rfl⟩ | ⟨z, e, h1, rfl⟩
    · trivial
    · have hz := h.box b' z h1
      cases z with
      | dead => trivial
      | var cs =>
        obtain ⟨q, C, T, h1, h2, h3⟩ := hz
        exact ⟨q, C, T, (hm b' e).trans h1, h2, RAs.fv hm hMM hsl _ _ h3⟩
      | vec sz' bt' l' =>
        have hz' := BoxR.mono (M' := fun k => M k ∧ m b ≠ .at_ k) hz (Fr.refl (fun _ => False) w) (fun _ _ x => x.elim) (fun k _ hk => hk.1) (fun _ _ x => x)
        obtain ⟨g0, g1, g2, g3⟩ := hz'
        refine ⟨g0, g1, g2, ?_⟩
        rcases g3 with ⟨h4, h5⟩ | ⟨q, C, T, h4, h5⟩
        · exact .inl ⟨(hm b' e).trans h4, h5⟩
        · exact .inr ⟨q, C, T, (hm b' e).trans h4, h5⟩
      | mp es =>
        obtain ⟨q, F, c, h1, h2⟩ := hz
        exact ⟨q, F, c, (hm b' e).trans h1, h2⟩
      | own sz' bt' cs =>
        obtain ⟨g0, g1, g2, g3⟩ := hz
        refine ⟨g0, g1, by simpa only [fvL_len] using g2, ?_⟩
        rcases g3 with ⟨h4, h5⟩ | ⟨q, C, T, h4, h5, h6, h7⟩
        · exact .inl ⟨(hm b' e).trans h4, by rw [h5]; rfl⟩
        · refine .inr ⟨q, C, T, (hm b' e).trans h4, h5, by simpa only [fvL_len] using h6, ?_⟩
          rw [fvL_len]
          exact RAs.fv hm hMM hsl _ _ h7
  · intro t y hy
    obtain ⟨z, h1, rfl⟩ := lk_fvE hy
    exact RA.fv hm hMM hsl z _ (h.env t z h1)

theorem run_eqIn_slice {T e : TypeId} {w : World} (hu : P.underlying T = some (.slice e)) {d : Nat} {A : Option Addr} {k c : Nat} : (Op.equalIn (d + 1) T (.slice A k c) (.slice none 0 0)).run P w = .ok A.isNone w := by
  cases A <;> simp [Op.equalIn, run_underlying hu]
/-- A slice held against nil: if it has elements, it isn't nil. -/
theorem A_eqnil {Q : Ax → St → Prop} {st : St} {ops : Array Oper} {o : Oper} {rest : List Oper} {s : Operand} {T U e : TypeId} {x : D} (hg : o.guard = none) (ho : o.op = .binOp .eql T s (.const (.slice none 0 0)) U) (he : elT P T = some e) (h1 : evo (lk st.env) s = some (.d x)) (hx : x = .e ∨ ∃ sz bt l, x = .rows sz bt l) (hd : dOk st.N o.dst = true)
    (h : ∀ b : Bool, (∀ sz bt l, x = .rows sz bt l → l ≠ [] → b = false) → AOps P W0 n ops rest Q (st.put o.dst (.d (.v (.bool b))))) : AOps P W0 n ops (o :: rest) Q st := by
  intro E M m a w hE hC
  refine wpList_plain hg fun K hK => ?_
  have hs := evo_sound hC.env h1
  simp only [RA] at hs
  have key : ∃ A c k, a.eval s = .slice A k c ∧ (∀ sz bt l, x = .rows sz bt l → l ≠ [] → A.isNone = false) := by
    rcases hx with rfl | ⟨sz, bt, l, rfl⟩
    · cases hv : a.eval s <;> rw [hv] at hs <;> cases hs
      exact ⟨_, _, _, rfl, fun _ _ _ h => by cases h⟩
    · cases hv : a.eval s <;> rw [hv] at hs <;> cases hs
      rename_i A c U' hbt hb hc hA hU
      refine ⟨_, _, _, rfl, fun sz' bt' l' hl hne => ?_⟩
      cases hl
      cases l with
      | nil => exact absurd rfl hne
      | cons row l =>
        obtain ⟨_, g, o', h2, _⟩ := hA 0 row rfl
        rw [h2]
        rfl
  obtain ⟨A, c, k, hv, hb⟩ := key
  have hu := elT_iff he
  have hrun : (execOp a.eval o).run P w = .ok (.value (.bool A.isNone)) w := by
    have e2 : a.eval (.const (.slice none 0 0)) = .slice none 0 0 := rfl
    simp only [execOp, ho, hv, e2]
    have hb : (binOp .eql T (.slice A k c) (.slice none 0 0)).run P w = .ok (.bool A.isNone) w := by
      show (do pure (.bool (← Op.equalIn (9999 + 1) T (.slice A k c) (.slice none 0 0))) : Sem Value).run P w = _
      simp only [Sem.run_bind, run_eqIn_slice hu, Result.andThen_ok, Sem.run_pure]
    have hgd : eqGuard .eql T s (.const (.slice none 0 0)) (.slice A k c) (.slice none 0 0) = pure () := rfl
    simp only [hgd, Sem.run_bind, Sem.run_pure, Result.andThen_ok, hb]
  unfold Oper.wp
  rw [hrun]
  exact hK _ _ (h A.isNone hb E M m _ _ hE (hC.value (dOk_iff hd) (RA.v_mk rfl)))
/-- A slice literal without elements. -/
theorem A_nilslice {Q : Ax → St → Prop} {st : St} {ops : Array Oper} {o : Oper} {rest : List Oper} {T e sz : Nat} (hg : o.guard = none) (ho : o.op = .buildSlice T 0 #[]) (he : elT P T = some e) (hs : szT P e = some sz) (hd : dOk st.N o.dst = true)
    (h : AOps P W0 n ops rest Q (st.put o.dst (.d .e))) : AOps P W0 n ops (o :: rest) Q st := by
  intro E M m a w hE hC
  refine wpList_plain hg fun K hK => ?_
  have hu := elT_iff he
  have hrun : (execOp a.eval o).run P w = .ok (.value (.slice (some ⟨w.heap.size, 0, none⟩) 0 0)) (w.alloc (.cells #[] e)) := by
    have h0 : Array.range 0 = #[] := Array.eq_empty_of_size_eq_zero (by simp)
    simp [execOp, ho, Instr.buildSlice, run_underlying hu, run_szT hs, newRow, Instr.fill, h0]
  unfold Oper.wp
  rw [hrun]
  have hf : Fr (fun _ => False) w (w.alloc (.cells #[] e)) := Fr.alloc _ _
  have hC' := hC.chg (M' := M) hf (hC.base.trans hf) (fun _ h => h) (fun _ h => .inl h) (fun k hk => Nat.lt_of_lt_of_le (hC.mLt k hk) hf.size)
  exact hK _ _ (h E M m _ _ hE (hC'.value (dOk_iff hd) (by simp only [RA]; exact .e _)))
end
end Go.Proofs.YtbgfiflnfndckaaDoor.Lift
end
section
/- The lift, sixteenth part: slices cleared. No conditions: words and their laws. -/
set_option linter.unusedVariables false
set_option linter.unusedSimpArgs false
set_option linter.unusedSectionVars false
namespace Go.Proofs.YtbgfiflnfndckaaDoor.Lift
open Go Go.RowKit

section
variable {P : Program} {W0 : World} {n : Nat}

end
end Go.Proofs.YtbgfiflnfndckaaDoor.Lift
end
section
/- The lift: appends of whatever there is, bytes and texts, rows whose cells may name others. No conditions: words and their laws. -/
set_option linter.unusedVariables false
set_option linter.unusedSimpArgs false
namespace Go.Proofs.YtbgfiflnfndckaaDoor.Lift
open Go Go.RowKit

section
variable {P : Program}

theorem run_append_roomS (w : World) (t tx ty e : TypeId) {sz : Nat} (ht : P.underlying t = some (.slice e)) (hi : szT P e = some sz)
    (g sLen sCap : Nat) (cur : Array Value) (T : TypeId) (hg : w.heap[g]? = some (.cells cur T (0, 0)))
    {xe : Value} {m : Nat} {U : List Value} (hx : Src P sz tx xe m U w) (hroom : sLen + m ≤ sCap) (hfit : sLen * sz + U.length ≤ cur.size) :
    (Builtin.append_ #[t, tx] ty #[.slice (some ⟨g, 0, none⟩) sLen sCap, xe]).run P w = .ok (.slice (some ⟨g, 0, none⟩) (sLen + m) sCap) (w.setRow g (over cur.toList (sLen * sz) U).toArray) := by
  unfold szT at hi
  cases hq : P.info? e with
  | none => simp [hq] at hi
  | some i =>
    simp [hq] at hi
    subst hi
    have hst := run_storeCells_at P g (sLen * i.size) T U 0 cur w hg (by simpa using hfit) hx.one
    simp only [Nat.add_zero] at hst
    rcases hx.kind with ⟨e', hk⟩ | hk <;> simp [Builtin.append_, run_underlying ht, run_underlying hk, sizeOf, typeInfo, hq, hx.len, hroom, hx.cells, Addr.add_lit, hst, over]

/-- An append, in a world. -/
theorem append_run (w : World) {T tx e sz bt : Nat} {z : List Value} (he : elT P T = some e) (hs : szT P e = some sz) (hbt : btT P e = some bt) (hz : zrT P e = some z) (hzl : z.length = sz) (hbt0 : 0 < bt) (ty : TypeId)
    {se xe : Value} {k : Nat} {olds : List Value} {p : Nat → Prop}
    (hse : (∃ bA, se = .slice bA 0 0 ∧ k = 0 ∧ olds = []) ∨ ∃ q cap Cs T', p q ∧ se = .slice (some ⟨q, 0, none⟩) k cap ∧ k ≤ cap ∧ w.heap[q]? = some (Obj.cells Cs T' (0, 0)) ∧ cap * sz ≤ Cs.size ∧ olds = Cs.toList.take (k * sz))
    {n2 : Nat} {U : List Value} (hx : Src P sz tx xe n2 U w) (hbound : (k + n2) * bt ≤ 140737488355328) :
    (k = 0 ∧ n2 = 0 ∧ (∃ bA, se = .slice bA 0 0) ∧ (Builtin.append_ #[T, tx] ty #[se, xe]).run P w = .ok se w) ∨
    ∃ w' q Cn T' cap, (Builtin.append_ #[T, tx] ty #[se, xe]).run P w = .ok (.slice (some ⟨q, 0, none⟩) (k + n2) cap) w' ∧ k + n2 ≤ cap ∧ cap * sz ≤ Cn.size ∧ w'.heap[q]? = some (Obj.cells Cn T' (0, 0)) ∧
      ((p q ∧ Fr (fun i => i = q) w w') ∨ (w.heap.size ≤ q ∧ Fr (fun _ => False) w w')) ∧ ∃ r, Cn.toList = olds ++ U ++ r := by
  have hu := elT_iff he
  unfold btT at hbt
  unfold zrT at hz
  cases hi : P.info? e with
  | none => simp [hi] at hbt
  | some it =>
  simp only [hi, Option.map_some, Option.some.injEq] at hbt
  simp only [hi, Option.bind_some, Option.map_eq_some_iff] at hz
  obtain ⟨zv, hzr, hzv⟩ := hz
  have hits : it.size = sz := by simpa [szT, hi] using hs
  have hzs : zv.cells.size = sz := by rw [← Array.length_toList, hzv]; exact hzl
  have hsum : ((k + n2 : Nat) : Int) ≤ 9223372036854775807 := by
    have : k + n2 ≤ (k + n2) * bt := Nat.le_mul_of_pos_right _ hbt0
    omega
  have hb48 : (k + n2) * it.bytes ≤ 140737488355328 := by rw [hbt]; omega
  have hx' : Src P it.size tx xe n2 U w := by rw [hits]; exact hx
  have hUl : U.length = n2 * sz := hx.newsLen
  have grow : ∀ (bA : Option Addr) (cap0 : Nat), se = .slice bA k cap0 → olds.length = k * sz → (Builtin.firstCells it.size k (.slice bA k cap0)).run P w.drew = .ok olds.toArray w.drew → cap0 < k + n2 →
      ∃ w' q Cn T' cap, (Builtin.append_ #[T, tx] ty #[se, xe]).run P w = .ok (.slice (some ⟨q, 0, none⟩) (k + n2) cap) w' ∧ k + n2 ≤ cap ∧ cap * sz ≤ Cn.size ∧ w'.heap[q]? = some (Obj.cells Cn T' (0, 0)) ∧
        ((p q ∧ Fr (fun i => i = q) w w') ∨ (w.heap.size ≤ q ∧ Fr (fun _ => False) w w')) ∧ ∃ r, Cn.toList = olds ++ U ++ r := by
    intro bA cap0 hse hol hold hcap
    have hge := grownCap_ge w (k + n2) cap0 e
    have hr := run_append_grow_src (P := P) w T tx ty e it zv hu hi hzr bA k cap0 olds hold xe n2 U hx' hcap hsum (growslice_fits hcap hb48)
    subst hse
    refine ⟨_, _, _, _, _, hr, hge, ?_, heap_alloc_new w.drew _, .inr ⟨Nat.le_refl _, (Fr.drew w).trans (Fr.alloc _ _)⟩, (Builtin.zeroCells zv.cells (grownCap w (k + n2) cap0 e - (k + n2))).toList, by simp only [Array.toList_append]⟩
    simp only [Array.size_append, List.size_toArray, List.length_append, size_zeroCells, hzs, hol, hUl, ← Nat.add_mul]
    refine Nat.le_of_eq ?_
    congr 1
    omega
  rcases hse with ⟨bA, rfl, rfl, rfl⟩ | ⟨q, cap, Cs, T', hp, rfl, hlc, hw, hfit, rfl⟩
  · by_cases hne : n2 = 0
    · subst hne
      have hU0 : U = [] := List.eq_nil_of_length_eq_zero (by simpa using hUl)
      subst hU0
      refine .inl ⟨rfl, rfl, ⟨bA, rfl⟩, ?_⟩
      rcases hx.kind with ⟨e', hk⟩ | hk <;> cases bA <;> simp [Builtin.append_, run_underlying hu, run_underlying hk, sizeOf, typeInfo, hi, hx'.len, hx'.cells, storeCells]
    · refine .inr (grow bA 0 rfl (by simp) ?_ (by omega))
      cases bA with
      | none => exact run_firstCells_none (P := P) w.drew it.size 0 0 0
      | some xa => exact run_firstCells_some (P := P) w.drew it.size 0 xa 0 0 [] (by simp) (fun j v hj => by simp at hj)
  · refine .inr ?_
    have hks : k * sz ≤ Cs.size := Nat.le_trans (Nat.mul_le_mul_right _ hlc) hfit
    by_cases hroom : k + n2 ≤ cap
    · have hroom' : (k + n2) * sz ≤ Cs.size := Nat.le_trans (Nat.mul_le_mul_right _ hroom) hfit
      rw [Nat.add_mul] at hroom'
      have hr := run_append_roomS (P := P) w T tx ty e hu hs q k cap Cs T' hw hx hroom (by rw [hUl]; exact hroom')
      have hol : (over Cs.toList (k * sz) U).length = Cs.size := by rw [over_len _ _ _ (by rw [hUl]; simpa using hroom'), Array.length_toList]
      refine ⟨_, _, _, T', _, hr, hroom, by simp [hol]; exact hfit, setRow_heap w q Cs _ T' (0, 0) hw, .inl ⟨hp, Fr.setRow w q Cs _ T' hw rfl (by simpa using hol)⟩, Cs.toList.drop (k * sz + U.length), by simp only [over]⟩
    · refine grow (some ⟨q, 0, none⟩) cap rfl (by simp; omega) ?_ (by omega)
      exact run_firstCells_some (P := P) w.drew it.size k ⟨q, 0, none⟩ k cap (Cs.toList.take (k * sz)) (by rw [hits]; simp; omega) (fun j v hj => by
        rw [Addr.add_lit, Nat.zero_add]
        have h2 : w.drew.cell? ⟨q, j, none⟩ = w.cell? ⟨q, j, none⟩ := by simp
        rw [h2, cell_of_row w q j Cs T' (0, 0) hw]
        rw [List.getElem?_take] at hj
        split at hj
        · simpa using hj
        · cases hj)
end

section
variable {P : Program} {W0 : World} {n : Nat}

/-- A text's bytes, as rows. -/
def bytesD (s : ByteArray) : List (List D) := s.data.toList.map fun b => [D.v (.int .u8 b.toNat)]
theorem bytesD_len (s : ByteArray) : (bytesD s).length = s.size := by
  unfold bytesD
  rw [List.length_map, Array.length_toList]
  rfl
theorem bytesD_get (s : ByteArray) (i : Nat) : (bytesD s)[i]? = (s.data[i]?).map fun b => [D.v (.int .u8 b.toNat)] := by
  simp [bytesD]
/-- Rows that lie in cells. -/
def RowsR (M : Nat → Prop) (w : World) (sz : Nat) (l : List (List D)) (U : List Value) : Prop := ∀ (i : Nat) (row : List D), l[i]? = some row → row.length = sz ∧ ∀ (j : Nat) (d : D), row[j]? = some d → ∃ v, U[i * sz + j]? = some v ∧ RD M w d v
theorem src_rows {E : En} {M : Nat → Prop} {m : Nat → Pl} {st : St} {a : Act} {w : World} (h : C W0 E M m st a w) {T e sz bt : Nat} (he : elT P T = some e) (hsz : 0 < sz) {x : Operand} {X : AV} {l2 : List (List D)} (h2 : evo (lk st.env) x = some X) (hX : apR st.bs sz bt X = some l2) :
    ∃ U, Src P sz T (a.eval x) l2.length U w ∧ RowsR M w sz l2 U := by
  obtain ⟨A, c, U, hxe, hUl, hU1, hUA, hUr⟩ := apR_sound h (evo_sound h.env h2) hsz hX
  refine ⟨U, ?_, hUr⟩
  rw [hxe]
  have hu := elT_iff he
  by_cases hne : l2 = []
  · subst hne
    have hU0 : U = [] := List.eq_nil_of_length_eq_zero (by simpa using hUl)
    subst hU0
    cases A with
    | none => exact Src.ofNil w hu c
    | some xa => exact Src.ofSlice w hu xa 0 c [] (by simp) (fun j u hj => by simp at hj) (by simp)
  · obtain ⟨g, o', rfl, hc⟩ := hUA hne
    exact Src.ofSlice w hu _ _ c U hUl (fun j u hj => by rw [Addr.add_lit]; exact hc j u hj) hU1
theorem src_text {E : En} {M : Nat → Prop} {m : Nat → Pl} {st : St} {a : Act} {w : World} (h : C W0 E M m st a w) {tx : Nat} (hs : isStr P tx = true) {x : Operand} {s : ByteArray} (h2 : evo (lk st.env) x = some (.d (.v (.string s)))) :
    ∃ U, Src P 1 tx (a.eval x) (bytesD s).length U w ∧ RowsR M w 1 (bytesD s) U := by
  have hx := (evo_sound h.env h2).v_inv.1
  rw [hx, bytesD_len]
  refine ⟨byteCells s, Src.ofString w (isStr_iff hs) s, fun i row hi => ?_⟩
  rw [bytesD_get, Option.map_eq_some_iff] at hi
  obtain ⟨b, h3, rfl⟩ := hi
  refine ⟨rfl, fun j d hj => ?_⟩
  match j, hj with
  | 0, hj =>
    cases hj
    exact ⟨.int .u8 b.toNat, by simp [byteCells, h3], .v _ rfl⟩
  | j + 1, hj => simp at hj
theorem RowsR.mono {M M' : Nat → Prop} {w w' : World} {sz : Nat} {l : List (List D)} {U U' : List Value} (h : RowsR M w sz l U) (off : Nat) (hU : ∀ (q : Nat) (v : Value), U[q]? = some v → U'[off + q]? = some v) (hr : ∀ (d : D) (v : Value), RD M w d v → RD M' w' d v) :
    ∀ (i : Nat) (row : List D), l[i]? = some row → row.length = sz ∧ ∀ (j : Nat) (d : D), row[j]? = some d → ∃ v, U'[off + (i * sz + j)]? = some v ∧ RD M' w' d v := fun i row hi => by
  obtain ⟨h1, h2⟩ := h i row hi
  refine ⟨h1, fun j d hj => ?_⟩
  obtain ⟨v, h3, h4⟩ := h2 j d hj
  exact ⟨v, hU _ _ h3, hr d v h4⟩

/-- An append of whatever there is to a row of one's own. -/
theorem A_appendG {Q : Ax → St → Prop} {st : St} {ops : Array Oper} {o : Oper} {rest : List Oper} {s x : Operand} {T tx e sz bt b k : Nat} {l l2 : List (List D)} {z : List Value} (hg : o.guard = none) (ho : o.op = .call ⟨.builtin .append, #[s, x], #[T, tx]⟩) (he : elT P T = some e) (hs : szT P e = some sz) (hbt : btT P e = some bt) (hz : zrT P e = some z) (hzl : z.length = sz)
    (h1 : evo (lk st.env) s = some (.sl b sz 0 k)) (hk : k = l.length) (hb : st.bs[b]? = some (.vec sz bt l)) (hsrc : ∀ E M m a w, C W0 E M m st a w → ∃ U, Src P sz tx (a.eval x) l2.length U w ∧ RowsR M w sz l2 U) (hd : dOk st.N o.dst = true) (hbound : (l.length + l2.length) * bt ≤ 140737488355328)
    (h : AOps P W0 n ops rest Q ((⟨st.N, killE b st.env, (st.bs.map (killB b)).set b (.vec sz bt (l ++ l2))⟩ : St).put o.dst (.sl b sz 0 (l ++ l2).length))) : AOps P W0 n ops (o :: rest) Q st := by
  subst hk
  intro E M m a w hE hC
  refine wpList_plain hg fun K hK => ?_
  obtain ⟨hsz, hbt0, hb47, hbox⟩ := hC.box b _ hb
  have hs1 := evo_sound hC.env h1
  obtain ⟨U, hsU, hrU⟩ := hsrc E M m a w hC
  have hex : ∀ v w', (Builtin.append_ #[T, tx] o.type #[a.eval s, a.eval x]).run P w = .ok v w' → (execOp a.eval o).run P w = .ok (.value v) w' := fun v w' hr => by
    simp only [execOp, ho, resolve, invoke, builtin, Sem.run_bind, Sem.run_pure, Result.andThen_ok, List.map_toArray, List.map_cons, List.map_nil, hr]
  simp only [RA] at hs1
  -- the row as it lies
  obtain ⟨olds, hse, hol, hrows⟩ : ∃ olds, ((∃ bA, a.eval s = .slice bA 0 0 ∧ l.length = 0 ∧ olds = []) ∨ ∃ q cap Cs T', m b = .at_ q ∧ a.eval s = .slice (some ⟨q, 0, none⟩) l.length cap ∧ l.length ≤ cap ∧ w.heap[q]? = some (Obj.cells Cs T' (0, 0)) ∧ cap * sz ≤ Cs.size ∧ olds = Cs.toList.take (l.length * sz)) ∧ olds.length = l.length * sz ∧ RowsR M w sz l olds := by
    rcases hbox with ⟨hmv, hl0⟩ | ⟨q, Cs, T', hmk, hw, hlen, hrows⟩
    · subst hl0
      rcases hs1 with ⟨_, _, _, bA, hse⟩ | ⟨q, cap, C1, T1, h3, _⟩
      · exact ⟨[], .inl ⟨bA, hse, rfl, rfl⟩, by simp, fun i row hi => by simp at hi⟩
      · rw [hmv] at h3
        cases h3
    · rcases hs1 with ⟨_, _, h3, _⟩ | ⟨q', cap, C1, T1, h3, hse, hlc, hw1, hfit⟩
      · rw [hmk] at h3
        cases h3
      · rw [hmk] at h3
        cases h3
        rw [hw] at hw1
        cases hw1
        simp only [Nat.zero_mul, Nat.zero_add] at hse hfit
        refine ⟨_, .inr ⟨q, cap, Cs, T', hmk, hse, hlc, hw, hfit, rfl⟩, by simp; omega, fun i row hi => ?_⟩
        obtain ⟨g1, g2⟩ := hrows i row hi
        refine ⟨g1, fun j d hj => ?_⟩
        obtain ⟨u, g3, g4⟩ := g2 j d hj
        have hi' : i < l.length := (List.getElem?_eq_some_iff.1 hi).1
        have hj' : j < sz := by rw [← g1]; exact (List.getElem?_eq_some_iff.1 hj).1
        have : (i + 1) * sz ≤ l.length * sz := Nat.mul_le_mul_right _ hi'
        rw [Nat.add_mul] at this
        exact ⟨u, by rw [List.getElem?_take, if_pos (by omega)]; simpa using g3, g4⟩
  rcases append_run w he hs hbt hz hzl hbt0 o.type hse hsU hbound with ⟨h0, h2, ⟨bA, hbA⟩, hr⟩ | ⟨w', q, Cn, T', cap, hr, hcap, hfit, hw, hcase, r, hCl⟩
  · have hl0 : l = [] := List.eq_nil_of_length_eq_zero h0
    have hl2 : l2 = [] := List.eq_nil_of_length_eq_zero h2
    subst hl0 hl2
    have hC' := hC.killed hb
    unfold Oper.wp
    rw [hex _ _ hr]
    refine hK _ _ (h E _ _ _ _ hE (hC'.value (dOk_iff hd) ?_))
    simpa only [RA, List.append_nil, List.length_nil, List.nil_append] using hs1
  · have hf : Fr (fun i => i = q) w w' := by
      rcases hcase with ⟨_, h1⟩ | ⟨_, h1⟩
      · exact h1
      · exact Fr.weak h1 fun _ _ x => x.elim
    have hq : q < w.heap.size → M q := fun hlt => by
      rcases hcase with ⟨h1, _⟩ | ⟨h1, _⟩
      · exact hC.mIn b q h1
      · omega
    have newRD : ∀ (d : D) (u : Value), RD M w d u → RD (fun i => M i ∨ i = q) w' d u := fun d u hr =>
      hr.mono hf (fun i hi e => e ▸ hq (e ▸ hi)) (fun i hi hx => hx.elim id fun e => e ▸ hq (e ▸ hi))
    have hR : ∀ (i : Nat) (row : List D), (l ++ l2)[i]? = some row → row.length = sz ∧ ∀ (j : Nat) (d : D), row[j]? = some d → ∃ u, Cn.toList[i * sz + j]? = some u ∧ RD (fun i => M i ∨ i = q) w' d u := by
      refine rows_append (fun i row hi => ?_) (fun i row hi => ?_)
      · have := RowsR.mono hrows 0 (U' := Cn.toList) (fun q v hv => by rw [hCl, List.append_assoc, Nat.zero_add, List.getElem?_append_left (List.getElem?_eq_some_iff.1 hv).1]; exact hv) newRD i row hi
        simpa using this
      · have := RowsR.mono hrU (l.length * sz) (U' := Cn.toList) (fun q v hv => by rw [hCl, List.append_assoc, List.getElem?_append_right (by omega), hol, Nat.add_sub_cancel_left, List.getElem?_append_left (List.getElem?_eq_some_iff.1 hv).1]; exact hv) newRD i row hi
        refine ⟨this.1, fun j d hj => ?_⟩
        obtain ⟨v, h3, h4⟩ := this.2 j d hj
        exact ⟨v, by rw [Nat.add_mul, Nat.add_assoc]; exact h3, h4⟩
    have hle : (l ++ l2).length * sz ≤ Cn.size := Nat.le_trans (Nat.mul_le_mul_right _ (by rw [List.length_append]; exact hcap)) hfit
    have hC' := hC.regrow hb hw hsz hbt0 (by rw [List.length_append]; exact hbound) hle hcase (fun i row hi => by simpa using hR i row hi)
    unfold Oper.wp
    rw [hex _ _ hr]
    refine hK _ _ (h E _ _ _ _ hE (hC'.value (dOk_iff hd) ?_))
    simp only [RA]
    exact .inr ⟨q, cap, Cn, T', if_pos rfl, by simp, by rw [List.length_append]; exact hcap, hw, by simpa using hfit⟩

/-- Rows one behind another. -/
theorem flat_len {α : Type} {sz : Nat} : ∀ {l : List (List α)}, (∀ row ∈ l, row.length = sz) → l.flatten.length = l.length * sz
  | [], _ => by simp
  | r :: l, h => by
    rw [List.flatten_cons, List.length_append, flat_len (fun row hr => h row (List.mem_cons_of_mem _ hr)), h r (List.mem_cons_self ..), List.length_cons, Nat.add_mul]
    omega
theorem flat_get {α : Type} {sz : Nat} : ∀ {l : List (List α)}, (∀ row ∈ l, row.length = sz) → ∀ (i j : Nat), j < sz → l.flatten[i * sz + j]? = (l[i]?).bind (·[j]?)
  | [], _, i, j, _ => by simp
  | r :: l, h, 0, j, hj => by
    rw [List.flatten_cons, Nat.zero_mul, Nat.zero_add, List.getElem?_append_left (by rw [h r (List.mem_cons_self ..)]; exact hj)]
    simp
  | r :: l, h, i + 1, j, hj => by
    have hr := h r (List.mem_cons_self ..)
    rw [List.flatten_cons, List.getElem?_append_right (by rw [hr, Nat.add_mul]; omega), hr, show (i + 1) * sz + j - sz = i * sz + j by rw [Nat.add_mul]; omega, flat_get (fun row hr => h row (List.mem_cons_of_mem _ hr)) i j hj]
    simp
theorem RowsR.ras {M : Nat → Prop} {m : Nat → Pl} {w : World} {sz : Nat} {l : List (List D)} {U : List Value} (hsz : 0 < sz) (h : RowsR M w sz l U) (hU : U.length = l.length * sz) : RAs M m w (l.flatten.map .d) U := by
  have hrow : ∀ row ∈ l, row.length = sz := fun row hr => by
    obtain ⟨i, hi⟩ := List.getElem?_of_mem hr
    exact (h i row hi).1
  refine RAs.mk (by rw [List.length_map, flat_len hrow, hU]) fun q x u hx hu => ?_
  have hq : q = q / sz * sz + q % sz := by rw [Nat.mul_comm]; exact (Nat.div_add_mod q sz).symm
  rw [List.getElem?_map, hq, flat_get hrow _ _ (Nat.mod_lt _ hsz), Option.map_eq_some_iff] at hx
  obtain ⟨d, hd, rfl⟩ := hx
  obtain ⟨row, h1, h2⟩ := Option.bind_eq_some_iff.1 hd
  obtain ⟨v, h3, h4⟩ := (h _ row h1).2 _ d h2
  rw [← hq, hu] at h3
  cases h3
  simp only [RA]
  exact h4

end
end Go.Proofs.YtbgfiflnfndckaaDoor.Lift
end
section
/- The lift: rows of one kind as rows of the other; looking at them; bytes as texts and back. No conditions: words and their laws. -/
set_option linter.unusedVariables false
set_option linter.unusedSimpArgs false
namespace Go.Proofs.YtbgfiflnfndckaaDoor.Lift
open Go Go.RowKit

section
variable {P : Program} {W0 : World} {n : Nat}

theorem foldl_bytes : ∀ (l : List UInt8) (acc : ByteArray), ((l.map fun b => (b.toNat : Int)).foldl (fun r n => r.push (UInt8.ofNat n.toNat)) acc) = ⟨acc.data ++ l.toArray⟩
  | [], acc => by simp
  | b :: l, acc => by
    rw [List.map_cons, List.foldl_cons, foldl_bytes l]
    simp [ByteArray.push]
theorem bytes_text (w : World) {src dst e : TypeId} (he : elT P src = some e) (hu : ikT P e = some .u8) (hd : isStr P dst = true) (s : ByteArray) (A : Option Addr) (cap : Nat)
    (hA : s.size = 0 ∨ ∃ g o, A = some ⟨g, o, none⟩ ∧ ∀ (i : Nat) (b : UInt8), s.data[i]? = some b → w.cell? ⟨g, o + i, none⟩ = some (.int .u8 b.toNat)) : (convert src dst (.slice A s.size cap)).run P w = .ok (.string s) w := by
  have hs := elT_iff he
  have hd' := isStr_iff hd
  have hl : ∀ a : Addr, A = some a → (loadCells a s.size).run P w = .ok ((s.data.toList.map fun b => (b.toNat : Int)).map (Value.int .u8)).toArray w := by
    intro a ha
    have := run_loadCells_list (P := P) w a ((s.data.toList.map fun b => (b.toNat : Int)).map (Value.int .u8)) (fun j v hj => by
      rcases hA with h0 | ⟨g, o, h1, h2⟩
      · have : s.data.toList = [] := List.eq_nil_of_length_eq_zero (by rw [Array.length_toList]; exact h0)
        rw [this] at hj
        simp at hj
      · rw [ha] at h1
        cases h1
        simp only [List.map_map, List.getElem?_map, Option.map_eq_some_iff] at hj
        obtain ⟨b, hb, rfl⟩ := hj
        rw [Addr.add_lit]
        exact h2 j b (by simpa using hb))
    have hlen : ((s.data.toList.map fun b => (b.toNat : Int)).map (Value.int .u8)).length = s.size := by
      rw [List.length_map, List.length_map, Array.length_toList]
      rfl
    rw [hlen] at this
    exact this
  rw [run_convert_bytes_string w src dst e _ s.size cap hs (ikT_iff hu) hd']
  cases A with
  | none =>
    rcases hA with h0 | ⟨g, o, h1, _⟩
    · have : s = ByteArray.empty := by
        obtain ⟨d⟩ := s
        have : d = #[] := Array.eq_empty_of_size_eq_zero h0
        rw [this]
        rfl
      rw [this]
      simp [Conv.bytesToString]
    · cases h1
  | some a =>
    rw [run_bytesToString w a s.size cap _ (hl a rfl), foldl_bytes]
    have e : ByteArray.empty.data ++ s.data.toList.toArray = s.data := by
      simp [ByteArray.empty, ByteArray.emptyWithCapacity]
      rfl
    rw [e]

/-- Bytes as a text. -/
theorem A_tostr {Q : Ax → St → Prop} {st : St} {ops : Array Oper} {o : Oper} {rest : List Oper} {y : Operand} {src dst e bt : Nat} {Y : AV} (s : ByteArray) (hg : o.guard = none) (ho : o.op = .convert src dst y) (he : elT P src = some e) (hu : ikT P e = some .u8) (hs : isStr P dst = true)
    (hy : evo (lk st.env) y = some Y) (hY : apR st.bs 1 bt Y = some (bytesD s)) (hd : dOk st.N o.dst = true) (h : AOps P W0 n ops rest Q (st.put o.dst (.d (.v (.string s))))) : AOps P W0 n ops (o :: rest) Q st := by
  intro E M m a w hE hC
  refine wpList_plain hg fun K hK => ?_
  obtain ⟨A, c, U, hxe, hUl, hU1, hUA, hUr⟩ := apR_sound hC (evo_sound hC.env hy) (by decide) hY
  have hr : (execOp a.eval o).run P w = .ok (.value (.string s)) w := by
    have := bytes_text (P := P) w he hu hs s A c (by
      by_cases h0 : s.size = 0
      · exact .inl h0
      · have hne : bytesD s ≠ [] := fun e => h0 (by rw [← bytesD_len, e]; rfl)
        obtain ⟨g, o', rfl, hc⟩ := hUA hne
        refine .inr ⟨g, o', rfl, fun i b hb => ?_⟩
        obtain ⟨_, h2⟩ := hUr i [.v (.int .u8 b.toNat)] (by rw [bytesD_get, hb]; rfl)
        obtain ⟨v, h3, h4⟩ := h2 0 _ rfl
        cases h4
        exact hc i _ (by simpa using h3))
    rw [bytesD_len] at hxe
    simp only [execOp, ho, hxe, Sem.run_bind, this, Result.andThen_ok, Sem.run_pure]
  unfold Oper.wp
  rw [hr]
  exact hK _ _ (h E _ _ _ _ hE (hC.value (dOk_iff hd) (RA.v_mk rfl)))

/-- A text as bytes. -/
theorem A_tobytes {Q : Ax → St → Prop} {st : St} {ops : Array Oper} {o : Oper} {rest : List Oper} {y : Operand} {src dst e : Nat} (s : ByteArray) (hg : o.guard = none) (ho : o.op = .convert src dst y) (he : elT P dst = some e) (hu : ikT P e = some .u8) (hs : isStr P src = true)
    (hy : evo (lk st.env) y = some (.d (.v (.string s)))) (hsz : s.size ≤ 140737488355328) (hd : dOk st.N o.dst = true) (h : AOps P W0 n ops rest Q (st.put o.dst (.d (.rows 1 1 (bytesD s))))) : AOps P W0 n ops (o :: rest) Q st := by
  intro E M m a w hE hC
  refine wpList_plain hg fun K hK => ?_
  have hv := (evo_sound hC.env hy).v_inv.1
  have hcv := Lib.run_convert_string_bytes (P := P) w src dst e s (isStr_iff hs) (elT_iff he) (ikT_iff hu)
  have hr : (execOp a.eval o).run P w = .ok (.value (.slice (some ⟨w.heap.size, 0, none⟩) s.size (grownCap w s.size 0 e))) (Lib.bytesWorld w e s) := by
    simp only [execOp, ho, hv, Sem.run_bind, hcv, Result.andThen_ok, Sem.run_pure]
  have hf : Fr (fun _ => False) w (Lib.bytesWorld w e s) := by
    refine ⟨rfl, ?_, ?_, by rw [Lib.bytesWorld_size]; omega, fun k hk _ => Lib.bytesWorld_at_old w e s k hk, fun k C T hk => ⟨C, (Lib.bytesWorld_at_old w e s k (Array.getElem?_eq_some_iff.1 hk).1).trans hk, rfl⟩⟩
    · rfl
    · rfl
  have hC' : C W0 E M m st a (Lib.bytesWorld w e s) := hC.chg hf (hC.base.trans hf) (fun _ h => h) (fun _ h => .inl h) (fun k hk => Nat.lt_of_lt_of_le (hC.mLt k hk) hf.size)
  unfold Oper.wp
  rw [hr]
  refine hK _ _ (h E _ _ _ _ hE (hC'.value (dOk_iff hd) ?_))
  have hge := grownCap_ge w s.size 0 e
  have := RD.rows (M := M) (w := Lib.bytesWorld w e s) 1 1 (bytesD s) (some ⟨w.heap.size, 0, none⟩) (grownCap w s.size 0 e) (fun i _ => .int .u8 (s.data.toList.getD i 0).toNat) (by decide) (by rw [bytesD_len]; omega) (by rw [bytesD_len]; exact hge) (fun i row hi => ?_) (fun i row j d hi hj => ?_)
  · simp only [RA]
    rw [bytesD_len] at this
    exact this
  · rw [bytesD_get, Option.map_eq_some_iff] at hi
    obtain ⟨b, hb, rfl⟩ := hi
    have hlt : i < s.size := (Array.getElem?_eq_some_iff.1 hb).1
    refine ⟨rfl, w.heap.size, 0, rfl, fun j hj => ⟨fun hm => absurd (hC.mLt _ hm) (Nat.lt_irrefl _), ?_⟩⟩
    obtain rfl : j = 0 := by omega
    have := Lib.bytesWorld_cell w e s i hlt
    simpa using this
  · rw [bytesD_get, Option.map_eq_some_iff] at hi
    obtain ⟨b, hb, rfl⟩ := hi
    match j, hj with
    | 0, hj =>
      cases hj
      have : s.data.toList.getD i 0 = b := by simp [List.getD, hb]
      rw [this]
      exact .v _ rfl
    | j + 1, hj => simp at hj
end
end Go.Proofs.YtbgfiflnfndckaaDoor.Lift
end
section
/- The lift: a variable's slice without room; calls that are handed boxes, told one by one. No conditions: words and their laws. -/
set_option linter.unusedVariables false
set_option linter.unusedSimpArgs false
namespace Go.Proofs.YtbgfiflnfndckaaDoor.Lift
open Go Go.RowKit

section
variable {P : Program} {W0 : World} {n : Nat}

/-- A variable's slice without room is taken for a row of one's own, without elements. -/
theorem Sb.opnC {st : St} {b j sz bt : Nat} {cs : List AV} (hb : st.bs[b]? = some (.var cs)) (h : cs[j]? = some (.d .e)) (hsz : 0 < sz) (hbt : 0 < bt) : Sb W0 n st ⟨st.N, st.env, st.bs.set b (.var (cs.set j (.sl st.bs.length sz 0 0))) ++ [.vec sz bt []]⟩ := by
  intro E M m a w hn hC
  have hblt : b < st.bs.length := (List.getElem?_eq_some_iff.1 hb).1
  have hg : ∀ b, m b ≠ .no → mAdd m st.bs.length .virt b = m b := fun b hb => by
    unfold mAdd
    rw [if_neg]
    intro e
    exact hb (hC.mNo b (by omega))
  have at_ : ∀ b k, mAdd m st.bs.length .virt b = .at_ k → m b = .at_ k := fun b k hb => by
    unfold mAdd at hb
    split at hb
    · cases hb
    · exact hb
  refine ⟨M, mAdd m st.bs.length .virt, { hC with mNo := ?_, mIn := fun b k hb => hC.mIn b k (at_ b k hb), inj := fun b b' k hb hb' => hC.inj b b' k (at_ b k hb) (at_ b' k hb'), oldv := ?_, oldr := fun b k hb hk => hC.oldr b k hb (at_ b k hk), new := fun b k hb hk => hC.new b k hb (at_ b k hk), len := ?_, box := ?_, env := fun t y hy => RA.grow hg (hC.env t y hy) }⟩
  · intro b hb
    simp at hb
    unfold mAdd
    rw [if_neg (by omega)]
    exact hC.mNo b (by omega)
  · intro b' cs' hb' hc
    have := hC.len
    simp only at hc
    rw [List.getElem?_append_left (by simp; omega)] at hc
    have hold : ∃ cs0, st.bs[b']? = some (.var cs0) := by
      by_cases e : b' = b
      · exact ⟨cs, e ▸ hb⟩
      · rw [List.getElem?_set_ne (Ne.symm e)] at hc
        exact ⟨_, hc⟩
    obtain ⟨cs0, h0⟩ := hold
    rw [← hC.oldv b' cs0 hb' h0]
    unfold mAdd
    rw [if_neg (by omega)]
  · have := hC.len
    simp
    omega
  · intro b' y hb'
    by_cases hlt : b' < st.bs.length
    · simp only at hb'
      rw [List.getElem?_append_left (by simpa using hlt)] at hb'
      by_cases e : b' = b
      · subst e
        rw [List.getElem?_set_self hblt] at hb'
        cases hb'
        obtain ⟨k, Cs, T, h1, h2, h3⟩ := hC.box b' _ hb
        refine ⟨k, Cs, T, (hg b' (by simp [h1])).trans h1, h2, RAs.mk (by simpa using h3.length) fun i x u hx hu => ?_⟩
        rw [List.getElem?_set] at hx
        split at hx
        · rename_i e
          subst e
          split at hx
          · cases hx
            obtain ⟨u', h4, h5⟩ := h3.get h
            rw [hu] at h4
            cases h4
            simp only [RA] at h5 ⊢
            refine .inl ⟨trivial, trivial, if_pos rfl, ?_⟩
            cases h5 with
            | e A => exact ⟨A, rfl⟩
          · cases hx
        · obtain ⟨u', h4, h5⟩ := h3.get hx
          rw [hu] at h4
          cases h4
          exact RA.grow hg h5
      · rw [List.getElem?_set_ne (Ne.symm e)] at hb'
        exact (hC.box b' y hb').grow hg
    · have hbe : b' = st.bs.length := by
        have := (List.getElem?_eq_some_iff.1 hb').1
        simp at this
        omega
      subst hbe
      simp at hb'
      subst hb'
      exact ⟨hsz, hbt, by simp, .inl ⟨if_pos rfl, rfl⟩⟩

def selOk (bs : List Box) (σ : Nat → Nat) : List Nat → List Box → Prop
  | [], [] => True
  | b :: sel, x :: L => bs[b]? = some (renB σ x) ∧ selOk bs σ sel L
  | _, _ => False
theorem selOk_get {bs : List Box} {σ : Nat → Nat} : ∀ {sel : List Nat} {L : List Box}, selOk bs σ sel L → L.length = sel.length ∧ ∀ (i b : Nat), sel[i]? = some b → bs[b]? = (L[i]?).map (renB σ)
  | [], [], _ => ⟨rfl, fun i b h => by simp at h⟩
  | c :: sel, x :: L, h => by
    obtain ⟨h1, h2⟩ := selOk_get h.2
    refine ⟨by simp [h1], fun i b hi => ?_⟩
    cases i with
    | zero =>
      simp only [List.getElem?_cons_zero, Option.some.injEq] at hi
      subst hi
      exact h.1
    | succ i => exact h2 i b (by simpa using hi)
  | [], _ :: _, h => h.elim
  | _ :: _, [], h => h.elim

/-- A call that is handed some boxes. -/
theorem A_callS {Q : Ax → St → Prop} {st : St} {ops : Array Oper} {o : Oper} {rest : List Oper} {fo : Operand} {args : Array Operand} {ts : Array TypeId} {f : FuncId} {caps xs : List AV} (sel : List Nat) {cargs : List AV} {L : List Box} {R : Res → List Box → Prop} (hcall : ACalls P W0 f cargs L R)
    (hg : o.guard = none) (ho : o.op = .call ⟨.value fo, args, ts⟩) (hf : evo (lk st.env) fo = some (.fn f caps)) (ha : evl (lk st.env) args.toList = some xs) (hc : callable P f = true) (hd : dOk st.N o.dst = true)
    (hn : sel.Nodup) (hL : selOk st.bs (sg sel st.bs.length) sel L) (hargs : renL (sg sel st.bs.length) cargs = xs ++ caps)
    (h : ∀ r L', R r L' → kindsOk L L' = true ∧ match r with | .ret x => AOps P W0 n ops rest Q ((st.aft sel L L').put o.dst (renA (sg sel st.bs.length) x)) | .panic x => Q (.panic (renA (sg sel st.bs.length) x)) (st.aft sel L L')) : AOps P W0 n ops (o :: rest) Q st :=
  A_callB sel hcall hg ho hf ha hc hd hn (selOk_get hL).1 (selOk_get hL).2 hargs h

/-- A function that answers a row of its asker's own answers data. -/
theorem ACalls.frozen {f : FuncId} {args : List AV} {sz bt k : Nat} {l : List (List D)} (hk : k = l.length) (h : ACalls P W0 f args [] (fun r L' => r = .ret (.sl 0 sz 0 k) ∧ L' = [.vec sz bt l])) : APure P W0 f args (· = .ret (.d (.rows sz bt l))) := by
  subst hk
  intro M m w us hc ha
  refine (h M m w us hc ha).mono ?_
  rintro e w' ⟨r, L', M', m', ⟨rfl, rfl⟩, hres, hC⟩
  cases e with
  | returned u =>
    have h3 := hC.frame (args := [.sl 0 sz 0 l.length]) (us := #[u]) (N := 1) (by simp only [RAs, and_true]; exact hres) (by simp)
    obtain ⟨M2, m2, h4⟩ := Sb.freeze (W0 := W0) (n := 0) 0 (sz := sz) (bt := bt) (l := l) rfl (Nat.zero_le _) _ M' m' _ w' rfl h3
    have hx := h4.env 0 (.d (.rows sz bt l)) (by simp [fzE, lk_mapE, mkEnv, lk_ofL, lkA, fzA])
    obtain ⟨M3, m3, h5, h6⟩ := fin_pure (W0 := W0) (x := .d (.rows sz bt l)) (x' := .d (.rows sz bt l)) rfl (Le.refl _) _ M2 m2 _ w' u rfl h4 (by simpa using hx)
    exact ⟨_, [], M3, m3, ⟨rfl, rfl⟩, h6, h5⟩
  | panicked c => exact hres.elim
  | outgrown => exact hres.elim
end
end Go.Proofs.YtbgfiflnfndckaaDoor.Lift
end
section
/- The lift: the rules again, in a short form; their small duties done where they stand. No conditions: words and their laws. -/
set_option linter.unusedVariables false
set_option linter.unusedSimpArgs false
namespace Go.Proofs.YtbgfiflnfndckaaDoor.Lift
open Go Go.RowKit

attribute [go_sem] Nat.reduceLT Nat.reduceLeDiff Nat.reduceAdd Nat.reduceSub Nat.reduceMul Nat.reduceEqDiff Nat.reduceBEq Nat.reduceBNe Nat.reduceMod Nat.reduceDiv Int.reduceEq Int.reduceNe Int.reduceLT Int.reduceLE Int.reduceToNat Int.reduceBEq Int.reduceBNe Int.reduceNeg reduceIte reduceCtorEq reduceDIte Value.oneCell'
attribute [go_sem] avK avK.avKs
attribute [go_sem] TQ
attribute [go_sem] runTo stepT_ap onSome_some opR evo lk lk1 lk2 put1 put2 putE ofL mapE evl evs evm ldAt ldV faV fdV nilV ixV ibV lenV put_s put_n putL_s dOk scal2 iop sop fop shop unV cvV mmV bitsV pickV slV bnd stAt over bdV bsV fillA toDs chunk cst cst1 AV.cells AV.one List.all_cons List.all_nil List.length_cons List.length_nil List.map_cons List.map_nil List.length_map List.nil_append List.cons_append List.append_nil List.getElem?_cons_zero List.getElem?_cons_succ List.set_cons_zero List.set_cons_succ List.set_nil List.take_succ_cons List.take_zero List.take_nil List.drop_succ_cons List.drop_zero List.drop_nil List.head?_cons List.size_toArray List.getD_cons_zero List.getD_cons_succ List.range_succ List.range_zero Option.bind_some Option.map_some Option.bind_none Option.map_none Option.some.injEq Option.isSome_some Bool.and_true Bool.true_and Bool.and_self Bool.not_true Bool.not_false Bool.false_and Bool.and_false Bool.or_true Bool.true_or Bool.or_false Bool.false_or Bool.not_not Bool.not_or_self Bool.or_not_self Bool.cond_true Bool.cond_false Bool.cond_false_right Bool.cond_true_left Bool.false_eq_true Bool.true_eq_false decide_true decide_false decide_eq_true_eq and_true true_and and_self if_true if_false ite_true ite_false true_or or_true not_true not_false_eq_true ne_eq eq_self beq_self_eq_true bne_self_eq_false Nat.add_zero Nat.zero_add Nat.lt_irrefl Nat.le_refl Nat.sub_zero Nat.zero_le Nat.succ_ne_zero Int.toNat_natCast Int.natCast_nonneg ge_iff_le gt_iff_lt
attribute [go_sem] Int.cast_ofNat_Int Int.natCast_zero Thn InB killE killA killB killL killPE killP killPB killPL St.aft moved isVar setAll renA renB renL fzE fzA fzL fzB fvE fvA fvL fvB noName noNames namesAll AV.names envBelow boxBelow
@[go_sem] theorem all_one (l : List D) : (l.map AV.d).all AV.one = true := by induction l <;> simp_all [AV.one]
@[go_sem] theorem names_ds (p : Nat → Bool) (l : List D) : namesAll p (l.map AV.d) = true := by induction l <;> simp_all [namesAll, AV.names]
@[go_sem] theorem killPL_ds (p : Nat → Bool) (l : List D) : killPL p (l.map AV.d) = l.map AV.d := by induction l <;> simp_all [killPL, killP]
@[go_sem] theorem killL_ds (b : Nat) (l : List D) : killL b (l.map AV.d) = l.map AV.d := by induction l <;> simp_all [killL, killA]
@[go_sem] theorem fzL_ds (b sz bt : Nat) (r : List (List D)) (l : List D) : fzL b sz bt r (l.map AV.d) = l.map AV.d := by induction l <;> simp_all [fzL, fzA]
@[go_sem] theorem renL_ds (σ : Nat → Nat) (l : List D) : renL σ (l.map AV.d) = l.map AV.d := by induction l <;> simp_all [renL, renA]
@[go_sem] theorem sg_nil (k i : Nat) : sg [] k i = k + i := by simp [sg]
theorem take_len {α : Type} {l : List α} {n : Nat} (h : l.length = n) : l.take n = l := by subst h; exact List.take_length
theorem drop_len {α : Type} {l : List α} {n : Nat} (h : l.length = n) : l.drop n = [] := by subst h; exact List.drop_length
attribute [go_sem] List.take_length List.drop_length
@[go_sem] theorem take_map {α β : Type} (f : α → β) (l : List α) : (l.map f).take l.length = l.map f := take_len (List.length_map ..)
theorem wrap_succ {i : Nat} (h : i < 9223372036854775807) : IntKind.i64.wrap ((i : Int) + 1) = ((i + 1 : Nat) : Int) := by
  rw [IntKind.wrap_i64]
  omega
theorem wrap_in {x : Int} (h0 : -9223372036854775808 ≤ x) (h1 : x ≤ 9223372036854775807) : IntKind.i64.wrap x = x := by
  rw [IntKind.wrap_i64]
  omega
theorem eSub_nil (env : List (List (Option AV))) : eSub env [] := trivial
theorem eSub_cons {env : List (List (Option AV))} {l : List (Nat × AV)} {t : Nat} {x : AV} (h : lk env t = some x) (h' : eSub env l) : eSub env ((t, x) :: l) := ⟨⟨x, h, Le.refl x⟩, h'⟩
@[go_sem] theorem toDs_map (l : List D) : toDs (l.map .d) = some l := by
  induction l with
  | nil => rfl
  | cons x l ih => simp [toDs, ih]

section
variable {P : Program} {W0 : World} {n : Nat}

/-- What is left of a region, its guards told. -/
def AOpsG (P : Program) (W0 : World) (n : Nat) (ops : Array Oper) (l : List Oper) (gs : List (Option (Option Nat × Bool))) (Q : Ax → St → Prop) (st : St) : Prop := gsl ops l = gs → AOps P W0 n ops l Q st
@[congr] theorem AOpsG_congr {ops : Array Oper} {l : List Oper} {gs : List (Option (Option Nat × Bool))} {Q : Ax → St → Prop} {st st' : St} (h : st = st') : AOpsG P W0 n ops l gs Q st = AOpsG P W0 n ops l gs Q st' := by rw [h]
/-- As many steps as there are that call nobody; then what is behind the region, or what is left. -/
def run2 (P : Program) (W0 : World) (n : Nat) (ops : Array Oper) (Q : Ax → St → Prop) : List Oper → List (Option (Option Nat × Bool)) → St → Prop
  | [], gs, st => Q .normal st
  | o :: l, [], st => AOpsG P W0 n ops (o :: l) [] Q st
  | o :: l, none :: gs, st => onSome (opR P (lk st.env) st.bs o.op) (fun p => dOk st.N o.dst = true ∧ run2 P W0 n ops Q l gs ((⟨st.N, st.env, p.2⟩ : St).put o.dst p.1)) (AOpsG P W0 n ops (o :: l) (none :: gs) Q st)
  | o :: l, some g :: gs, st => onSome (stepG P st.bs st.env o.op (some g)) (fun x => dOk st.N o.dst = true ∧ run2 P W0 n ops Q l gs (st.put o.dst x)) (AOpsG P W0 n ops (o :: l) (some g :: gs) Q st)
@[go_sem] theorem run2_nil (ops : Array Oper) (Q : Ax → St → Prop) (gs : List (Option (Option Nat × Bool))) (st : St) : run2 P W0 n ops Q [] gs st = Q .normal st := by cases gs <;> rfl
@[go_sem] theorem run2_n (ops : Array Oper) (Q : Ax → St → Prop) (o : Oper) (l : List Oper) (gs : List (Option (Option Nat × Bool))) (st : St) : run2 P W0 n ops Q (o :: l) (none :: gs) st = onSome (opR P (lk st.env) st.bs o.op) (fun p => dOk st.N o.dst = true ∧ run2 P W0 n ops Q l gs ((⟨st.N, st.env, p.2⟩ : St).put o.dst p.1)) (AOpsG P W0 n ops (o :: l) (none :: gs) Q st) := (Eq.refl _).trans rfl
@[go_sem] theorem run2_s (ops : Array Oper) (Q : Ax → St → Prop) (o : Oper) (l : List Oper) (g : Option Nat × Bool) (gs : List (Option (Option Nat × Bool))) (st : St) : run2 P W0 n ops Q (o :: l) (some g :: gs) st = onSome (stepG P st.bs st.env o.op (some g)) (fun x => dOk st.N o.dst = true ∧ run2 P W0 n ops Q l gs (st.put o.dst x)) (AOpsG P W0 n ops (o :: l) (some g :: gs) Q st) := (Eq.refl _).trans rfl
@[congr] theorem run2_congr {ops : Array Oper} {Q : Ax → St → Prop} {l : List Oper} {gs : List (Option (Option Nat × Bool))} {st st' : St} (h : st = st') : run2 P W0 n ops Q l gs st = run2 P W0 n ops Q l gs st' := by rw [h]
theorem A_qstep {Q : Ax → St → Prop} {st : St} {ops : Array Oper} {o : Oper} {rest : List Oper} {x : AV} (hd : dOk st.N o.dst = true) (hy : Yl P W0 st.bs ops (lk st.env) o x) (h : AOps P W0 n ops rest Q (st.put o.dst x)) : AOps P W0 n ops (o :: rest) Q st := by
  intro E M m a w hn hC
  refine wpList_step fun K hK => Yl_sound (CE.of hC) hd hy fun M' a' w' hc' => hK _ _ (h E M' m a' w' hn ?_)
  have := CE.to (env := putL o.dst x st.env) (by rw [lk_putL]; exact hc')
  cases ho : o.dst <;> rw [ho] at this <;> exact this
theorem gsl_none {ops : Array Oper} {o : Oper} {l : List Oper} {gs : List (Option (Option Nat × Bool))} (h : gsl ops (o :: l) = none :: gs) : o.guard = none ∧ gsl ops l = gs := by
  simpa only [gsl, List.map_cons, List.cons.injEq, Option.map_eq_none_iff] using h
theorem run2_ops {ops : Array Oper} {Q : Ax → St → Prop} : ∀ {l : List Oper} {gs : List (Option (Option Nat × Bool))} {st : St}, run2 P W0 n ops Q l gs st → AOpsG P W0 n ops l gs Q st
  | [], gs, st, h => fun _ => A_nil (by simpa only [run2_nil] using h)
  | o :: l, [], st, h => h
  | o :: l, none :: gs, st, h => by
    rw [run2_n] at h
    cases hs : opR P (lk st.env) st.bs o.op with
    | none =>
      rw [hs] at h
      exact h
    | some p =>
      rw [hs] at h
      intro hg
      obtain ⟨h1, h2⟩ := gsl_none hg
      exact A_step h1 hs h.1 (run2_ops h.2 h2)
  | o :: l, some g :: gs, st, h => by
    rw [run2_s] at h
    cases hs : stepG P st.bs st.env o.op (some g) with
    | none =>
      rw [hs] at h
      exact h
    | some x =>
      rw [hs] at h
      intro hg
      simp only [gsl, List.map_cons, List.cons.injEq] at hg
      exact A_qstep h.1 (stepG_Yl hg.1 hs) (run2_ops h.2 hg.2)

variable {Q : Ax → St → Prop} {st : St}
theorem wS {x y : Code} (h : ACode P W0 n x (Thn (ACode P W0 n y Q) Q) st) : ACode P W0 n (.seq x y) Q st := A_seq h
theorem wB {id : Nat} {c : Code} (h : ACode P W0 n c (InB id Q) st) : ACode P W0 n (.block id c) Q st := A_block h
theorem wR {id : Nat} {l : List Oper} {gs : List (Option (Option Nat × Bool))} (h : run2 P W0 n l.toArray Q l gs st) (hg : gsl l.toArray l = gs := by (simp only [gsl, List.map_cons, List.map_nil, Option.map_none, Option.map_some, List.getElem?_toArray, List.getElem?_cons_zero, List.getElem?_cons_succ, Option.bind_some] <;> rfl)) : ACode P W0 n (.region id l.toArray false) Q st := A_region (run2_ops h hg)
theorem wT {c : Operand} {x y : Code} (hc : evo (lk st.env) c = some (.d (.v (.bool true)))) (h1 : ACode P W0 n x Q st) : ACode P W0 n (.cond c x y) Q st := A_condt hc h1
theorem wF {c : Operand} {x y : Code} (hc : evo (lk st.env) c = some (.d (.v (.bool false)))) (h1 : ACode P W0 n y Q st) : ACode P W0 n (.cond c x y) Q st := A_condf hc h1
theorem wI {c : Operand} {x y : Code} {t : Bool} (h1 : t = true → ACode P W0 n x Q st) (h2 : t = false → ACode P W0 n y Q st) (hc : evo (lk st.env) c = some (.d (.v (.bool t))) := by rfl) : ACode P W0 n (.cond c x y) Q st := A_cond hc h1 h2
theorem wK (h : Q .normal st) : ACode P W0 n .skip Q st := A_skip h
theorem wE {id : Nat} (h : Q (.exit id) st) : ACode P W0 n (.exit id) Q st := A_exit h
theorem wX (h : Q .ret st) : ACode P W0 n .ret Q st := A_ret h

variable {ops : Array Oper} {o : Oper} {rest : List Oper} {gs : List (Option (Option Nat × Bool))}
/-- A call of a pure function. -/
theorem wC {fo : Operand} {args : Array Operand} {ts : Array TypeId} {f : FuncId} {caps xs cargs : List AV} {y : AV} (hcall : APure P W0 f cargs (· = .ret y)) (h : run2 P W0 n ops Q rest gs (st.put o.dst y))
    (ho : o.op = .call ⟨.value fo, args, ts⟩ := by rfl) (hf : evo (lk st.env) fo = some (.fn f caps) := by rfl) (ha : evl (lk st.env) args.toList = some xs := by rfl) (hx : xs ++ caps = cargs := by rfl)
    (hc : callable P f = true := by first | assumption | simp only [go_sem]) (hd : dOk st.N o.dst = true := by rfl) (hn : noNames cargs = true := by first | rfl | simp only [go_sem]) (hy : noName y = true := by first | rfl | simp only [go_sem]) : AOpsG P W0 n ops (o :: rest) (none :: gs) Q st := by
  intro hG
  obtain ⟨hg, hG⟩ := gsl_none hG
  subst hx
  exact A_call hcall hg ho hf ha hc hd hn (by rintro r rfl; exact ⟨hy, run2_ops h hG⟩)
/-- A call that panics. -/
theorem wP {fo : Operand} {args : Array Operand} {ts : Array TypeId} {f : FuncId} {caps xs cargs : List AV} {y : AV} (hcall : APure P W0 f cargs (· = .panic y)) (h : Q (.panic y) st)
    (ho : o.op = .call ⟨.value fo, args, ts⟩ := by rfl) (hf : evo (lk st.env) fo = some (.fn f caps) := by rfl) (ha : evl (lk st.env) args.toList = some xs := by rfl) (hx : xs ++ caps = cargs := by rfl)
    (hc : callable P f = true := by first | assumption | simp only [go_sem]) (hd : dOk st.N o.dst = true := by rfl) (hn : noNames cargs = true := by first | rfl | simp only [go_sem]) (hy : noName y = true := by first | rfl | simp only [go_sem]) : AOpsG P W0 n ops (o :: rest) (none :: gs) Q st := by
  intro hG
  obtain ⟨hg, hG⟩ := gsl_none hG
  subst hx
  exact A_call hcall hg ho hf ha hc hd hn (by rintro r rfl; exact ⟨hy, h⟩)
/-- A call that is handed boxes and answers in one way. -/
theorem wCB {fo : Operand} {args : Array Operand} {ts : Array TypeId} {f : FuncId} {caps xs : List AV} (sel : List Nat) {cargs : List AV} {L L' : List Box} {x : AV} (hcall : ACalls P W0 f cargs L (fun r K => r = .ret x ∧ K = L'))
    (h : run2 P W0 n ops Q rest gs ((st.aft sel L L').put o.dst (renA (sg sel st.bs.length) x)))
    (ho : o.op = .call ⟨.value fo, args, ts⟩ := by rfl) (hf : evo (lk st.env) fo = some (.fn f caps) := by rfl) (ha : evl (lk st.env) args.toList = some xs := by rfl) (hc : callable P f = true := by first | assumption | simp only [go_sem]) (hd : dOk st.N o.dst = true := by rfl)
    (hn : sel.Nodup := by decide) (hL : selOk st.bs (sg sel st.bs.length) sel L := by repeat (first | trivial | refine ⟨rfl, ?_⟩)) (hargs : renL (sg sel st.bs.length) cargs = xs ++ caps := by first | rfl | simp only [go_sem]) (hk : kindsOk L L' = true := by rfl) : AOpsG P W0 n ops (o :: rest) (none :: gs) Q st := fun hG => let ⟨hg, hG⟩ := gsl_none hG;
  A_callS sel hcall hg ho hf ha hc hd hn hL hargs (by rintro r K ⟨rfl, rfl⟩; exact ⟨hk, run2_ops h hG⟩)
theorem wPanic {y : Operand} {t : TypeId} {u : Value} (h : Q (.panic (.d (.v (.iface t u)))) st) (ho : o.op = .panic y := by rfl) (hy : evo (lk st.env) y = some (.d (.v (.iface t u))) := by rfl) : AOpsG P W0 n ops (o :: rest) (none :: gs) Q st := fun hG => let ⟨hg, hG⟩ := gsl_none hG; A_panic hg ho hy h

/-- An append of data to a row of one's own. -/
theorem wA {s x : Operand} {T e sz bt b k : Nat} {X : AV} (l l2 : List (List D)) {z : List Value}
    (h : run2 P W0 n ops Q rest gs ((⟨st.N, killE b st.env, (st.bs.map (killB b)).set b (.vec sz bt (l ++ l2))⟩ : St).put o.dst (.sl b sz 0 (l ++ l2).length)))
    (ho : o.op = .call ⟨.builtin .append, #[s, x], #[T, T]⟩ := by rfl) (he : elT P T = some e := by simp only [go_sem] <;> rfl) (hs : szT P e = some sz := by simp only [go_sem] <;> rfl) (hbt : btT P e = some bt := by simp only [go_sem] <;> rfl) (hz : zrT P e = some z := by simp only [go_sem] <;> rfl) (hzl : z.length = sz := by rfl)
    (h1 : evo (lk st.env) s = some (.sl b sz 0 k) := by rfl) (hk : k = l.length := by first | rfl | (simp; done) | (simp; omega)) (hb : st.bs[b]? = some (.vec sz bt l) := by rfl) (h2 : evo (lk st.env) x = some X := by rfl) (hX : apR st.bs sz bt X = some l2 := by first | rfl | (simp [apR]; done)) (hd : dOk st.N o.dst = true := by rfl) (hbound : (l.length + l2.length) * bt ≤ 140737488355328) : AOpsG P W0 n ops (o :: rest) (none :: gs) Q st := fun hG => let ⟨hg, hG⟩ := gsl_none hG;
  A_appendG hg ho he hs hbt hz hzl h1 hk hb (fun E M m a w hC => src_rows hC he (hC.box b _ hb).1 h2 hX) hd hbound (run2_ops h hG)
/-- An append of a text's bytes to bytes of one's own. -/
theorem wAS {s x : Operand} {T tx e bt b k : Nat} (l : List (List D)) (t : ByteArray) {z : List Value}
    (h : run2 P W0 n ops Q rest gs ((⟨st.N, killE b st.env, (st.bs.map (killB b)).set b (.vec 1 bt (l ++ bytesD t))⟩ : St).put o.dst (.sl b 1 0 (l ++ bytesD t).length)))
    (ho : o.op = .call ⟨.builtin .append, #[s, x], #[T, tx]⟩ := by rfl) (he : elT P T = some e := by simp only [go_sem] <;> rfl) (hs : szT P e = some 1 := by simp only [go_sem] <;> rfl) (hbt : btT P e = some bt := by simp only [go_sem] <;> rfl) (hz : zrT P e = some z := by simp only [go_sem] <;> rfl) (hzl : z.length = 1 := by rfl) (htx : isStr P tx = true := by simp only [go_sem])
    (h1 : evo (lk st.env) s = some (.sl b 1 0 k) := by rfl) (hk : k = l.length := by first | rfl | (simp; done) | (simp; omega)) (hb : st.bs[b]? = some (.vec 1 bt l) := by rfl) (h2 : evo (lk st.env) x = some (.d (.v (.string t))) := by rfl) (hd : dOk st.N o.dst = true := by rfl) (hbound : (l.length + t.size) * bt ≤ 140737488355328) : AOpsG P W0 n ops (o :: rest) (none :: gs) Q st := fun hG => let ⟨hg, hG⟩ := gsl_none hG;
  A_appendG hg ho he hs hbt hz hzl h1 hk hb (fun E M m a w hC => src_text hC htx h2) hd (by rw [bytesD_len]; exact hbound) (run2_ops h hG)
theorem wStr {y : Operand} {src dst e bt : Nat} {Y : AV} (s : ByteArray) (h : run2 P W0 n ops Q rest gs (st.put o.dst (.d (.v (.string s))))) (ho : o.op = .convert src dst y := by rfl) (he : elT P src = some e := by simp only [go_sem] <;> rfl) (hu : ikT P e = some .u8 := by simp only [go_sem]) (hs : isStr P dst = true := by simp only [go_sem])
    (hy : evo (lk st.env) y = some Y := by rfl) (hY : apR st.bs 1 bt Y = some (bytesD s) := by first | rfl | (simp [apR]; done)) (hd : dOk st.N o.dst = true := by rfl) : AOpsG P W0 n ops (o :: rest) (none :: gs) Q st := fun hG => let ⟨hg, hG⟩ := gsl_none hG; A_tostr s hg ho he hu hs hy hY hd (run2_ops h hG)
/-- A row of one's own is made, without elements, with room for so many. -/
theorem A_make {T e sz bt c : Nat} {k1 k2 : IntKind} {lo hi : Operand} {z : List Value} (h : run2 P W0 n ops Q rest gs ((⟨st.N, st.env, st.bs ++ [.vec sz bt []]⟩ : St).put o.dst (.sl st.bs.length sz 0 0)))
    (ho : o.op = .makeSlice T lo hi := by rfl) (he : elT P T = some e := by simp only [go_sem] <;> rfl) (hs : szT P e = some sz := by simp only [go_sem] <;> rfl) (hbt : btT P e = some bt := by simp only [go_sem] <;> rfl) (hz : zrT P e = some z := by simp only [go_sem] <;> rfl) (hzl : z.length = sz := by rfl)
    (hlo : evo (lk st.env) lo = some (.d (.v (.int k1 0))) := by rfl) (hhi : evo (lk st.env) hi = some (.d (.v (.int k2 (c : Nat)))) := by rfl) (hsz : 0 < sz := by decide) (hbt0 : 0 < bt := by decide) (hd : dOk st.N o.dst = true := by rfl) (hcb : c * bt ≤ 140737488355328) : AOpsG P W0 n ops (o :: rest) (none :: gs) Q st := by
  intro hG
  obtain ⟨hg, hG⟩ := gsl_none hG
  intro E M m a w hE hC
  refine wpList_plain hg fun K hK => ?_
  have hu := elT_iff he
  unfold btT at hbt
  unfold zrT at hz
  cases hi' : P.info? e with
  | none => simp [hi'] at hbt
  | some it =>
  simp only [hi', Option.map_some, Option.some.injEq] at hbt
  simp only [hi', Option.bind_some, Option.map_eq_some_iff] at hz
  obtain ⟨zv, hzr, hzv⟩ := hz
  have hits : it.size = sz := by simpa [szT, hi'] using hs
  have hzs : zv.cells.size = sz := by rw [← Array.length_toList, hzv]; exact hzl
  have h1 := (evo_sound hC.env hlo).v_inv.1
  have h2 := (evo_sound hC.env hhi).v_inv.1
  have hcle : c ≤ 140737488355328 := Nat.le_trans (Nat.le_mul_of_pos_right c hbt0) hcb
  have hcb' : (it.bytes : Int) * (c : Int) ≤ 281474976710656 := by
    rw [hbt, ← Int.natCast_mul, Nat.mul_comm]
    omega
  have hr := run_make (P := P) w T e it zv hu hi' hzr k1 k2 0 (c : Int) (by omega) (by omega) hcb' (by omega)
  have hx : (execOp a.eval o).run P w = .ok (.value (.slice (some ⟨w.heap.size, 0, none⟩) 0 c)) (w.alloc (.cells (madeCells zv.cells (c * it.size)) e)) := by
    simp only [execOp, ho, h1, h2, Sem.run_bind, hr, Result.andThen_ok, Sem.run_pure]
    rfl
  unfold Oper.wp
  rw [hx]
  have hlen : (madeCells zv.cells (c * it.size)).size = c * sz := by rw [hits]; simp [madeCells]
  refine hK _ _ (run2_ops h hG E _ _ _ _ hE ((hC.alloc (.cells (madeCells zv.cells (c * it.size)) e) (.vec sz bt []) ⟨hsz, hbt0, by simp, .inr ⟨w.heap.size, _, e, by simp [mAdd], heap_alloc_new w _, by simp, fun i row hi => by simp at hi⟩⟩).value (dOk_iff hd) ?_))
  simp only [RA]
  exact .inr ⟨w.heap.size, c, _, e, by simp [mAdd], by simp, Nat.zero_le _, heap_alloc_new w _, by rw [hlen]; simp⟩

/-- A quiet region; its calls. -/
def run3 (P : Program) (W0 : World) (bs : List Box) (ops : Array Oper) (K : List (List (Option AV)) → Prop) : List Oper → List (Option (Option Nat × Bool)) → List (List (Option AV)) → Prop
  | [], gs, env => K env
  | o :: l, [], env => aqg P W0 bs ops K (o :: l) [] env
  | o :: l, g :: gs, env => onSome (stepG P bs env o.op g) (fun x => run3 P W0 bs ops K l gs (putL o.dst x env)) (aqg P W0 bs ops K (o :: l) (g :: gs) env)
@[go_sem] theorem run3_nil (bs : List Box) (ops : Array Oper) (K : List (List (Option AV)) → Prop) (gs : List (Option (Option Nat × Bool))) (env : List (List (Option AV))) : run3 P W0 bs ops K [] gs env = K env := by
  cases gs <;> rfl
@[go_sem] theorem run3_cons (bs : List Box) (ops : Array Oper) (K : List (List (Option AV)) → Prop) (o : Oper) (l : List Oper) (g : Option (Option Nat × Bool)) (gs : List (Option (Option Nat × Bool))) (env : List (List (Option AV))) :
    run3 P W0 bs ops K (o :: l) (g :: gs) env = onSome (stepG P bs env o.op g) (fun x => run3 P W0 bs ops K l gs (putL o.dst x env)) (aqg P W0 bs ops K (o :: l) (g :: gs) env) := (Eq.refl _).trans rfl
@[congr] theorem run3_congr {bs : List Box} {ops : Array Oper} {K : List (List (Option AV)) → Prop} {l : List Oper} {gs : List (Option (Option Nat × Bool))} {env env' : List (List (Option AV))} (h : env = env') : run3 P W0 bs ops K l gs env = run3 P W0 bs ops K l gs env' := by rw [h]
theorem run3_aqg {bs : List Box} {ops : Array Oper} {K : List (List (Option AV)) → Prop} : ∀ {l : List Oper} {gs : List (Option (Option Nat × Bool))} {env : List (List (Option AV))}, run3 P W0 bs ops K l gs env → aqg P W0 bs ops K l gs env
  | [], gs, env, h => by
    cases gs <;> exact aqg_nil h
  | o :: l, [], env, h => h
  | o :: l, g :: gs, env, h => by
    simp only [run3] at h
    cases hs : stepG P bs env o.op g with
    | none =>
      rw [hs] at h
      exact h
    | some x =>
      rw [hs] at h
      intro hg
      simp only [gsl, List.map_cons, List.cons.injEq] at hg
      exact ⟨x, stepG_Yl hg.1 hs, run3_aqg h hg.2⟩
attribute [go_sem] stepG_n stepG_s opW bsD opV mkOp resE_ap resA
theorem wQ {id : Nat} {l : List Oper} {gs : List (Option (Option Nat × Bool))} (h : run3 P W0 st.bs l.toArray (fun env => Q .normal ⟨st.N, env, st.bs⟩) l gs st.env) (hm : P.follows .mixedOrders = true) (hB : Region.lexB .any l.toArray = true) (hg : gsl l.toArray l = gs := by (simp only [gsl, List.take_succ_cons, List.take_zero, List.map_cons, List.map_nil, Option.map_none, Option.map_some, List.getElem?_toArray, List.getElem?_cons_zero, List.getElem?_cons_succ, Option.bind_some] <;> rfl)) (hd : l.all (fun o => dOk st.N o.dst) = true := by rfl) : ACode P W0 n (.region id l.toArray true) Q st := A_quietG hm hB hg hd (run3_aqg h)
variable {bs : List Box} {K : List (List (Option AV)) → Prop} {env : List (List (Option AV))}
theorem wQC {fo : Operand} {args : Array Operand} {ts : Array TypeId} {f : FuncId} {caps xs cargs : List AV} {y : AV} (hr : APure P W0 f cargs (· = .ret y)) (h : run3 P W0 bs ops K rest gs (putL o.dst y env))
    (ho : o.op = .call ⟨.value fo, args, ts⟩ := by rfl) (hf : evo (lk env) fo = some (.fn f caps) := by rfl) (ha : evl (lk env) args.toList = some xs := by rfl) (hx : xs ++ caps = cargs := by rfl) (hc : callable P f = true := by first | assumption | simp only [go_sem])
    (hn : noNames cargs = true := by first | rfl | simp only [go_sem]) (hy : noName y = true := by first | rfl | simp only [go_sem]) : aqg P W0 bs ops K (o :: rest) (none :: gs) env := by
  subst hx
  exact aqg_call hr ho hf ha hc hn hy (run3_aqg h)
/-- With a guard. -/
theorem wQG {fo : Operand} {args : Array Operand} {ts : Array TypeId} {f : FuncId} {xs : List AV} {y : AV} {t : Nat} {want b : Bool} (hr : (if want then b else !b) = true → APure P W0 f xs (· = .ret y)) (h : run3 P W0 bs ops K rest gs (putL o.dst (.opt (if want then b else !b) y) env))
    (hb : lk env t = some (.d (.v (.bool b))) := by rfl) (ho : o.op = .call ⟨.value fo, args, ts⟩ := by rfl)
    (hf : (if want then b else !b) = true → evo (resE (if want then b else !b) (lk env)) fo = some (.fn f []) ∧ evl (resE (if want then b else !b) (lk env)) args.toList = some xs := by (intro hh; simp only [reduceIte, Bool.false_eq_true, Bool.not_eq_true'] at hh; constructor <;> simp only [go_sem, hh]))
    (hc : callable P f = true := by first | assumption | simp only [go_sem]) (hn : noNames xs = true := by first | rfl | simp only [go_sem]) (hy : noName y = true := by first | rfl | simp only [go_sem]) : aqg P W0 bs ops K (o :: rest) (some (some t, want) :: gs) env := aqg_callg0 hr hb ho hf hc hn hy (run3_aqg h)
/-- A guarded call in a region of the text's order. -/
theorem wCG {fo : Operand} {args : Array Operand} {ts : Array TypeId} {f : FuncId} {xs : List AV} {y : AV} {t : Nat} {want b : Bool} (hr : (if want then b else !b) = true → APure P W0 f xs (· = .ret y)) (h : run2 P W0 n ops Q rest gs (st.put o.dst (.opt (if want then b else !b) y)))
    (hb : lk st.env t = some (.d (.v (.bool b))) := by rfl) (ho : o.op = .call ⟨.value fo, args, ts⟩ := by rfl)
    (hf : (if want then b else !b) = true → evo (resE (if want then b else !b) (lk st.env)) fo = some (.fn f []) ∧ evl (resE (if want then b else !b) (lk st.env)) args.toList = some xs := by (intro hh; simp only [reduceIte, Bool.false_eq_true, Bool.not_eq_true'] at hh; constructor <;> simp only [go_sem, hh]))
    (hc : callable P f = true := by first | assumption | simp only [go_sem]) (hd : dOk st.N o.dst = true := by rfl) (hn : noNames xs = true := by first | rfl | simp only [go_sem]) (hy : noName y = true := by first | rfl | simp only [go_sem]) : AOpsG P W0 n ops (o :: rest) (some (some t, want) :: gs) Q st := by
  intro hg
  simp only [gsl, List.map_cons, List.cons.injEq, Option.map_eq_some_iff, Prod.mk.injEq] at hg
  obtain ⟨⟨⟨j, w⟩, h1, h2, h3⟩, h4⟩ := hg
  refine A_qstep hd ?_ (run2_ops h h4)
  unfold Yl
  rw [h1]
  cases h3
  exact ⟨t, _, y, h2, (by rw [hb]; rfl), rfl, fun hh => .call fo args ts f [] xs y ho (hf hh).1 (hf hh).2 hc (by rw [List.append_nil]; exact hn) (by rw [List.append_nil]; exact hr hh) hy⟩

/-- A region whose order is open: its first operations turn nothing. -/
theorem wD {id : Nat} {l : List Oper} (k : Nat) {gs : List (Option (Option Nat × Bool))} (h : run3 P W0 st.bs l.toArray (fun env => TL P W0 n st.N l.toArray (qtf k []) Q (l.length - k) (setN k 0 (Array.replicate l.length false)) st.bs env) (l.take k) gs st.env)
    (hm : P.follows .mixedOrders = true) (hB : drB l k [] = true) (hg : gsl l.toArray (l.take k) = gs := by (simp only [gsl, List.take_succ_cons, List.take_zero, List.map_cons, List.map_nil, Option.map_none, Option.map_some, List.getElem?_toArray, List.getElem?_cons_zero, List.getElem?_cons_succ, Option.bind_some] <;> rfl)) (hd : l.all (fun o => dOk st.N o.dst) = true := by rfl) (hk : k ≤ l.length := by decide) : ACode P W0 n (.region id l.toArray true) Q st := A_drawn k [] hm rfl hB hg hd hk (run3_aqg h)
/-- The same where operations that turn nothing float behind. -/
theorem wDs {id : Nat} {l : List Oper} (k : Nat) (qs : List Nat) {gs : List (Option (Option Nat × Bool))} (h : run3 P W0 st.bs l.toArray (fun env => TL P W0 n st.N l.toArray (qtf k qs) Q (l.length - k) (setN k 0 (Array.replicate l.length false)) st.bs env) (l.take k) gs st.env)
    (hm : P.follows .mixedOrders = true) (hB : drB l k qs = true) (hg : gsl l.toArray (l.take k) = gs := by (simp only [gsl, List.take_succ_cons, List.take_zero, List.map_cons, List.map_nil, Option.map_none, Option.map_some, List.getElem?_toArray, List.getElem?_cons_zero, List.getElem?_cons_succ, Option.bind_some] <;> rfl)) (hd : l.all (fun o => dOk st.N o.dst) = true := by rfl) (hk : k ≤ l.length := by decide) : ACode P W0 n (.region id l.toArray true) Q st := A_drawn k qs hm rfl hB hg hd hk (run3_aqg h)
theorem TL_q {N : Nat} {qt : Nat → Bool} {Q : Ax → St → Prop} {fuel : Nat} {listed : Array Bool} {i : Nat} (hq : qt i = true) (hg : o.guard = none) (h : onSome (stepG P bs env o.op none) (fun x => TL P W0 n N ops qt Q fuel (listed.setIfInBounds i true) bs (putL o.dst x env)) False) :
    if qt i = true then ∃ x, Yl P W0 bs ops (lk env) o x ∧ anyS P W0 n N Q .any ops qt (fun bs e => ∃ env', lk env' = e ∧ Q .normal ⟨N, env', bs⟩) fuel (listed.setIfInBounds i true) bs (upd (lk env) o.dst x)
      else gO P W0 n N Q ops o (fun bs' e' => anyS P W0 n N Q .any ops qt (fun bs e => ∃ env', lk env' = e ∧ Q .normal ⟨N, env', bs⟩) fuel (listed.setIfInBounds i true) bs' e') bs (lk env) := by
  rw [if_pos hq]
  cases hs : stepG P bs env o.op none with
  | none => rw [hs] at h; exact h.elim
  | some x =>
    rw [hs] at h
    refine ⟨x, stepG_Yl (by rw [hg]; rfl) hs, ?_⟩
    rw [← lk_putL]
    exact h
/-- One that turns nothing is what alone comes next. -/
theorem wDq {N : Nat} {qt : Nat → Bool} {Q : Ax → St → Prop} {fuel : Nat} {listed : Array Bool} (i : Nat) (h : onSome (stepG P bs env o.op none) (fun x => TL P W0 n N ops qt Q fuel (listed.setIfInBounds i true) bs (putL o.dst x env)) False)
    (hr : Region.ready .any ops listed = [i]) (ho : ops[i]? = some o := by (simp only [List.getElem?_toArray, List.getElem?_cons_succ, List.getElem?_cons_zero] <;> rfl)) (hq : qt i = true := by rfl) (hg : o.guard = none := by rfl) : TL P W0 n N ops qt Q (fuel + 1) listed bs env := by
  refine ⟨fun h0 => (by rw [hr] at h0; cases h0), fun q hq2 => ?_⟩
  rw [hr, List.mem_singleton] at hq2
  subst hq2
  exact ⟨o, ho, TL_q hq hg h⟩
/-- One that turns something or one that turns nothing. -/
theorem wDDq {N : Nat} {qt : Nat → Bool} {Q : Ax → St → Prop} {fuel : Nat} {listed : Array Bool} (i j : Nat) {oi oj : Oper} (h1 : run2 P W0 n ops (TQ Q N fun st' => TL P W0 n N ops qt Q fuel (listed.setIfInBounds i true) st'.bs st'.env) [oi] [none] ⟨N, env, bs⟩)
    (h2 : onSome (stepG P bs env oj.op none) (fun x => TL P W0 n N ops qt Q fuel (listed.setIfInBounds j true) bs (putL oj.dst x env)) False) (hr : Region.ready .any ops listed = [i, j])
    (ho : ops[i]? = some oi := by (simp only [List.getElem?_toArray, List.getElem?_cons_succ, List.getElem?_cons_zero] <;> rfl)) (hp : ops[j]? = some oj := by (simp only [List.getElem?_toArray, List.getElem?_cons_succ, List.getElem?_cons_zero] <;> rfl)) (hq : qt i = false := by rfl) (hq' : qt j = true := by rfl) (hg : oi.guard = none := by rfl) (hg' : oj.guard = none := by rfl) : TL P W0 n N ops qt Q (fuel + 1) listed bs env := by
  refine ⟨fun h0 => (by rw [hr] at h0; cases h0), fun q hq2 => ?_⟩
  rw [hr] at hq2
  rcases List.mem_cons.1 hq2 with rfl | hq3
  · refine ⟨oi, ho, ?_⟩
    rw [if_neg (by rw [hq]; simp)]
    exact gO_of hg (run2_ops h1 (by simp only [gsl, List.map_cons, List.map_nil, hg, Option.map_none]))
  · rw [List.mem_singleton] at hq3
    subst hq3
    exact ⟨oj, hp, TL_q hq' hg' h2⟩
/-- The operation that alone comes next. -/
theorem wD1 {N : Nat} {qt : Nat → Bool} {Q : Ax → St → Prop} {fuel : Nat} {listed : Array Bool} (i : Nat) (h : run2 P W0 n ops (TQ Q N fun st' => TL P W0 n N ops qt Q fuel (listed.setIfInBounds i true) st'.bs st'.env) [o] [none] ⟨N, env, bs⟩)
    (hr : Region.ready .any ops listed = [i]) (ho : ops[i]? = some o := by (simp only [List.getElem?_toArray, List.getElem?_cons_succ, List.getElem?_cons_zero] <;> rfl)) (hq : qt i = false := by rfl) (hg : o.guard = none := by rfl) : TL P W0 n N ops qt Q (fuel + 1) listed bs env := T_one i o hr ho hq hg (run2_ops h (by simp only [gsl, List.map_cons, List.map_nil, hg, Option.map_none]))
/-- Two operations that may come next. -/
theorem wDD {N : Nat} {qt : Nat → Bool} {Q : Ax → St → Prop} {fuel : Nat} {listed : Array Bool} (i j : Nat) {oi oj : Oper} (h1 : run2 P W0 n ops (TQ Q N fun st' => TL P W0 n N ops qt Q fuel (listed.setIfInBounds i true) st'.bs st'.env) [oi] [none] ⟨N, env, bs⟩)
    (h2 : run2 P W0 n ops (TQ Q N fun st' => TL P W0 n N ops qt Q fuel (listed.setIfInBounds j true) st'.bs st'.env) [oj] [none] ⟨N, env, bs⟩) (hr : Region.ready .any ops listed = [i, j])
    (ho : ops[i]? = some oi := by (simp only [List.getElem?_toArray, List.getElem?_cons_succ, List.getElem?_cons_zero] <;> rfl)) (hp : ops[j]? = some oj := by (simp only [List.getElem?_toArray, List.getElem?_cons_succ, List.getElem?_cons_zero] <;> rfl)) (hq : qt i = false := by rfl) (hq' : qt j = false := by rfl) (hg : oi.guard = none := by rfl) (hg' : oj.guard = none := by rfl) : TL P W0 n N ops qt Q (fuel + 1) listed bs env := by
  refine ⟨fun h0 => (by rw [hr] at h0; cases h0), fun q hq2 => ?_⟩
  rw [hr] at hq2
  rcases List.mem_cons.1 hq2 with rfl | hq3
  · refine ⟨oi, ho, ?_⟩
    rw [if_neg (by rw [hq]; simp)]
    exact gO_of hg (run2_ops h1 (by simp only [gsl, List.map_cons, List.map_nil, hg, Option.map_none]))
  · rw [List.mem_singleton] at hq3
    subst hq3
    refine ⟨oj, hp, ?_⟩
    rw [if_neg (by rw [hq']; simp)]
    exact gO_of hg' (run2_ops h2 (by simp only [gsl, List.map_cons, List.map_nil, hg', Option.map_none]))
theorem wD0 {N : Nat} {qt : Nat → Bool} {Q : Ax → St → Prop} {fuel : Nat} {listed : Array Bool} (h : Q .normal ⟨N, env, bs⟩) (hr : Region.ready .any ops listed = []) : TL P W0 n N ops qt Q fuel listed bs env := T_nil hr h

/-- A state that says no more. -/
theorem wSb {st : St} {N : Nat} {env : List (Nat × AV)} {bs : List Box} (hN : N = st.N := by rfl) (he : eSub st.env env := by repeat (first | exact eSub_nil _ | refine eSub_cons rfl ?_)) (hb : ∃ ex, st.bs = bs ++ ex := by exact ⟨_, rfl⟩) (hl : n ≤ bs.length := by first | exact Nat.zero_le _ | exact Nat.le_refl _ | decide)
    (h1 : envBelow bs.length env = true := by first | rfl | simp only [go_sem]) (h2 : bs.all (boxBelow bs.length) = true := by first | rfl | simp only [go_sem]) : Sb W0 n st ⟨N, ofL env, bs⟩ := Sb.mk hN he hb hl h1 h2
theorem wFz {c : Code} (b : Nat) {sz bt : Nat} {l : List (List D)} (h : ACode P W0 n c Q ⟨st.N, fzE b sz bt l st.env, (st.bs.map (fzB b sz bt l)).set b .dead⟩) (hb : st.bs[b]? = some (.vec sz bt l) := by rfl) (hn : n ≤ b := by first | exact Nat.zero_le _ | decide) : ACode P W0 n c Q st := A_sub _ (Sb.freeze b hb hn) h
theorem wFzO (b : Nat) {sz bt : Nat} {l : List (List D)} (h : AOpsG P W0 n ops rest gs Q ⟨st.N, fzE b sz bt l st.env, (st.bs.map (fzB b sz bt l)).set b .dead⟩) (hb : st.bs[b]? = some (.vec sz bt l) := by rfl) (hn : n ≤ b := by first | exact Nat.zero_le _ | decide) : AOpsG P W0 n ops rest gs Q st := fun hG => O_sub _ (Sb.freeze b hb hn) (h hG)
theorem wOpn {c : Code} (t sz bt : Nat) (h : ACode P W0 n c Q ⟨st.N, putE st.env t (.sl st.bs.length sz 0 0), st.bs ++ [.vec sz bt []]⟩) (ht : lk st.env t = some (.d .e) := by rfl) (hsz : 0 < sz := by decide) (hbt : 0 < bt := by decide) : ACode P W0 n c Q st := A_sub _ (Sb.opn ht hsz hbt) h
theorem wOpnO (t sz bt : Nat) (h : AOpsG P W0 n ops rest gs Q ⟨st.N, putE st.env t (.sl st.bs.length sz 0 0), st.bs ++ [.vec sz bt []]⟩) (ht : lk st.env t = some (.d .e) := by rfl) (hsz : 0 < sz := by decide) (hbt : 0 < bt := by decide) : AOpsG P W0 n ops rest gs Q st := fun hG => O_sub _ (Sb.opn ht hsz hbt) (h hG)
theorem wOpnC {c : Code} (b j sz bt : Nat) {cs : List AV} (h : ACode P W0 n c Q ⟨st.N, st.env, st.bs.set b (.var (cs.set j (.sl st.bs.length sz 0 0))) ++ [.vec sz bt []]⟩) (hb : st.bs[b]? = some (.var cs) := by rfl) (hj : cs[j]? = some (.d .e) := by rfl) (hsz : 0 < sz := by decide) (hbt : 0 < bt := by decide) : ACode P W0 n c Q st := A_sub _ (Sb.opnC hb hj hsz hbt) h
/-- A loop of N rounds at most. -/
theorem wL {c : Code} (S : Nat → St) (N : Nat) (inv : Nat → Prop) (h0 : Sb W0 n st (S 0)) (i0 : inv 0) (round : ∀ i, i ≤ N → inv i → ∀ R : St → Prop, (i < N → inv (i + 1) → ∀ st', Sb W0 n st' (S (i + 1)) → R st') → ACode P W0 n c (Thn R Q) (S i)) : ACode P W0 n (.loop c) Q st :=
  A_loop (σ := { i : Nat // i ≤ N ∧ inv i }) (fun s => S s.1) (fun s => N - s.1) ⟨0, Nat.zero_le _, i0⟩ h0 fun s => round s.1 s.2.1 s.2.2 _ fun hlt hinv st' hs => ⟨⟨s.1 + 1, hlt, hinv⟩, by have := s.2.1; simp only; omega, hs⟩
/-- A loop, its heads named by anything that falls. -/
theorem wLm {c : Code} {σ : Type} (S : σ → St) (μ : σ → Nat) (s0 : σ) (h0 : Sb W0 n st (S s0)) (round : ∀ s (R : St → Prop), (∀ s' st', μ s' < μ s → Sb W0 n st' (S s') → R st') → ACode P W0 n c (Thn R Q) (S s)) : ACode P W0 n (.loop c) Q st :=
  A_loop S μ s0 h0 fun s => round s _ fun s' st' hm hs => ⟨s', hm, hs⟩

/-- The ends of a function. -/
theorem wRet {rs : List ResultVar} {R : Res → List Box → Prop} {x x' : AV} (hR : R (.ret x') []) (hx : resV P st rs = some x := by first | rfl | simp only [resV, rvs, rv1, go_sem]) (hn : noName x' = true := by first | rfl | simp only [go_sem]) (hle : Le x x' := by exact Le.refl _) : AEnd P W0 0 rs R .ret st := ⟨x, hx, [], x', fin_pure hn hle, hR⟩
theorem wRetN {rs : List ResultVar} {R : Res → List Box → Prop} {x x' : AV} (hR : R (.ret x') []) (hx : resV P st rs = some x := by first | rfl | simp only [resV, rvs, rv1, go_sem]) (hn : noName x' = true := by first | rfl | simp only [go_sem]) (hle : Le x x' := by exact Le.refl _) : AEnd P W0 0 rs R .normal st := ⟨x, hx, [], x', fin_pure hn hle, hR⟩
theorem wPan {rs : List ResultVar} {R : Res → List Box → Prop} {x : AV} (hR : R (.panic x) []) (hn : noName x = true := by first | rfl | simp only [go_sem]) : AEnd P W0 0 rs R (.panic x) st := ⟨[], x, fin_pure hn (Le.refl _), hR⟩
theorem wRq {rs : List ResultVar} {x y : AV} (hx : resV P st rs = some x := by first | rfl | simp only [resV, rvs, rv1, go_sem]) (hn : noName x = true := by first | rfl | simp only [go_sem]) (he : x = y := by rfl) : AEnd P W0 0 rs (fun r L' => r = .ret y ∧ L' = []) .ret st := by
  subst he
  exact wRet ⟨rfl, rfl⟩ hx hn
theorem wNq {rs : List ResultVar} {x y : AV} (hx : resV P st rs = some x := by first | rfl | simp only [resV, rvs, rv1, go_sem]) (hn : noName x = true := by first | rfl | simp only [go_sem]) (he : x = y := by rfl) : AEnd P W0 0 rs (fun r L' => r = .ret y ∧ L' = []) .normal st := by
  subst he
  exact wRetN ⟨rfl, rfl⟩ hx hn
/-- Boxes that were handed stay, with what they hold. -/
theorem wRetB {rs : List ResultVar} {R : Res → List Box → Prop} {x x' : AV} (L' : List Box) (hR : R (.ret x') L') (hx : resV P st rs = some x := by first | rfl | simp only [resV, rvs, rv1, go_sem]) (hb : ∃ ex, st.bs = L' ++ ex := by exact ⟨_, rfl⟩) (hl : n ≤ L'.length := by exact Nat.le_of_ble_eq_true rfl) (h1 : x'.names (fun b => decide (b < L'.length)) = true := by first | rfl | simp only [go_sem]) (h2 : L'.all (boxBelow L'.length) = true := by first | rfl | simp only [go_sem]) (hle : Le x x' := by exact Le.refl _) : AEnd P W0 n rs R .ret st := ⟨x, hx, L', x', fin_mk hb hl h1 h2 hle, hR⟩
theorem wRetBN {rs : List ResultVar} {R : Res → List Box → Prop} {x x' : AV} (L' : List Box) (hR : R (.ret x') L') (hx : resV P st rs = some x := by first | rfl | simp only [resV, rvs, rv1, go_sem]) (hb : ∃ ex, st.bs = L' ++ ex := by exact ⟨_, rfl⟩) (hl : n ≤ L'.length := by exact Nat.le_of_ble_eq_true rfl) (h1 : x'.names (fun b => decide (b < L'.length)) = true := by first | rfl | simp only [go_sem]) (h2 : L'.all (boxBelow L'.length) = true := by first | rfl | simp only [go_sem]) (hle : Le x x' := by exact Le.refl _) : AEnd P W0 n rs R .normal st := ⟨x, hx, L', x', fin_mk hb hl h1 h2 hle, hR⟩
theorem wPanB {rs : List ResultVar} {R : Res → List Box → Prop} {x : AV} (L' : List Box) (hR : R (.panic x) L') (hb : ∃ ex, st.bs = L' ++ ex := by exact ⟨_, rfl⟩) (hl : n ≤ L'.length := by exact Nat.le_of_ble_eq_true rfl) (h1 : x.names (fun b => decide (b < L'.length)) = true := by first | rfl | simp only [go_sem]) (h2 : L'.all (boxBelow L'.length) = true := by first | rfl | simp only [go_sem]) : AEnd P W0 n rs R (.panic x) st := ⟨L', x, fin_mk hb hl h1 h2 (Le.refl _), hR⟩
end

/-- A function that leaves what was there, and answers a plain value. -/
theorem pure_old {P : Program} {W0 : World} {f : FuncId} {args : List AV} {v : Value} (hv : v.oneCell' = true) (h : ∀ (M : Nat → Prop) (m : Nat → Pl) (w : World) (us : Array Value), Fr (fun _ => False) W0 w → RAs M m w args us.toList → Calls P f us w fun e w' => e = .returned v ∧ Below w.heap.size w w') : APure P W0 f args (· = .ret (.d (.v v))) := by
  intro M m w us hc ha
  refine (h M m w us hc.base ha).mono ?_
  rintro e w' ⟨rfl, hb⟩
  have hf : Fr (fun _ => False) w w' := Fr.below hb
  refine ⟨.ret (.d (.v v)), [], M, m, ⟨rfl, rfl⟩, RA.v_mk (m := m) hv, ?_⟩
  exact hc.chg hf (hc.base.trans hf) (fun _ h => h) (fun _ h => .inl h) (fun k hk => Nat.lt_of_lt_of_le (hc.mLt k hk) hf.size)
theorem us1 {M : Nat → Prop} {m : Nat → Pl} {w : World} {x : Value} {us : Array Value} (h : RAs M m w [.d (.v x)] us.toList) : us = #[x] := by
  have hl := h.length
  obtain ⟨l⟩ := us
  match l, hl with
  | [u], _ =>
    simp only [RAs, and_true] at h
    rw [h.v_inv.1]

/-- Answers of yes or no. -/
theorem yn {a b : Bool} (h : a = true ↔ b = true) : (AV.d (.v (.bool a))) = .d (.v (.bool b)) := by rw [Bool.eq_iff_iff.2 h]

theorem A_lp {P : Program} {W0 : World} {n : Nat} {σ : Type} {Q : Ax → St → Prop} {st : St} {c : Code} (S : σ → St) (μ : σ → Nat) (s0 : σ) (h0 : Sb W0 n st (S s0))
    (round : ∀ s (R : St → Prop), (∀ st', (∃ s', μ s' < μ s ∧ Sb W0 n st' (S s')) → R st') → ACode P W0 n c (Thn R Q) (S s)) : ACode P W0 n (.loop c) Q st :=
  A_loop S μ s0 h0 fun s => round s _ fun _ h => h
end Go.Proofs.YtbgfiflnfndckaaDoor.Lift
end
section
/- The lift: drawn regions of which any operations that turn nothing come first; maps that are filled in any order. No conditions: words and their laws. -/
set_option linter.unusedVariables false
set_option linter.unusedSimpArgs false
set_option linter.unusedSectionVars false
set_option linter.unnecessarySimpa false
namespace Go.Proofs.YtbgfiflnfndckaaDoor.Lift
open Go Go.RowKit

def qtI (is qs : List Nat) (i : Nat) : Bool := is.contains i || qs.contains i
def chkI (md : Region.Mode) (l : List Oper) (qt : Nat → Bool) (i : Nat) : Bool := (List.range l.length).all fun j => qt j || !(grS md i l []).getD j false
theorem chkI_spec {md : Region.Mode} {l : List Oper} {qt : Nat → Bool} {i : Nat} (hb : backF md l 0 = true) (hq : qt i = true) (hc : chkI md l qt i = true) {listed : Array Bool} (hs : listed.size = l.length) (hdc : DC md l.toArray listed) (hi : listed.getD i false = false) : ∀ j ∈ Region.ready md l.toArray listed, qt j = true := by
  intro j hj
  obtain ⟨h0, o, ho, hall⟩ := mem_ready.1 hj
  have ho' : l[j]? = some o := by simpa using ho
  have hlt : j < l.length := (List.getElem?_eq_some_iff.1 ho').1
  have h1 := List.all_eq_true.1 hc j (List.mem_range.2 hlt)
  rw [Bool.or_eq_true] at h1
  by_cases hj' : qt j = true
  · exact hj'
  exfalso
  have h2 := h1.resolve_left hj'
  have h3 := grS_at (md := md) (i := i) l [] j o hb ho'
  simp only [List.length_nil, Nat.zero_add] at h3
  rw [h3] at h2
  have h4 : (o.after.all fun e => !Region.binds md e || (grS md i l []).getD e.on false) = true := Array.all_eq_true_iff_forall_mem.2 fun e he => by
    cases hbd : Region.binds md e
    · rfl
    · rw [grS_all hb hs hdc hi e.on (hall e he hbd)]
      rfl
  rw [h4, Bool.and_true] at h2
  simp only [Bool.not_eq_true', bne_eq_false_iff_eq] at h2
  subst h2
  exact hj' hq
def drI (md : Region.Mode) (l : List Oper) (qt : Nat → Bool) : List Nat → Array Bool → Bool
  | [], _ => true
  | i :: is, listed => (Region.ready md l.toArray listed).contains i && Region.free md l.toArray listed i && qt i && chkI md l qt i && drI md l qt is (listed.setIfInBounds i true)
def setI : List Nat → Array Bool → Array Bool
  | [], L => L
  | i :: is, L => setI is (L.setIfInBounds i true)
def pickI : List Nat → List Oper → List Oper
  | [], _ => []
  | i :: is, l => match l[i]? with | some o => o :: pickI is l | none => []

section
variable {P : Program} {W0 : World} {n : Nat} {X : Ax → St → Prop}
theorem anyS_lexI {N : Nat} {md : Region.Mode} {l : List Oper} {qt : Nat → Bool} {Q : List Box → (Nat → Option AV) → Prop} {bs : List Box} {fuel : Nat} (hb : backF md l 0 = true) : ∀ (is : List Nat) (listed : Array Bool) (env : List (List (Option AV))), listed.size = l.length → DC md l.toArray listed →
    drI md l qt is listed = true → aqs P W0 bs l.toArray (fun env => anyS P W0 n N X md l.toArray qt Q fuel (setI is listed) bs (lk env)) (pickI is l) env → anyS P W0 n N X md l.toArray qt Q (is.length + fuel) listed bs (lk env)
  | [], listed, env, _, _, _, h => by
    simp only [List.length_nil, Nat.zero_add]
    exact h
  | i :: is, listed, env, hs, hdc, hB, h => by
    simp only [drI, Bool.and_eq_true] at hB
    obtain ⟨⟨⟨⟨hr, hf⟩, hqi⟩, hc⟩, hB'⟩ := hB
    have hmem : i ∈ Region.ready md l.toArray listed := by simpa using hr
    obtain ⟨_, o, h0, _⟩ := mem_ready.1 hmem
    have h0' : l[i]? = some o := by simpa using h0
    simp only [pickI, h0'] at h
    obtain ⟨x, hy, hkk⟩ := h
    have := anyS_first (P := P) (W0 := W0) (n := n) (X := X) (N := N) (Q := Q) (bs := bs) h0 hqi (fun listed hs hdc hun => chkI_spec hb hqi hc (by simpa using hs) hdc hun) (is.length + fuel) listed (lk env) (by simpa using hs) hdc (Region.free_spec h0 hf) hmem hy ?_
    · simp only [List.length_cons]
      rw [show is.length + 1 + fuel = is.length + fuel + 1 by omega]
      exact this
    rw [← lk_putL]
    exact anyS_lexI hb is _ _ (by simpa using hs) (hdc.set hmem) hB' hkk
theorem A_drawnI {Q : Ax → St → Prop} {st : St} {id : Nat} {l l1 : List Oper} {gs : List (Option (Option Nat × Bool))} (is qs : List Nat) (hm : P.follows .mixedOrders = true) (h1 : pickI is l = l1) (hB : (backF .any l 0 && drI .any l (qtI is qs) is (Array.replicate l.length false)) = true) (hg : gsl l.toArray l1 = gs) (hd : l.all (fun o => dOk st.N o.dst) = true) (hk : is.length ≤ l.length)
    (h : aqg P W0 st.bs l.toArray (fun env => TL P W0 n st.N l.toArray (qtI is qs) Q (l.length - is.length) (setI is (Array.replicate l.length false)) st.bs env) l1 gs st.env) : ACode P W0 n (.region id l.toArray true) Q st := by
  intro E M m a w hn hC
  have hd' : ∀ (i : Nat) (o : Oper), l.toArray[i]? = some o → dOk st.N o.dst = true := fun i o ho => List.all_eq_true.1 hd o (List.mem_of_getElem? (by simpa using ho))
  simp only [Bool.and_eq_true] at hB
  subst h1
  refine wp_region_any hm (wpAny_ofS (P := P) (W0 := W0) (n := n) (X := Q) (qt := qtI is qs) (Q := fun bs e => ∃ env', lk env' = e ∧ Q .normal ⟨st.N, env', bs⟩) hn hd' (fun _ _ _ _ h => h) (fun M m bs e a w hc ⟨env', he, hq⟩ => ⟨M, m, ⟨st.N, env', bs⟩, .normal, CE.to (by rw [he]; exact hc), hq, trivial⟩) _ _ M m st.bs (lk st.env) a _ (CE.of hC.drew) ?_)
  have := anyS_lexI (P := P) (W0 := W0) (n := n) (X := Q) (N := st.N) (md := .any) (l := l) (qt := qtI is qs) (bs := st.bs) (fuel := l.length - is.length) (Q := fun bs e => ∃ env', lk env' = e ∧ Q .normal ⟨st.N, env', bs⟩) hB.1 is (Array.replicate l.length false) st.env (by simp) (fun j o _ hj => by simp [Array.getD_eq_getD_getElem?, Array.getElem?_replicate] at hj; split at hj <;> simp at hj) hB.2 (h hg)
  simpa [show is.length + (l.length - is.length) = l.length by omega] using this
theorem wDI {Q : Ax → St → Prop} {st : St} {id : Nat} {l : List Oper} (is qs : List Nat) {gs : List (Option (Option Nat × Bool))} (h : run3 P W0 st.bs l.toArray (fun env => TL P W0 n st.N l.toArray (qtI is qs) Q (l.length - is.length) (setI is (Array.replicate l.length false)) st.bs env) (pickI is l) gs st.env)
    (hm : P.follows .mixedOrders = true) (hB : (backF .any l 0 && drI .any l (qtI is qs) is (Array.replicate l.length false)) = true) (hg : gsl l.toArray (pickI is l) = gs := by (simp only [pickI, gsl, List.map_cons, List.map_nil, Option.map_none, Option.map_some, List.getElem?_toArray, List.getElem?_cons_zero, List.getElem?_cons_succ, Option.bind_some] <;> rfl)) (hd : l.all (fun o => dOk st.N o.dst) = true := by rfl) (hk : is.length ≤ l.length := by decide) : ACode P W0 n (.region id l.toArray true) Q st := A_drawnI is qs hm rfl hB hg hd hk (run3_aqg h)
attribute [go_sem] pickI
theorem keyB_plK {T : TypeId} {v : Value} (h : keyB P T v = true) : plK v = true := by
  unfold keyB at h
  split at h
  · simp only [Bool.and_eq_true] at h
    exact h.1.2
  · cases h
theorem mget_mem {s : Value} (hs : plK s = true) : ∀ {es : List (Value × Value)} {v : Value}, es.Pairwise (fun p q => p.1 ≠ q.1) → (s, v) ∈ es → mget es s = some v := fun {es v} hp h => by
  obtain ⟨j, hj⟩ := List.getElem?_of_mem h
  exact (mget_at hs hp hj).1
theorem mget_perm {es es' : List (Value × Value)} (h : es.Perm es') (hp : es.Pairwise fun p q => p.1 ≠ q.1) {s : Value} (hs : plK s = true) : mget es s = mget es' s := by
  have hp' : es'.Pairwise fun p q => p.1 ≠ q.1 := (h.pairwise_iff (fun h => Ne.symm h)).1 hp
  by_cases hm : ∃ v, (s, v) ∈ es
  · obtain ⟨v, hv⟩ := hm
    rw [mget_mem hs hp hv, mget_mem hs hp' (h.mem_iff.1 hv)]
  · have h1 : ∀ p ∈ es, p.1 ≠ s := fun p hpp e => hm ⟨p.2, by rw [← e]; exact hpp⟩
    rw [(mget_none hs h1).1, (mget_none hs fun p hpp => h1 p (h.mem_iff.2 hpp)).1]
end
end Go.Proofs.YtbgfiflnfndckaaDoor.Lift
end
section
/- Facts of the types and functions of this translation. No conditions. -/
namespace Go.Proofs.YtbgfiflnfndckaaDoor.Lift
open Go
@[go_sem] theorem ty2_0 : szT Tryd.prog 2 = some 1 := by kernel_rfl
@[go_sem] theorem ty2_2 : aggT Tryd.prog 2 = some false := by kernel_rfl
@[go_sem] theorem ty2_4 : isStr Tryd.prog 2 = false := by kernel_rfl
@[go_sem] theorem ty2_7 : ikT Tryd.prog 2 = some .i64 := by kernel_rfl
@[go_sem] theorem ty2_8 : isTy Tryd.prog 2 = true := by kernel_rfl
@[go_sem] theorem ty3_0 : szT Tryd.prog 3 = some 1 := by kernel_rfl
@[go_sem] theorem ty3_2 : aggT Tryd.prog 3 = some false := by kernel_rfl
@[go_sem] theorem ty3_4 : isStr Tryd.prog 3 = false := by kernel_rfl
@[go_sem] theorem ty3_6 : isBl Tryd.prog 3 = false := by kernel_rfl
@[go_sem] theorem ty3_8 : isTy Tryd.prog 3 = true := by kernel_rfl
@[go_sem] theorem ty4_0 : szT Tryd.prog 4 = some 1 := by kernel_rfl
@[go_sem] theorem ty4_2 : aggT Tryd.prog 4 = some false := by kernel_rfl
@[go_sem] theorem ty4_6 : isBl Tryd.prog 4 = true := by kernel_rfl
@[go_sem] theorem ty5_0 : szT Tryd.prog 5 = some 1 := by kernel_rfl
@[go_sem] theorem ty5_1 : btT Tryd.prog 5 = some 1 := by kernel_rfl
@[go_sem] theorem ty5_2 : aggT Tryd.prog 5 = some false := by kernel_rfl
@[go_sem] theorem ty5_4 : isStr Tryd.prog 5 = false := by kernel_rfl
@[go_sem] theorem ty5_6 : isBl Tryd.prog 5 = false := by kernel_rfl
@[go_sem] theorem ty5_7 : ikT Tryd.prog 5 = some .u8 := by kernel_rfl
@[go_sem] theorem ty5_8 : isTy Tryd.prog 5 = true := by kernel_rfl
@[go_sem] theorem ty5_10 : zrT Tryd.prog 5 = some [(.int .u8 0)] := by kernel_rfl
@[go_sem] theorem ty9_0 : szT Tryd.prog 9 = some 1 := by kernel_rfl
@[go_sem] theorem ty9_2 : aggT Tryd.prog 9 = some false := by kernel_rfl
@[go_sem] theorem ty9_4 : isStr Tryd.prog 9 = true := by kernel_rfl
@[go_sem] theorem ty9_5 : isSl Tryd.prog 9 = false := by kernel_rfl
@[go_sem] theorem ty9_6 : isBl Tryd.prog 9 = false := by kernel_rfl
@[go_sem] theorem ty9_7 : ikT Tryd.prog 9 = none := by kernel_rfl
@[go_sem] theorem ty9_10 : zrT Tryd.prog 9 = some [(.string ByteArray.empty)] := by kernel_rfl
@[go_sem] theorem ty22_0 : szT Tryd.prog 22 = some 1 := by kernel_rfl
@[go_sem] theorem ty22_2 : aggT Tryd.prog 22 = some false := by kernel_rfl
@[go_sem] theorem ty22_6 : isBl Tryd.prog 22 = false := by kernel_rfl
@[go_sem] theorem ty23_0 : szT Tryd.prog 23 = some 1 := by kernel_rfl
@[go_sem] theorem ty23_2 : aggT Tryd.prog 23 = some false := by kernel_rfl
@[go_sem] theorem ty24_0 : szT Tryd.prog 24 = some 1 := by kernel_rfl
@[go_sem] theorem ty24_2 : aggT Tryd.prog 24 = some false := by kernel_rfl
@[go_sem] theorem ty24_3 : elT Tryd.prog 24 = some 27 := by kernel_rfl
@[go_sem] theorem ty24_4 : isStr Tryd.prog 24 = false := by kernel_rfl
@[go_sem] theorem ty24_5 : isSl Tryd.prog 24 = true := by kernel_rfl
@[go_sem] theorem ty25_0 : szT Tryd.prog 25 = some 1 := by kernel_rfl
@[go_sem] theorem ty25_2 : aggT Tryd.prog 25 = some false := by kernel_rfl
@[go_sem] theorem ty25_3 : elT Tryd.prog 25 = some 50 := by kernel_rfl
@[go_sem] theorem ty25_4 : isStr Tryd.prog 25 = false := by kernel_rfl
@[go_sem] theorem ty25_5 : isSl Tryd.prog 25 = true := by kernel_rfl
@[go_sem] theorem ty27_0 : szT Tryd.prog 27 = some 7 := by kernel_rfl
@[go_sem] theorem ty27_1 : btT Tryd.prog 27 = some 96 := by kernel_rfl
@[go_sem] theorem ty27_2 : aggT Tryd.prog 27 = some true := by kernel_rfl
@[go_sem] theorem ty27_10 : zrT Tryd.prog 27 = some [(.int .u8 0), (.string ByteArray.empty), (.bool false), (.int .i64 0), (.float .f64 0), (.slice none 0 0), (.slice none 0 0)] := by kernel_rfl
@[go_sem] theorem ty27_11 : plT Tryd.prog 27 = some [(0, 1), (1, 1), (2, 1), (3, 1), (4, 1), (5, 1), (6, 1)] := by kernel_rfl
@[go_sem] theorem ty27_12 : fdT Tryd.prog 27 0 = some (0, 22) := by kernel_rfl
@[go_sem] theorem ty27_13 : fdT Tryd.prog 27 1 = some (1, 9) := by kernel_rfl
@[go_sem] theorem ty27_14 : fdT Tryd.prog 27 2 = some (2, 4) := by kernel_rfl
@[go_sem] theorem ty27_15 : fdT Tryd.prog 27 3 = some (3, 2) := by kernel_rfl
@[go_sem] theorem ty27_16 : fdT Tryd.prog 27 4 = some (4, 23) := by kernel_rfl
@[go_sem] theorem ty27_17 : fdT Tryd.prog 27 5 = some (5, 24) := by kernel_rfl
@[go_sem] theorem ty27_18 : fdT Tryd.prog 27 6 = some (6, 25) := by kernel_rfl
@[go_sem] theorem ty32_0 : szT Tryd.prog 32 = some 1 := by kernel_rfl
@[go_sem] theorem ty32_2 : aggT Tryd.prog 32 = some false := by kernel_rfl
@[go_sem] theorem ty32_4 : isStr Tryd.prog 32 = false := by kernel_rfl
@[go_sem] theorem ty32_6 : isBl Tryd.prog 32 = false := by kernel_rfl
@[go_sem] theorem ty32_7 : ikT Tryd.prog 32 = some .u64 := by kernel_rfl
@[go_sem] theorem ty32_8 : isTy Tryd.prog 32 = true := by kernel_rfl
@[go_sem] theorem ty34_3 : elT Tryd.prog 34 = some 5 := by kernel_rfl
@[go_sem] theorem ty34_4 : isStr Tryd.prog 34 = false := by kernel_rfl
@[go_sem] theorem ty34_5 : isSl Tryd.prog 34 = true := by kernel_rfl
@[go_sem] theorem ty34_8 : isTy Tryd.prog 34 = true := by kernel_rfl
@[go_sem] theorem ty38_6 : isBl Tryd.prog 38 = false := by kernel_rfl
@[go_sem] theorem ty50_0 : szT Tryd.prog 50 = some 8 := by kernel_rfl
@[go_sem] theorem ty50_1 : btT Tryd.prog 50 = some 112 := by kernel_rfl
@[go_sem] theorem ty50_2 : aggT Tryd.prog 50 = some true := by kernel_rfl
@[go_sem] theorem ty50_10 : zrT Tryd.prog 50 = some [(.string ByteArray.empty), (.int .u8 0), (.string ByteArray.empty), (.bool false), (.int .i64 0), (.float .f64 0), (.slice none 0 0), (.slice none 0 0)] := by kernel_rfl
@[go_sem] theorem ty50_11 : plT Tryd.prog 50 = some [(0, 1), (1, 7)] := by kernel_rfl
@[go_sem] theorem ty50_12 : fdT Tryd.prog 50 0 = some (0, 9) := by kernel_rfl
@[go_sem] theorem ty50_13 : fdT Tryd.prog 50 1 = some (1, 27) := by kernel_rfl
@[go_sem] theorem ty95_3 : elT Tryd.prog 95 = some 99 := by kernel_rfl
@[go_sem] theorem ty95_4 : isStr Tryd.prog 95 = false := by kernel_rfl
@[go_sem] theorem ty95_5 : isSl Tryd.prog 95 = true := by kernel_rfl
@[go_sem] theorem ty97_0 : szT Tryd.prog 97 = some 1 := by kernel_rfl
@[go_sem] theorem ty97_2 : aggT Tryd.prog 97 = some false := by kernel_rfl
@[go_sem] theorem ty97_4 : isStr Tryd.prog 97 = false := by kernel_rfl
@[go_sem] theorem ty97_6 : isBl Tryd.prog 97 = false := by kernel_rfl
@[go_sem] theorem ty97_8 : isTy Tryd.prog 97 = true := by kernel_rfl
@[go_sem] theorem ty99_0 : szT Tryd.prog 99 = some 4 := by kernel_rfl
@[go_sem] theorem ty99_1 : btT Tryd.prog 99 = some 40 := by kernel_rfl
@[go_sem] theorem ty99_2 : aggT Tryd.prog 99 = some true := by kernel_rfl
@[go_sem] theorem ty99_10 : zrT Tryd.prog 99 = some [(.int .i64 0), (.int .u8 0), (.int .u64 0), (.string ByteArray.empty)] := by kernel_rfl
@[go_sem] theorem ty99_11 : plT Tryd.prog 99 = some [(0, 1), (1, 1), (2, 1), (3, 1)] := by kernel_rfl
@[go_sem] theorem ty99_12 : fdT Tryd.prog 99 0 = some (0, 3) := by kernel_rfl
@[go_sem] theorem ty99_13 : fdT Tryd.prog 99 1 = some (1, 97) := by kernel_rfl
@[go_sem] theorem ty99_14 : fdT Tryd.prog 99 2 = some (2, 32) := by kernel_rfl
@[go_sem] theorem ty99_15 : fdT Tryd.prog 99 3 = some (3, 9) := by kernel_rfl
@[go_sem] theorem ty120_10 : zrT Tryd.prog 120 = some [(.int .i64 0), (.int .u8 0)] := by kernel_rfl
@[go_sem] theorem ty120_11 : plT Tryd.prog 120 = some [(0, 1), (1, 1)] := by kernel_rfl
@[go_sem] theorem mp_101 : smT Tryd.prog 101 = some (.int .i64 0) := by kernel_rfl
theorem ky_101 {s : ByteArray} (hs : s.size ≤ 140737488355328) : keyB Tryd.prog 101 (.string s) = true := keyB_str (kt := 9) (et := 3) (by kernel_rfl) (by kernel_rfl) hs
@[go_sem] theorem mp_121 : smT Tryd.prog 121 = some (.int .u8 0) := by kernel_rfl
@[go_sem] theorem bf_12 : bitsFn Tryd.prog 12 = none := by kernel_rfl
@[go_sem] theorem cb_12 : callable Tryd.prog 12 = true := by kernel_rfl
@[go_sem] theorem bf_13 : bitsFn Tryd.prog 13 = none := by kernel_rfl
@[go_sem] theorem cb_13 : callable Tryd.prog 13 = true := by kernel_rfl
@[go_sem] theorem bf_14 : bitsFn Tryd.prog 14 = none := by kernel_rfl
@[go_sem] theorem cb_14 : callable Tryd.prog 14 = true := by kernel_rfl
@[go_sem] theorem bf_15 : bitsFn Tryd.prog 15 = none := by kernel_rfl
@[go_sem] theorem cb_15 : callable Tryd.prog 15 = true := by kernel_rfl
@[go_sem] theorem bf_16 : bitsFn Tryd.prog 16 = some false := by kernel_rfl
@[go_sem] theorem bf_17 : bitsFn Tryd.prog 17 = none := by kernel_rfl
@[go_sem] theorem cb_17 : callable Tryd.prog 17 = true := by kernel_rfl
@[go_sem] theorem bf_20 : bitsFn Tryd.prog 20 = none := by kernel_rfl
@[go_sem] theorem cb_20 : callable Tryd.prog 20 = true := by kernel_rfl
@[go_sem] theorem bf_24 : bitsFn Tryd.prog 24 = none := by kernel_rfl
@[go_sem] theorem cb_24 : callable Tryd.prog 24 = true := by kernel_rfl
@[go_sem] theorem bf_26 : bitsFn Tryd.prog 26 = none := by kernel_rfl
@[go_sem] theorem cb_26 : callable Tryd.prog 26 = true := by kernel_rfl
@[go_sem] theorem bf_28 : bitsFn Tryd.prog 28 = none := by kernel_rfl
@[go_sem] theorem cb_28 : callable Tryd.prog 28 = true := by kernel_rfl
@[go_sem] theorem bf_35 : bitsFn Tryd.prog 35 = none := by kernel_rfl
@[go_sem] theorem cb_35 : callable Tryd.prog 35 = true := by kernel_rfl
@[go_sem] theorem bf_38 : bitsFn Tryd.prog 38 = none := by kernel_rfl
@[go_sem] theorem cb_38 : callable Tryd.prog 38 = true := by kernel_rfl
@[go_sem] theorem bf_39 : bitsFn Tryd.prog 39 = none := by kernel_rfl
@[go_sem] theorem cb_39 : callable Tryd.prog 39 = true := by kernel_rfl
@[go_sem] theorem bf_40 : bitsFn Tryd.prog 40 = none := by kernel_rfl
@[go_sem] theorem cb_40 : callable Tryd.prog 40 = true := by kernel_rfl
@[go_sem] theorem bf_46 : bitsFn Tryd.prog 46 = none := by kernel_rfl
@[go_sem] theorem cb_46 : callable Tryd.prog 46 = true := by kernel_rfl
@[go_sem] theorem cb_47 : callable Tryd.prog 47 = true := by kernel_rfl
@[go_sem] theorem bf_48 : bitsFn Tryd.prog 48 = none := by kernel_rfl
@[go_sem] theorem cb_48 : callable Tryd.prog 48 = true := by kernel_rfl
@[go_sem] theorem bf_49 : bitsFn Tryd.prog 49 = none := by kernel_rfl
@[go_sem] theorem cb_49 : callable Tryd.prog 49 = true := by kernel_rfl
@[go_sem] theorem bf_50 : bitsFn Tryd.prog 50 = none := by kernel_rfl
@[go_sem] theorem cb_50 : callable Tryd.prog 50 = true := by kernel_rfl
@[go_sem] theorem cb_53 : callable Tryd.prog 53 = true := by kernel_rfl
@[go_sem] theorem bf_56 : bitsFn Tryd.prog 56 = none := by kernel_rfl
@[go_sem] theorem cb_56 : callable Tryd.prog 56 = true := by kernel_rfl
@[go_sem] theorem bf_57 : bitsFn Tryd.prog 57 = none := by kernel_rfl
@[go_sem] theorem cb_57 : callable Tryd.prog 57 = true := by kernel_rfl
@[go_sem] theorem bf_59 : bitsFn Tryd.prog 59 = some true := by kernel_rfl
@[go_sem] theorem bf_63 : bitsFn Tryd.prog 63 = none := by kernel_rfl
@[go_sem] theorem cb_63 : callable Tryd.prog 63 = true := by kernel_rfl
@[go_sem] theorem bf_64 : bitsFn Tryd.prog 64 = none := by kernel_rfl
@[go_sem] theorem cb_64 : callable Tryd.prog 64 = true := by kernel_rfl
@[go_sem] theorem bf_65 : bitsFn Tryd.prog 65 = none := by kernel_rfl
@[go_sem] theorem cb_65 : callable Tryd.prog 65 = true := by kernel_rfl
@[go_sem] theorem bf_66 : bitsFn Tryd.prog 66 = none := by kernel_rfl
@[go_sem] theorem cb_66 : callable Tryd.prog 66 = true := by kernel_rfl
@[go_sem] theorem cb_68 : callable Tryd.prog 68 = true := by kernel_rfl
@[go_sem] theorem bf_69 : bitsFn Tryd.prog 69 = none := by kernel_rfl
@[go_sem] theorem cb_69 : callable Tryd.prog 69 = true := by kernel_rfl
@[go_sem] theorem bf_71 : bitsFn Tryd.prog 71 = none := by kernel_rfl
@[go_sem] theorem cb_71 : callable Tryd.prog 71 = true := by kernel_rfl
@[go_sem] theorem bf_73 : bitsFn Tryd.prog 73 = none := by kernel_rfl
@[go_sem] theorem cb_73 : callable Tryd.prog 73 = true := by kernel_rfl
@[go_sem] theorem bf_79 : bitsFn Tryd.prog 79 = none := by kernel_rfl
@[go_sem] theorem cb_79 : callable Tryd.prog 79 = true := by kernel_rfl
@[go_sem] theorem bf_80 : bitsFn Tryd.prog 80 = none := by kernel_rfl
@[go_sem] theorem cb_80 : callable Tryd.prog 80 = true := by kernel_rfl
@[go_sem] theorem bf_81 : bitsFn Tryd.prog 81 = none := by kernel_rfl
@[go_sem] theorem cb_81 : callable Tryd.prog 81 = true := by kernel_rfl
@[go_sem] theorem bf_82 : bitsFn Tryd.prog 82 = none := by kernel_rfl
@[go_sem] theorem cb_82 : callable Tryd.prog 82 = true := by kernel_rfl
@[go_sem] theorem bf_86 : bitsFn Tryd.prog 86 = none := by kernel_rfl
@[go_sem] theorem cb_86 : callable Tryd.prog 86 = true := by kernel_rfl
@[go_sem] theorem bf_88 : bitsFn Tryd.prog 88 = none := by kernel_rfl
@[go_sem] theorem cb_88 : callable Tryd.prog 88 = true := by kernel_rfl
@[go_sem] theorem cb_89 : callable Tryd.prog 89 = true := by kernel_rfl
@[go_sem] theorem bf_90 : bitsFn Tryd.prog 90 = none := by kernel_rfl
@[go_sem] theorem cb_90 : callable Tryd.prog 90 = true := by kernel_rfl
@[go_sem] theorem bf_91 : bitsFn Tryd.prog 91 = none := by kernel_rfl
@[go_sem] theorem cb_91 : callable Tryd.prog 91 = true := by kernel_rfl
@[go_sem] theorem bf_92 : bitsFn Tryd.prog 92 = none := by kernel_rfl
@[go_sem] theorem cb_92 : callable Tryd.prog 92 = true := by kernel_rfl
@[go_sem] theorem bf_93 : bitsFn Tryd.prog 93 = none := by kernel_rfl
@[go_sem] theorem cb_93 : callable Tryd.prog 93 = true := by kernel_rfl
@[go_sem] theorem bf_94 : bitsFn Tryd.prog 94 = none := by kernel_rfl
@[go_sem] theorem cb_94 : callable Tryd.prog 94 = true := by kernel_rfl
@[go_sem] theorem bf_98 : bitsFn Tryd.prog 98 = none := by kernel_rfl
@[go_sem] theorem cb_98 : callable Tryd.prog 98 = true := by kernel_rfl
@[go_sem] theorem bf_99 : bitsFn Tryd.prog 99 = none := by kernel_rfl
@[go_sem] theorem cb_99 : callable Tryd.prog 99 = true := by kernel_rfl
@[go_sem] theorem bf_102 : bitsFn Tryd.prog 102 = none := by kernel_rfl
@[go_sem] theorem cb_102 : callable Tryd.prog 102 = true := by kernel_rfl
@[go_sem] theorem bf_105 : bitsFn Tryd.prog 105 = none := by kernel_rfl
@[go_sem] theorem cb_105 : callable Tryd.prog 105 = true := by kernel_rfl
@[go_sem] theorem bf_106 : bitsFn Tryd.prog 106 = none := by kernel_rfl
@[go_sem] theorem cb_106 : callable Tryd.prog 106 = true := by kernel_rfl
@[go_sem] theorem bf_107 : bitsFn Tryd.prog 107 = none := by kernel_rfl
@[go_sem] theorem cb_107 : callable Tryd.prog 107 = true := by kernel_rfl
@[go_sem] theorem bf_112 : bitsFn Tryd.prog 112 = none := by kernel_rfl
@[go_sem] theorem cb_112 : callable Tryd.prog 112 = true := by kernel_rfl
@[go_sem] theorem bf_116 : bitsFn Tryd.prog 116 = none := by kernel_rfl
@[go_sem] theorem cb_116 : callable Tryd.prog 116 = true := by kernel_rfl
theorem mixedO : Tryd.prog.follows .mixedOrders = true := by kernel_rfl
end Go.Proofs.YtbgfiflnfndckaaDoor.Lift
end
section
/- The lift: small words for walks; values and pairs as data. No conditions: words and their laws. -/
set_option linter.unusedVariables false
set_option linter.unusedSimpArgs false
namespace Go.Proofs.YtbgfiflnfndckaaDoor.Lift
open Go Go.RowKit

/-- A value of the program; a pair is a key and a value. -/
inductive V where
  | mk (k : Nat) (s : ByteArray) (b : Bool) (n : Int) (f : Nat) (l : List V) (m : List (ByteArray × V))
mutual
def vD : V → List D
  | .mk k s b n f l m => [.v (.int .u8 k), .v (.string s), .v (.bool b), .v (.int .i64 n), .v (.float .f64 f), .rows 7 96 (vDs l), .rows 8 112 (pDs m)]
def vDs : List V → List (List D)
  | [] => []
  | x :: l => vD x :: vDs l
def pDs : List (ByteArray × V) → List (List D)
  | [] => []
  | (k, x) :: m => (.v (.string k) :: vD x) :: pDs m
end
def pD (p : ByteArray × V) : List D := .v (.string p.1) :: vD p.2
theorem vDs_map : ∀ l : List V, vDs l = l.map vD
  | [] => by simp only [vDs, List.map_nil]
  | x :: l => by simp only [vDs, List.map_cons, vDs_map l]
theorem pDs_map : ∀ l : List (ByteArray × V), pDs l = l.map pD
  | [] => by simp only [pDs, List.map_nil]
  | (k, x) :: l => by simp only [pDs, List.map_cons, pDs_map l, pD]
theorem vD_len : ∀ x : V, (vD x).length = 7
  | .mk .. => by simp only [vD, List.length_cons, List.length_nil]
theorem pD_len (p : ByteArray × V) : (pD p).length = 8 := by simp only [pD, List.length_cons, vD_len]
attribute [go_sem] vD_len
@[go_sem] theorem vD_take (x : V) : (vD x).take 7 = vD x := take_len (vD_len x)
@[go_sem] theorem vD_takeA (x : V) : ((vD x).map AV.d).take 7 = (vD x).map .d := take_len (by rw [List.length_map, vD_len])
@[go_sem] theorem vD_dropA (x : V) : ((vD x).map AV.d).drop 7 = [] := drop_len (by rw [List.length_map, vD_len])
def va (x : V) : AV := .agg ((vD x).map .d)
def pa (p : ByteArray × V) : AV := .agg ((pD p).map .d)
def rV (l : List V) : AV := .d (.rows 7 96 (l.map vD))
def rP (m : List (ByteArray × V)) : AV := .d (.rows 8 112 (m.map pD))

attribute [go_sem] va pa rV rP
end Go.Proofs.YtbgfiflnfndckaaDoor.Lift
end
section
/- The lift: Same, SamePairs of values. No conditions but the sizes that memory has. -/
set_option linter.unusedVariables false
set_option linter.unusedSimpArgs false
namespace Go.Proofs.YtbgfiflnfndckaaDoor.Lift
open Go Go.RowKit

/-- Two values but for what their lists have. -/
def flat : V → V → Bool
  | .mk k s b n f l m, .mk k' s' b' n' f' l' m' => (((((((k : Int) == (k' : Int)) && (s.toList == s'.toList)) && (b == b')) && (n == n')) && ((f : Int) == (f' : Int))) && ((l.length : Int) == (l'.length : Int))) && ((m.length : Int) == (m'.length : Int))
set_option maxHeartbeats 4000000 in
set_option maxRecDepth 100000 in
theorem flat_c {W0 : World} (x y : V) : APure Tryd.prog W0 50 [va x, va y] (· = .ret (.d (.v (.bool (flat x y))))) := by
  obtain ⟨k, s, b, n, f, l, m⟩ := x
  obtain ⟨k', s', b', n', f', l', m'⟩ := y
  refine A_body Tryd.func50 rfl (by simp [Tryd.ntmps50]) ?_
  simp only [Tryd.ntmps50, Tryd.results50, mkEnv, List.length_nil, va, vD, vDs_map, pDs_map, List.map_cons, List.map_nil]
  repeat (first
      | refine A_seq ?_
      | refine A_block ?_
      | (refine A_region (A_run ?_); simp only [go_sem]; refine A_nil ?_; simp only [Thn, InB])
      | (refine A_condt ?_ ?_; focus (simp only [evo, lk, lk1, lk2, Nat.reduceDiv, Nat.reduceMod]; done))
      | (refine A_condf ?_ ?_; focus (simp only [evo, lk, lk1, lk2, Nat.reduceDiv, Nat.reduceMod]; done))
      | (refine A_skip ?_; simp only [Thn, InB])
      | (refine A_exit ?_; simp only [Thn, InB, reduceIte, Nat.reduceEqDiff])
      | refine A_ret ?_)
  (repeat (first | refine A_seq ?_ | refine A_block ?_))
  (first | refine A_quietG (gs := [none, none, none, none, none, none, some (some 10, true), some (some 10, true), some (some 10, true), some (some 10, true), some (some 10, true), none, none, some (some 17, true), some (some 17, true), some (some 17, true), some (some 17, true), some (some 17, true), none, none, some (some 24, true), some (some 24, true), some (some 24, true), some (some 24, true), some (some 24, true), none, none, some (some 31, true), some (some 31, true), some (some 31, true), some (some 31, true), some (some 31, true), some (some 31, true), some (some 31, true), none, none, some (some 40, true), some (some 40, true), some (some 40, true), some (some 40, true), some (some 40, true), some (some 40, true), some (some 40, true), none, none, some (some 49, true), some (some 49, true), some (some 49, true), some (some 49, true), some (some 49, true), some (some 49, true), some (some 49, true), none, none]) mixedO (by kernel_rfl) (by kernel_rfl) rfl (aqg_run ?_) | refine A_calmG (gs := [none, none, none, none, none, none, some (some 10, true), some (some 10, true), some (some 10, true), some (some 10, true), some (some 10, true), none, none, some (some 17, true), some (some 17, true), some (some 17, true), some (some 17, true), some (some 17, true), none, none, some (some 24, true), some (some 24, true), some (some 24, true), some (some 24, true), some (some 24, true), none, none, some (some 31, true), some (some 31, true), some (some 31, true), some (some 31, true), some (some 31, true), some (some 31, true), some (some 31, true), none, none, some (some 40, true), some (some 40, true), some (some 40, true), some (some 40, true), some (some 40, true), some (some 40, true), some (some 40, true), none, none, some (some 49, true), some (some 49, true), some (some 49, true), some (some 49, true), some (some 49, true), some (some 49, true), some (some 49, true), none, none]) (by kernel_rfl) rfl (aqg_run ?_)); simp only [runG, stepG_n, stepG_s, opW, bsD, opV, mkOp, resE_ap, resA, go_sem]
  (try (refine aqg_nil ?_; (try simp only [Thn, InB])))
  repeat (first
      | refine A_seq ?_
      | refine A_block ?_
      | (refine A_region (A_run ?_); simp only [go_sem]; refine A_nil ?_; simp only [Thn, InB])
      | (refine A_condt ?_ ?_; focus (simp only [evo, lk, lk1, lk2, Nat.reduceDiv, Nat.reduceMod]; done))
      | (refine A_condf ?_ ?_; focus (simp only [evo, lk, lk1, lk2, Nat.reduceDiv, Nat.reduceMod]; done))
      | (refine A_skip ?_; simp only [Thn, InB])
      | (refine A_exit ?_; simp only [Thn, InB, reduceIte, Nat.reduceEqDiff])
      | refine A_ret ?_)
  exact ⟨_, rfl, [], _, fin_pure rfl (Le.refl _), rfl, rfl⟩
end Go.Proofs.YtbgfiflnfndckaaDoor.Lift
end
section
/- The lift: Same, SamePairs. No conditions. -/
set_option linter.unusedVariables false
set_option linter.unusedSimpArgs false
namespace Go.Proofs.YtbgfiflnfndckaaDoor.Lift
open Go Go.RowKit

/-- For every value, if it is so for what is in it. -/
theorem V.ind {p : V → Prop} (h : ∀ k s b n f l m, (∀ x ∈ l, p x) → (∀ x ∈ m, p x.2) → p (.mk k s b n f l m)) : ∀ x, p x
  | .mk k s b n f l m => h k s b n f l m (fun x hx => V.ind h x) (fun x hx => V.ind h x.2)
termination_by x => SizeOf.sizeOf x
decreasing_by
  · have := List.sizeOf_lt_of_mem hx
    simp only [V.mk.sizeOf_spec]
    omega
  · have := List.sizeOf_lt_of_mem hx
    obtain ⟨a, b⟩ := x
    simp only [V.mk.sizeOf_spec, Prod.mk.sizeOf_spec] at this ⊢
    omega
theorem ab_rV {l : List V} (h : AB (rV l)) : l.length * 96 ≤ 140737488355328 := by
  simp only [AB, rV] at h
  cases h with
  | rows _ _ _ h _ => simpa using h
theorem ab_rP {m : List (ByteArray × V)} (h : AB (rP m)) : m.length * 112 ≤ 140737488355328 := by
  simp only [AB, rP] at h
  cases h with
  | rows _ _ _ h _ => simpa using h
theorem ab_va {k : Nat} {s : ByteArray} {b : Bool} {n : Int} {f : Nat} {l : List V} {m : List (ByteArray × V)} (h : AB (va (.mk k s b n f l m))) : l.length * 96 ≤ 140737488355328 ∧ m.length * 112 ≤ 140737488355328 := by
  simp only [AB, va, vD, vDs_map, pDs_map] at h
  exact ⟨ab_rV (h (.rows 7 96 (l.map vD)) (by simp)), ab_rP (h (.rows 8 112 (m.map pD)) (by simp))⟩

end Go.Proofs.YtbgfiflnfndckaaDoor.Lift
end
section
/- The lift: a function that does something, and answers the error's number with which it panics (penstock/value.caught). No conditions: words and their laws. -/
set_option linter.unusedVariables false
set_option linter.unusedSimpArgs false
namespace Go.Proofs.YtbgfiflnfndckaaDoor.Lift
open Go Go.RowKit

namespace Val
theorem assert_errno (c : Int) (w : World) : (Instr.typeAssert (.iface 38 (.int .i64 c)) 20 38 false).run Tryd.prog w = .ok (.int .i64 c) w := by kernel_rfl
theorem make_func (P : Program) : ∀ (fn : Fn) (first cap : Array Value) (w : World), (Instr.makeFunc fn first cap).run P w = .ok (.func fn first cap) w := fun _ _ _ _ => rfl
theorem caught_dies (p : Addr) (x : Int) (c : Int) (older : List PanicEntry) (w : World) (hc : w.cell? p = some (.int .i64 x)) (hz : w.frozen? p = false) :
    CallsD Tryd.prog 78 #[.pointer (some p)] (.panicking ({ v := .iface 38 (.int .i64 c), recovered := false } :: older)) w fun e u' w' =>
      e = .returned (.tuple #[]) ∧ u' = .panicking ({ v := .iface 38 (.int .i64 c), recovered := true } :: older) ∧ w' = w.setCell p (.int .i64 c) := by
  have hta := assert_errno c
  refine callsD_of_wpS Tryd.func78 rfl fun c₀ cs hu => ?_
  apply wpS_seq
  apply wpS_region
  simp [wpOpsS, go_sem, recoverD, hu, Tryd.ntmps78, Exit.thenS]
  refine wpS_of_wp ?_
  show Code.wp _ _ _ { tmps := #[.pointer (some p), .iface 38 (.int .i64 c), .iface 38 (.int .i64 c), undef, undef, undef, undef], defers := [] } _
  go_wp2
  simp [bodyPostS, results, Tryd.results78]
theorem caught_idle (p : Addr) (w : World) :
    CallsD Tryd.prog 78 #[.pointer (some p)] .returning w fun e u' w' => e = .returned (.tuple #[]) ∧ u' = .returning ∧ w' = w := by
  refine callsD_of_wpS Tryd.func78 rfl fun c₀ cs hu => ?_
  apply wpS_seq
  apply wpS_region
  simp [wpOpsS, go_sem, recoverD, hu, Tryd.ntmps78, Exit.thenS]
  refine wpS_of_wp ?_
  show Code.wp _ _ _ { tmps := #[.pointer (some p), .nilIface, .nilIface, undef, undef, undef, undef], defers := [] } _
  go_wp2
  cases c₀
  simp at hu
  simp [bodyPostS, results, Tryd.results78, hu]
set_option maxHeartbeats 1000000 in
set_option maxRecDepth 100000 in
theorem caught_calls (F : FuncId) (caps : Array Value) (w : World) (ok : World → Prop) (bad : Int → World → Prop)
    (hF : ∀ w : World, (callFunc F caps).run Tryd.prog w = .ok (.enter F caps) w)
    (h : Calls Tryd.prog F caps (w.alloc (.cells #[.int .i64 0] 38)) fun e w' =>
      (e = .returned (.tuple #[]) ∧ w'.cell? ⟨w.heap.size, 0, none⟩ = some (.int .i64 0) ∧ w'.frozen? ⟨w.heap.size, 0, none⟩ = false ∧ ok w') ∨ ∃ c, e = .panicked [{ v := .iface 38 (.int .i64 c), recovered := false }] ∧ w'.cell? ⟨w.heap.size, 0, none⟩ = some (.int .i64 0) ∧ w'.frozen? ⟨w.heap.size, 0, none⟩ = false ∧ bad c w') :
    Calls Tryd.prog 46 #[.func (.func F) #[] caps] w fun e w' =>
      (e = .returned (.int .i64 0) ∧ ∃ w1, ok w1 ∧ w' = w1.setCell ⟨w.heap.size, 0, none⟩ (.int .i64 0)) ∨ (∃ c, e = .returned (.int .i64 c) ∧ ∃ w1, bad c w1 ∧ w' = w1.setCell ⟨w.heap.size, 0, none⟩ (.int .i64 c)) := by
  have hmf := make_func Tryd.prog
  have HF := Lib.hid hF
  clear hF
  go_enter_defers Tryd.func46, Tryd.ntmps46
  go_wp2_with fail
  rw [HF.out, Oper.upon_enter]
  refine h.mono ?_
  rintro e w1 (⟨rfl, h0, z0, hk⟩ | ⟨c, rfl, h0, z0, hk⟩)
  · go_wp2
    refine leaves_cons (f := 78) (args := #[.pointer (some ⟨w.heap.size, 0, none⟩)]) (by simp) (by simp [go_sem]) ?_
    refine (caught_idle _ _).mono ?_
    rintro e u' w'' ⟨rfl, rfl, rfl⟩
    have hh := World.cell?_setCell_same (w := w1) (a := ⟨w.heap.size, 0, none⟩) (v := .int .i64 0) h0
    exact ⟨.int .i64 0, by simp [results, Tryd.results46, go_sem, hh], .inl ⟨rfl, _, hk, rfl⟩⟩
  · go_wp2
    refine leaves_cons (f := 78) (args := #[.pointer (some ⟨w.heap.size, 0, none⟩)]) (by simp) (by simp [go_sem]) ?_
    refine (caught_dies _ 0 c [] _ h0 z0).mono ?_
    rintro e u' w'' ⟨rfl, rfl, rfl⟩
    have hh := World.cell?_setCell_same (w := w1) (a := ⟨w.heap.size, 0, none⟩) (v := .int .i64 c) h0
    exact ⟨.int .i64 c, by simp [results, Tryd.results46, go_sem, hh], .inr ⟨c, rfl, _, hk, rfl⟩⟩

/-- What it comes to, by what the function that it was handed does. -/
theorem A_caught {W0 : World} {g : FuncId} {caps : List AV} {L : List Box} {R R' : Res → List Box → Prop} (hg : callable Tryd.prog g = true) (h : ACalls Tryd.prog W0 g caps L R)
    (hR : ∀ r L', R r L' → (r = .ret (.tup []) ∧ R' (.ret (.d (.v (.int .i64 0)))) L') ∨ ∃ c, r = .panic (.d (.v (.iface 38 (.int .i64 c)))) ∧ R' (.ret (.d (.v (.int .i64 c)))) L') :
    ACalls Tryd.prog W0 46 [.fn g caps] L R' := by
  intro M m w us hC ha
  obtain ⟨u, rfl⟩ : ∃ u, us = #[u] := by
    have hl := ha.length
    simp only [List.length_cons, List.length_nil, Array.length_toList] at hl
    exact ⟨us[0], by apply Array.ext'; simp; cases us with | mk l => cases l with | nil => simp at hl | cons x l => cases l with | nil => rfl | cons => simp at hl⟩
  simp only [RAs, RA, and_true] at ha
  obtain ⟨cs, rfl, ha⟩ := ha
  have hlow : W0.heap.size ≤ w.heap.size := hC.base.size
  have hf1 : Fr (fun _ => False) w (w.alloc (.cells #[.int .i64 0] 38)) := Fr.alloc w _
  have hM1 : ∀ k, k < w.heap.size → (M k ∨ k = w.heap.size) → M k := fun k hk hx => hx.resolve_right (by omega)
  have hC1 : C W0 ⟨w.alloc (.cells #[.int .i64 0] 38), fun k => M k ∨ k = w.heap.size, m, L.length⟩ (fun k => M k ∨ k = w.heap.size) m ⟨0, [], L⟩ nobody (w.alloc (.cells #[.int .i64 0] 38)) := by
    have mLt : ∀ k, (M k ∨ k = w.heap.size) → k < (w.alloc (.cells #[.int .i64 0] 38)).heap.size := by
      rintro k (hk | rfl)
      · have := hC.mLt k hk
        simp
        omega
      · simp
    exact {
      base := hC.base.trans hf1
      fr := Fr.refl _ _
      eLt := mLt
      mLow := by
        rintro k (hk | rfl)
        · exact hC.mLow k hk
        · exact hlow
      mUp := fun _ x => x
      mNew := fun _ x => .inl x
      mLt := mLt
      mNo := hC.mNo
      mIn := fun b k hb => .inl (hC.mIn b k hb)
      inj := hC.inj
      oldv := fun _ _ _ _ => rfl
      oldr := fun _ _ _ hk => .inl hk
      new := fun b k hb hk => by
        have := hC.mNo b hb
        rw [this] at hk
        cases hk
      len := Nat.le_refl _
      box := fun b x hb => (hC.box b x hb).mono hf1 (fun _ _ x => x.elim) hM1 (fun _ _ x => x)
      env := fun t x hx => by simp [lk_nil] at hx
      wide := rfl
      defers := rfl }
  have ha1 := RAs.mono (M' := fun k => M k ∨ k = w.heap.size) hf1 (fun _ _ x => x.elim) hM1 _ _ ha
  refine (caught_calls g cs w (fun w' => ∃ L' M' m', R' (.ret (.d (.v (.int .i64 0)))) L' ∧ C W0 ⟨w.alloc (.cells #[.int .i64 0] 38), fun k => M k ∨ k = w.heap.size, m, L.length⟩ M' m' ⟨0, [], L'⟩ nobody w')
    (fun c w' => ∃ L' M' m', R' (.ret (.d (.v (.int .i64 c)))) L' ∧ C W0 ⟨w.alloc (.cells #[.int .i64 0] 38), fun k => M k ∨ k = w.heap.size, m, L.length⟩ M' m' ⟨0, [], L'⟩ nobody w')
    (fun w => run_callFunc hg _ w) ((h _ m _ cs hC1 ha1).mono ?_)).mono ?_
  · rintro e w' ⟨r, L', M', m', hr, hres, hC2⟩
    have hblk : w'.heap[w.heap.size]? = (w.alloc (.cells #[.int .i64 0] 38)).heap[w.heap.size]? := hC2.fr.block _ (by simp) (fun ⟨b, _, hb⟩ => by
      have := hC.mLt _ (hC.mIn b _ hb)
      omega)
    have h0 : w'.cell? ⟨w.heap.size, 0, none⟩ = some (.int .i64 0) := (World.cell?_of_block (w := w.alloc (.cells #[.int .i64 0] 38)) (a := ⟨w.heap.size, 0, none⟩) hblk).trans (by simp)
    have z0 : w'.frozen? ⟨w.heap.size, 0, none⟩ = false := (World.frozen?_of_block (w := w.alloc (.cells #[.int .i64 0] 38)) (a := ⟨w.heap.size, 0, none⟩) hblk).trans (by simp)
    rcases hR r L' hr with ⟨rfl, h1⟩ | ⟨c, rfl, h1⟩
    · cases e with
      | returned u =>
        simp only [ResR, RA] at hres
        obtain ⟨us, rfl, hu⟩ := hres
        have : us = #[] := by
          have := hu.length
          simp at this
          exact Array.eq_empty_of_size_eq_zero this.symm
        subst this
        exact .inl ⟨rfl, h0, z0, L', M', m', h1, hC2⟩
      | panicked c => exact hres.elim
      | outgrown => exact hres.elim
    · cases e with
      | returned u => exact hres.elim
      | panicked ch =>
        obtain ⟨u, rfl, hu⟩ := hres
        obtain rfl := hu.v_inv.1
        exact .inr ⟨c, rfl, h0, z0, L', M', m', h1, hC2⟩
      | outgrown => exact hres.elim
  · have fin : ∀ (c : Int) (w1 : World), (∃ L' M' m', R' (.ret (.d (.v (.int .i64 c)))) L' ∧ C W0 ⟨w.alloc (.cells #[.int .i64 0] 38), fun k => M k ∨ k = w.heap.size, m, L.length⟩ M' m' ⟨0, [], L'⟩ nobody w1) →
        ∃ r L' M' m', R' r L' ∧ ResR M' m' (w1.setCell ⟨w.heap.size, 0, none⟩ (.int .i64 c)) r (.returned (.int .i64 c)) ∧ C W0 ⟨w, M, m, L.length⟩ M' m' ⟨0, [], L'⟩ nobody (w1.setCell ⟨w.heap.size, 0, none⟩ (.int .i64 c)) := by
      rintro c w1 ⟨L', M', m', h1, h2⟩
      have hk : M' w.heap.size := h2.mUp _ (.inr rfl)
      have hblk : w1.heap[w.heap.size]? = (w.alloc (.cells #[.int .i64 0] 38)).heap[w.heap.size]? := h2.fr.block _ (by simp) (fun ⟨b, _, hb⟩ => by
        have := hC.mLt _ (hC.mIn b _ hb)
        omega)
      have hcell : w1.heap[w.heap.size]? = some (Obj.cells #[.int .i64 0] 38 (0, 0)) := hblk.trans (heap_alloc_new w _)
      have hset : w1.setCell ⟨w.heap.size, 0, none⟩ (.int .i64 c) = w1.setRow w.heap.size #[.int .i64 c] := by
        rw [setCell_eq_setRow w1 w.heap.size 0 _ _ (0, 0) _ hcell]
        rfl
      have hf : Fr (fun i => i = w.heap.size) w1 (w1.setCell ⟨w.heap.size, 0, none⟩ (.int .i64 c)) := by
        rw [hset]
        exact Fr.setRow w1 _ _ _ _ hcell rfl rfl
      have hE : ∀ i, i < w1.heap.size → i = w.heap.size → M' i := fun i _ e => e ▸ hk
      have nob : ∀ b, m' b ≠ .at_ w.heap.size := fun b hb => by
        by_cases hbl : b < L.length
        · rcases h2.oldr b _ hbl hb with h3 | h3
          · have := hC.mLt _ (hC.mIn b _ h3)
            omega
          · simp at h3
            omega
        · have h3 := h2.new b _ (by simpa using hbl) hb
          simp at h3
          omega
      refine ⟨_, L', M', m', h1, RA.v_mk (M := M') (m := m') (w := w1.setCell ⟨w.heap.size, 0, none⟩ (.int .i64 c)) (x := .int .i64 c) rfl, { h2 with base := ?_, fr := ?_, eLt := hC.mLt, mUp := fun k hk => h2.mUp k (.inl hk), mNew := ?_, mLt := ?_, oldv := h2.oldv, oldr := ?_, new := ?_, box := ?_, env := ?_ }⟩
      · exact ⟨hf.os.trans h2.base.os, hf.tape.trans h2.base.tape, hf.output.trans h2.base.output, Nat.le_trans h2.base.size hf.size, fun i hi he => (hf.block i (Nat.lt_of_lt_of_le hi h2.base.size) (by omega)).trans (h2.base.block i hi he),
          fun i D t hi => by
            obtain ⟨D', h3, h4⟩ := h2.base.keep i D t hi
            obtain ⟨D'', h5, h6⟩ := hf.keep i D' t h3
            exact ⟨D'', h5, h6.trans h4⟩⟩
      · have h3 : Fr (fun k => ∃ b, b < L.length ∧ m b = .at_ k) w w1 := (Fr.weak hf1 fun _ _ x => x.elim).trans h2.fr
        refine ⟨hf.os.trans h3.os, hf.tape.trans h3.tape, hf.output.trans h3.output, Nat.le_trans h3.size hf.size, fun i hi he => (hf.block i (Nat.lt_of_lt_of_le hi h3.size) (by simp only at hi; omega)).trans (h3.block i hi he), fun i D t hi => ?_⟩
        obtain ⟨D', h3, h4⟩ := h3.keep i D t hi
        obtain ⟨D'', h5, h6⟩ := hf.keep i D' t h3
        exact ⟨D'', h5, h6.trans h4⟩
      · intro k hk
        rcases h2.mNew k hk with (h3 | rfl) | h3
        · exact .inl h3
        · exact .inr (Nat.le_refl _)
        · simp at h3
          exact .inr (by simp only; omega)
      · intro k hk
        exact Nat.lt_of_lt_of_le (h2.mLt k hk) hf.size
      · intro b k hb hk
        rcases h2.oldr b k hb hk with h3 | h3
        · exact .inl h3
        · simp at h3
          exact .inr (by simp only; omega)
      · intro b k hb hk
        have h3 := h2.new b k hb hk
        simp at h3
        simp only
        omega
      · intro b x hb
        exact (h2.box b x hb).mono hf hE (fun _ _ x => x) fun k hbk e => nob b (e ▸ hbk)
      · intro t x hx
        simp [lk_nil] at hx
    rintro e w' (⟨rfl, w1, hw1, rfl⟩ | ⟨c, rfl, w1, hw1, rfl⟩)
    · exact fin 0 w1 hw1
    · exact fin c w1 hw1
end Val
end Go.Proofs.YtbgfiflnfndckaaDoor.Lift
end
section
/- The lift: what a row is handed, opened by its type. No conditions: words and their laws. -/
set_option linter.unusedVariables false
set_option linter.unusedSimpArgs false
namespace Go.Proofs.YtbgfiflnfndckaaDoor.Lift
open Go Go.RowKit Go.WideShapes

/-- Cells that are data, as a type says. -/
inductive TyD (P : Program) : TypeId → List D → Prop
  | int (t : TypeId) (k : IntKind) (a : Int) (hu : P.underlying t = some (.int k)) (h : (Lit.int k a).wf = true) : TyD P t [.v (.int k a)]
  | str (t : TypeId) (s : ByteArray) (hu : P.underlying t = some .string) (h : s.size ≤ 140737488351232) : TyD P t [.v (.string s)]
  | bool (t : TypeId) (b : Bool) (hu : P.underlying t = some .bool) : TyD P t [.v (.bool b)]
  | float (t : TypeId) (k : FloatKind) (b : Nat) (hu : P.underlying t = some (.float k)) (h : (Lit.float k b).wf = true) : TyD P t [.v (.float k b)]
  | slice (t e sz bt : Nat) (l : List (List D)) (hu : P.underlying t = some (.slice e)) (hs : P.cellsOf e = sz) (hb : P.bytesOf e = bt) (hl : l.length * bt ≤ 140737488351232) (h : ∀ row ∈ l, TyD P e row) : TyD P t [.rows sz bt l]
  | struct (t : TypeId) (fs : Array Field) (dss : List (List D)) (hu : P.underlying t = some (.struct fs)) (hl : dss.length = fs.size) (h : ∀ (i : Nat) (f : Field) (ds : List D), fs[i]? = some f → dss[i]? = some ds → TyD P f.type ds) : TyD P t dss.flatten

/-- Cells that are data. -/
def Dts (w : World) (ds : List D) (us : List Value) : Prop := ds.length = us.length ∧ ∀ (i : Nat) (d : D) (u : Value), ds[i]? = some d → us[i]? = some u → RD (fun _ => False) w d u
theorem Dts.append {w : World} {a b : List D} {x y : List Value} (h : Dts w a x) (h' : Dts w b y) : Dts w (a ++ b) (x ++ y) := by
  refine ⟨by rw [List.length_append, List.length_append, h.1, h'.1], fun i d u hd hu => ?_⟩
  by_cases hi : i < a.length
  · rw [List.getElem?_append_left hi] at hd
    rw [List.getElem?_append_left (by rw [← h.1]; exact hi)] at hu
    exact h.2 i d u hd hu
  · rw [List.getElem?_append_right (by omega)] at hd
    rw [List.getElem?_append_right (by rw [← h.1]; omega), ← h.1] at hu
    exact h'.2 _ d u hd hu
theorem Dts.one {w : World} {d : D} {u : Value} (h : RD (fun _ => False) w d u) : Dts w [d] [u] :=
  ⟨rfl, fun i d' u' hd hu => match i, hd, hu with | 0, hd, hu => by cases hd; cases hu; exact h⟩
theorem Dts.ras {w : World} {ds : List D} {us : List Value} (h : Dts w ds us) : RAs (fun _ => False) (fun _ => .no) w (ds.map .d) us :=
  RAs.mk (by simpa using h.1) fun i x u hx hu => by
    rw [List.getElem?_map, Option.map_eq_some_iff] at hx
    obtain ⟨d, hd, rfl⟩ := hx
    simp only [RA]
    exact h.2 i d u hd hu
theorem spot_none {w : World} {a : Addr} {v : Value} (h : w.cell? a = some v) : a = ⟨a.block, a.off, none⟩ := by
  obtain ⟨b, o, s⟩ := a
  cases s with
  | none => rfl
  | some k =>
    unfold World.cell? at h
    split at h
    · simp at h
    · cases h
theorem rows_rd {w : World} {A : Option Addr} {sz bt c : Nat} {l : List (List D)} (hsz : 0 < sz) (hbt : 0 < bt) (hb : l.length * bt ≤ 140737488355328) (hc : l.length ≤ c) (Us : Nat → List Value)
    (hrow : ∀ i row, l[i]? = some row → row.length = sz ∧ Dts w row (Us i)) (hA : ∀ i, i < l.length → ∃ a, A = some a ∧ ∀ j u, (Us i)[j]? = some u → w.cell? ((a.add (i * sz)).add j) = some u) : RD (fun _ => False) w (.rows sz bt l) (.slice A l.length c) := by
  refine .rows sz bt l A c (fun i j => (Us i).getD j default) hbt hb hc (fun i row hi => ?_) (fun i row j d hi hj => ?_)
  · have hil : i < l.length := (List.getElem?_eq_some_iff.1 hi).1
    obtain ⟨h1, h2, h3⟩ := hrow i row hi
    refine ⟨h1, ?_⟩
    have h0 : 0 < l.length := by omega
    obtain ⟨a, rfl, hcell⟩ := hA 0 h0
    have hr0 := hrow 0 l[0] (List.getElem?_eq_getElem h0)
    have hu0 : 0 < (Us 0).length := by rw [← hr0.2.1, hr0.1]; exact hsz
    have e0 := hcell 0 _ (List.getElem?_eq_getElem hu0)
    rw [Nat.zero_mul] at e0
    have ea : a = ⟨a.block, a.off, none⟩ := by
      have := spot_none e0
      simpa [Addr.add] using this
    refine ⟨a.block, a.off, by rw [← ea], fun j hj => ⟨fun h => h, ?_⟩⟩
    obtain ⟨a', ha', hcell'⟩ := hA i hil
    cases ha'
    have huj : j < (Us i).length := by rw [← h2, h1]; exact hj
    have := hcell' j _ (List.getElem?_eq_getElem huj)
    rw [ea, Addr.add_lit, Addr.add_lit] at this
    rw [this]
    simp [List.getD, huj]
  · obtain ⟨h1, h2, h3⟩ := hrow i row hi
    have hjl : j < (Us i).length := by rw [← h2]; exact (List.getElem?_eq_some_iff.1 hj).1
    have := h3 j d _ hj (List.getElem?_eq_getElem hjl)
    simpa [List.getD, hjl] using this

/-- Fields that lie one behind another. -/
def contig (P : Program) : List Field → Nat → Nat → Bool
  | [], o, n => o == n
  | f :: fs, o, n => f.offset == o && contig P fs (o + P.cellsOf f.type) n
def tyOk1 (P : Program) (S : List TypeId) (t : TypeId) : Bool := match P.underlying t with
  | some (.int _) | some .string | some .bool | some (.float _) => true
  | some (.slice e) => S.contains e && decide (0 < P.bytesOf e) && decide (0 < P.cellsOf e)
  | some (.struct fs) => fs.toList.all (fun f => S.contains f.type) && contig P fs.toList 0 (P.cellsOf t)
  | _ => false
/-- Types that are made of one another, and of nothing but numbers, texts, slices and structs. -/
def tyOk (P : Program) (S : List TypeId) : Bool := S.all (tyOk1 P S)

section
variable {P : Program} {H : Type} {enc : TypeId × Value → H} {w : World} {base : Nat} {spare : Nat → Bool} {held : Bool}
/-- No more than a machine holds. -/
def Fits (P : Program) (t : TypeId) (d : DataW H) : Prop := ∀ n ∈ DataW.weights P t d, n ≤ 140737488351232
theorem fits_field {t : TypeId} {fs : Array Field} {parts : List (DataW H)} (hu : P.underlying t = some (.struct fs)) (h : Fits P t (.agg parts)) {j : Nat} {u : TypeId} {d : DataW H} (ht : (fs.toList.map (·.type))[j]? = some u) (hd : parts[j]? = some d) : Fits P u d := fun n hn => by
  refine h n ?_
  unfold DataW.weights
  rw [hu]
  exact DataW.weights_mem_each ht hd n hn
theorem fits_all {e : TypeId} : ∀ {l : List (DataW H)} {i : Nat} {d : DataW H}, l[i]? = some d → ∀ n ∈ DataW.weights P e d, n ∈ DataW.weightsAll P e l
  | d0 :: l, 0, d, hd, n, hn => by
    simp only [List.getElem?_cons_zero, Option.some.injEq] at hd
    subst hd
    simp only [DataW.weightsAll, List.mem_append]
    exact .inl hn
  | d0 :: l, i + 1, d, hd, n, hn => by
    simp only [List.getElem?_cons_succ] at hd
    simp only [DataW.weightsAll, List.mem_append]
    exact .inr (fits_all hd n hn)
  | [], _, _, hd, _, _ => by simp at hd
theorem fits_elem {t e : TypeId} {elems sp : List (DataW H)} (hu : P.underlying t = some (.slice e)) (h : Fits P t (.slice elems sp)) {i : Nat} {d : DataW H} (hd : elems[i]? = some d) : Fits P e d := fun n hn => by
  refine h n ?_
  unfold DataW.weights
  rw [hu]
  simp only [List.mem_cons, List.mem_append]
  exact .inr (.inl (fits_all hd n hn))
theorem fits_len {t e : TypeId} {elems sp : List (DataW H)} (hu : P.underlying t = some (.slice e)) (h : Fits P t (.slice elems sp)) : elems.length * P.bytesOf e ≤ 140737488351232 := by
  have := h ((elems.length + sp.length) * P.bytesOf e) (by unfold DataW.weights; rw [hu]; simp)
  exact Nat.le_trans (Nat.mul_le_mul_right _ (Nat.le_add_right _ _)) this
theorem fits_of {ts : List TypeId} {ds : List (DataW H)} (h : (DataW.weightsEach P ts ds).all (· ≤ reachBytes) = true) {j : Nat} {t : TypeId} {d : DataW H} (ht : ts[j]? = some t) (hd : ds[j]? = some d) : Fits P t d := fun n hn => by
  have h9 := List.all_eq_true.1 h n (DataW.weights_mem_each ht hd n hn)
  exact of_decide_eq_true h9
theorem dts_flat {cs : List Value} : ∀ (fs : List Field) (o : Nat) (F : List (List D)), contig P fs o cs.length = true → F.length = fs.length → (∀ (i : Nat) (f : Field) (ds : List D), fs[i]? = some f → F[i]? = some ds → Dts w ds ((cs.drop f.offset).take (P.cellsOf f.type))) → Dts w F.flatten (cs.drop o)
  | [], o, F, h, hl, _ => by
    have h1 : F = [] := List.eq_nil_of_length_eq_zero hl
    have h2 : o = cs.length := by simpa [contig] using h
    subst h1 h2
    rw [List.drop_length]
    exact ⟨rfl, fun i d u hd => by simp at hd⟩
  | f :: fs, o, [], h, hl, _ => by simp at hl
  | f :: fs, o, d :: F, h, hl, hF => by
    simp only [contig, Bool.and_eq_true, beq_iff_eq] at h
    have h1 := hF 0 f d rfl rfl
    have h2 := dts_flat fs _ F h.2 (by simpa using hl) fun i f' ds hf hd => hF (i + 1) f' ds (by simpa using hf) (by simpa using hd)
    have := h1.append h2
    rw [h.1] at this
    rw [List.flatten_cons]
    have e : cs.drop o = (cs.drop o).take (P.cellsOf f.type) ++ cs.drop (o + P.cellsOf f.type) := by rw [← List.drop_drop, List.take_append_drop]
    rw [e]
    exact this
theorem trod_floatG {t : TypeId} {k : FloatKind} {m : Nat} {cs : List Value} {y : DataW H × List MemPlace} (ht : P.underlying t = some (.float k)) (h : DataW.trod enc P w base spare held m t cs = some y) :
    ∃ b, cs = [.float k b] ∧ y = (.lit (.float k b), []) ∧ (Lit.float k b).wf = true := by
  cases m with
  | zero => simp [DataW.trod] at h
  | succ n =>
    unfold DataW.trod at h
    rw [ht] at h
    split at h <;> simp_all
theorem open_ty {S : List TypeId} (hS : tyOk P S = true) : ∀ (fuel : Nat) (t : TypeId) (cs : List Value) (y : DataW H × List MemPlace), t ∈ S → DataW.trod enc P w base spare held fuel t cs = some y → Fits P t y.1 → ∃ ds, TyD P t ds ∧ Dts w ds cs
  | 0, t, cs, y, _, h, _ => by simp [DataW.trod] at h
  | fuel + 1, t, cs, y, ht, h, hf => by
    have h1 := List.all_eq_true.1 hS t ht
    unfold tyOk1 at h1
    cases hu : P.underlying t with
    | none => rw [hu] at h1; cases h1
    | some u =>
      rw [hu] at h1
      cases u with
      | int k =>
        obtain ⟨n, rfl, _, hw⟩ := DataW.trod_int hu h
        exact ⟨_, .int t k n hu hw, Dts.one (.v _ rfl)⟩
      | string =>
        obtain ⟨s, rfl, rfl, _⟩ := DataW.trod_string hu h
        refine ⟨_, .str t s hu ?_, Dts.one (.v _ rfl)⟩
        have := hf s.data.toList.length (by unfold DataW.weights; simp)
        rwa [Array.length_toList] at this
      | bool =>
        obtain ⟨b, rfl, _⟩ := DataW.trod_bool hu h
        exact ⟨_, .bool t b hu, Dts.one (.v _ rfl)⟩
      | float k =>
        obtain ⟨b, rfl, _, hw⟩ := trod_floatG hu h
        exact ⟨_, .float t k b hu hw, Dts.one (.v _ rfl)⟩
      | slice e =>
        simp only [Bool.and_eq_true, decide_eq_true_eq, List.contains_iff_mem] at h1
        obtain ⟨⟨he, hbt⟩, hsz⟩ := h1
        rcases DataW.trod_slice hu h with ⟨rfl, _⟩ | ⟨a, len, cap, elems, rest, n, hn, rfl, rfl, hb, hle, hcap, hlen, hel, _, _⟩
        · exact ⟨_, .slice t e _ _ [] hu rfl rfl (by simp) (fun row hr => by cases hr), Dts.one (RD.nil (.e none) _ _ hbt)⟩
        · have hl := fits_len hu hf
          rw [List.length_map, hlen] at hl
          have each : ∀ i, ∃ p : List Value × List D, i < len → TyD P e p.2 ∧ Dts w p.2 p.1 ∧ p.1.length = P.cellsOf e ∧ ∀ j u, p.1[j]? = some u → w.cell? ((a.add (i * P.cellsOf e)).add j) = some u := fun i => by
            by_cases hi : i < len
            · have h7 := hel i hi
              have hie : i < elems.length := by omega
              rw [List.getElem?_eq_getElem hie, Option.bind_eq_some_iff] at h7
              obtain ⟨cs', h8, h9⟩ := h7
              obtain rfl : fuel = n := by omega
              obtain ⟨ds, hd1, hd2⟩ := open_ty hS fuel e cs' _ he h9 (fits_elem hu hf (i := i) (by rw [List.getElem?_map, List.getElem?_eq_getElem hie]; rfl))
              obtain ⟨_, hlc, hc⟩ := World.cells?_some h8
              refine ⟨(cs', ds), fun _ => ⟨hd1, hd2, hlc, fun j u hj => ?_⟩⟩
              have hlt : j < cs'.length := (List.getElem?_eq_some_iff.1 hj).1
              rw [hc j (by omega), hj]
            · exact ⟨([], []), fun h => absurd h hi⟩
          obtain ⟨F, hF⟩ := Classical.skolem.1 each
          have hlr : ((List.range len).map fun i => (F i).2).length = len := by simp
          have hget : ∀ i row, ((List.range len).map fun i => (F i).2)[i]? = some row → i < len ∧ row = (F i).2 := fun i row hr => by
            have hi : i < len := by
              have := (List.getElem?_eq_some_iff.1 hr).1
              simpa using this
            rw [List.getElem?_map, List.getElem?_range hi] at hr
            exact ⟨hi, by simpa using hr.symm⟩
          refine ⟨[.rows (P.cellsOf e) (P.bytesOf e) ((List.range len).map fun i => (F i).2)], .slice t e _ _ _ hu rfl rfl (by rw [hlr]; exact hl) (fun row hr => ?_), Dts.one ?_⟩
          · obtain ⟨i, hi⟩ := List.getElem?_of_mem hr
            obtain ⟨h3, rfl⟩ := hget i row hi
            exact (hF i h3).1
          · have := rows_rd (w := w) (A := some a) (sz := P.cellsOf e) (bt := P.bytesOf e) (c := cap) (l := (List.range len).map fun i => (F i).2) hsz hbt (by rw [hlr]; omega) (by rw [hlr]; exact hle) (fun i => (F i).1) (fun i row hi => ?_) (fun i hi => ⟨a, rfl, (hF i (by rw [hlr] at hi; exact hi)).2.2.2⟩)
            · rw [hlr] at this
              exact this
            · obtain ⟨h3, rfl⟩ := hget i row hi
              obtain ⟨_, g2, g3, _⟩ := hF i h3
              exact ⟨g2.1.trans g3, g2⟩
      | struct fs =>
        simp only [Bool.and_eq_true] at h1
        obtain ⟨h1, h2⟩ := h1
        obtain ⟨xs, n, hn, rfl, hl, hlen, hfd⟩ := DataW.trod_struct hu h
        obtain rfl : fuel = n := by omega
        have each : ∀ i : Nat, ∃ ds : List D, ∀ f : Field, fs[i]? = some f → TyD P f.type ds ∧ Dts w ds ((cs.drop f.offset).take (P.cellsOf f.type)) := fun i => by
          cases hfi : fs[i]? with
          | none => exact ⟨[], fun f hf => by cases hf⟩
          | some f =>
            have hi : i < fs.size := (Array.getElem?_eq_some_iff.1 hfi).1
            have h3 := hfd i f hfi
            rw [List.getElem?_eq_getElem (by omega)] at h3
            have hmem : f ∈ fs.toList := List.mem_of_getElem? (by simpa using hfi)
            have h4 := List.all_eq_true.1 h1 f hmem
            obtain ⟨ds, g1, g2⟩ := open_ty hS fuel f.type _ _ (by simpa using h4) h3 (fits_field hu hf (j := i) (by simp [hfi]) (by rw [List.getElem?_map, List.getElem?_eq_getElem (by omega)]; rfl))
            exact ⟨ds, fun f' hf' => by cases hf'; exact ⟨g1, g2⟩⟩
        obtain ⟨F, hF⟩ := Classical.skolem.1 each
        have hget : ∀ i ds, ((List.range fs.size).map F)[i]? = some ds → ds = F i := fun i ds hr => by
          have hi : i < fs.size := by
            have := (List.getElem?_eq_some_iff.1 hr).1
            simpa using this
          rw [List.getElem?_map, List.getElem?_range hi] at hr
          simpa using hr.symm
        refine ⟨((List.range fs.size).map F).flatten, .struct t fs _ hu (by simp) (fun i f ds hfi hd => ?_), ?_⟩
        · rw [hget i ds hd]
          exact (hF i f hfi).1
        · have := dts_flat (w := w) (P := P) (cs := cs) fs.toList 0 ((List.range fs.size).map F) (by rw [hl]; exact h2) (by simp) fun i f ds hfi hd => by
            rw [hget i ds hd]
            exact (hF i f (by simpa using hfi)).2
          simpa using this
      | _ => cases h1
end

/-- Cells that are data, one type behind another. -/
inductive TyDs (P : Program) : List TypeId → List D → Prop
  | nil : TyDs P [] []
  | cons (t : TypeId) (ts : List TypeId) (ds r : List D) (h : TyD P t ds) (h' : TyDs P ts r) : TyDs P (t :: ts) (ds ++ r)
theorem TyDs.mk {P : Program} : ∀ (fs : List Field) (dss : List (List D)), dss.length = fs.length → (∀ (i : Nat) (f : Field) (ds : List D), fs[i]? = some f → dss[i]? = some ds → TyD P f.type ds) → TyDs P (fs.map (·.type)) dss.flatten
  | [], [], _, _ => .nil
  | f :: fs, d :: dss, hl, h => .cons _ _ _ _ (h 0 f d rfl rfl) (TyDs.mk fs dss (by simpa using hl) fun i f' ds hf hd => h (i + 1) f' ds (by simpa using hf) (by simpa using hd))
  | [], _ :: _, hl, _ => by simp at hl
  | _ :: _, [], hl, _ => by simp at hl
theorem TyD.int_inv {P : Program} {t : TypeId} {k : IntKind} {ds : List D} (hu : P.underlying t = some (.int k)) (h : TyD P t ds) : ∃ a, ds = [.v (.int k a)] ∧ k.min ≤ a ∧ a ≤ k.max := by
  cases h with
  | int _ k' a hu' h =>
    rw [hu] at hu'
    cases hu'
    exact ⟨a, rfl, by simpa [Lit.wf] using h⟩
  | slice _ _ _ _ _ hu' => rw [hu] at hu'; cases hu'
  | str _ _ hu' => rw [hu] at hu'; cases hu'
  | bool _ _ hu' => rw [hu] at hu'; cases hu'
  | float _ _ _ hu' => rw [hu] at hu'; cases hu'
  | struct _ _ _ hu' => rw [hu] at hu'; cases hu'
theorem TyD.str_inv {P : Program} {t : TypeId} {ds : List D} (hu : P.underlying t = some .string) (h : TyD P t ds) : ∃ s : ByteArray, ds = [.v (.string s)] ∧ s.size ≤ 140737488351232 := by
  cases h with
  | str _ s hu' h => exact ⟨s, rfl, h⟩
  | int _ _ _ hu' => rw [hu] at hu'; cases hu'
  | slice _ _ _ _ _ hu' => rw [hu] at hu'; cases hu'
  | bool _ _ hu' => rw [hu] at hu'; cases hu'
  | float _ _ _ hu' => rw [hu] at hu'; cases hu'
  | struct _ _ _ hu' => rw [hu] at hu'; cases hu'
theorem TyD.bool_inv {P : Program} {t : TypeId} {ds : List D} (hu : P.underlying t = some .bool) (h : TyD P t ds) : ∃ b, ds = [.v (.bool b)] := by
  cases h with
  | bool _ b hu' => exact ⟨b, rfl⟩
  | int _ _ _ hu' => rw [hu] at hu'; cases hu'
  | slice _ _ _ _ _ hu' => rw [hu] at hu'; cases hu'
  | str _ _ hu' => rw [hu] at hu'; cases hu'
  | float _ _ _ hu' => rw [hu] at hu'; cases hu'
  | struct _ _ _ hu' => rw [hu] at hu'; cases hu'
theorem TyD.float_inv {P : Program} {t : TypeId} {k : FloatKind} {ds : List D} (hu : P.underlying t = some (.float k)) (h : TyD P t ds) : ∃ b, ds = [.v (.float k b)] ∧ (Lit.float k b).wf = true := by
  cases h with
  | float _ k' b hu' h =>
    rw [hu] at hu'
    cases hu'
    exact ⟨b, rfl, h⟩
  | int _ _ _ hu' => rw [hu] at hu'; cases hu'
  | slice _ _ _ _ _ hu' => rw [hu] at hu'; cases hu'
  | str _ _ hu' => rw [hu] at hu'; cases hu'
  | bool _ _ hu' => rw [hu] at hu'; cases hu'
  | struct _ _ _ hu' => rw [hu] at hu'; cases hu'
theorem range_i64 {a : Int} (h : IntKind.i64.min ≤ a ∧ a ≤ IntKind.i64.max) : -9223372036854775808 ≤ a ∧ a ≤ 9223372036854775807 := by
  have e1 : IntKind.i64.min = -9223372036854775808 := by decide
  have e2 : IntKind.i64.max = 9223372036854775807 := by decide
  rwa [e1, e2] at h
theorem range_u8 {a : Int} (h : IntKind.u8.min ≤ a ∧ a ≤ IntKind.u8.max) : ∃ m : Nat, a = m ∧ m < 256 := by
  have e1 : IntKind.u8.min = 0 := by decide
  have e2 : IntKind.u8.max = 255 := by decide
  rw [e1, e2] at h
  exact ⟨a.toNat, by omega, by omega⟩
section
variable {P : Program} {H : Type} {enc : TypeId × Value → H} {w : World} {base : Nat} {spare : Nat → Bool} {held : Bool} {r : Reach} {b0 : Nat} {t : TypeId} {v : Value} {d : DataW H} {p : List MemPlace} {S : List TypeId}
theorem arg_cells (hS : tyOk P S = true) (ht : t ∈ S) (h : DataW.Trod enc P w base spare held t v d p) (hf : Fits P t d) : ∃ ds, TyD P t ds ∧ Dts w ds v.cells.toList :=
  let ⟨fuel, h⟩ := h
  open_ty hS fuel t _ _ ht h hf
theorem arg_struct {fs : Array Field} (hS : tyOk P S = true) (ht : t ∈ S) (hu : P.underlying t = some (.struct fs)) (hv : Value.okWide P w r b0 t v) (h : DataW.Trod enc P w base spare held t v d p) (hf : Fits P t d) :
    ∃ ds us, v = .agg us ∧ TyD P t ds ∧ Dts w ds us.toList := by
  obtain ⟨cs, rfl, _⟩ := okWide_struct hu hv
  obtain ⟨ds, h1, h2⟩ := arg_cells hS ht h hf
  exact ⟨ds, cs, rfl, h1, by simpa only [Value.cells] using h2⟩
end
theorem ra_agg {w : World} {ds : List D} {us : Array Value} (h : Dts w ds us.toList) : RA (fun _ => False) (fun _ => .no) w (.agg (ds.map .d)) (.agg us) := by
  simp only [RA]
  exact ⟨us, rfl, h.ras⟩
/-- A call that starts in some world. -/
theorem C.start (w : World) : C w ⟨w, fun _ => False, fun _ => .no, 0⟩ (fun _ => False) (fun _ => .no) ⟨0, [], []⟩ nobody w where
  base := Fr.refl _ _
  fr := Fr.refl _ _
  eLt := fun k h => h.elim
  mLow := fun k h => h.elim
  mUp := fun _ h => h
  mNew := fun _ h => h.elim
  mLt := fun k h => h.elim
  mNo := fun _ _ => rfl
  mIn := fun b k hb => by cases hb
  inj := fun b b' k hb => by cases hb
  oldv := fun b cs hb => absurd hb (Nat.not_lt_zero _)
  oldr := fun b k hb => absurd hb (Nat.not_lt_zero _)
  new := fun b k _ hb => by cases hb
  len := Nat.le_refl _
  box := fun b x hb => by simp at hb
  env := fun t x hx => by simp [lk_nil] at hx
  wide := rfl
  defers := rfl
/-- A pure contract that answers a plain value, of a call that starts in some world. -/
theorem APure.calls {P : Program} {w : World} {f : FuncId} {args : List AV} {us : Array Value} {v : Value} (h : APure P w f args (· = .ret (.d (.v v)))) (ha : RAs (fun _ => False) (fun _ => .no) w args us.toList) : Calls P f us w fun e w' => e = .returned v ∧ Below w.heap.size w w' := by
  refine (h _ _ w us (C.start w) ha).mono ?_
  rintro e w' ⟨r, L', M', m', ⟨rfl, rfl⟩, hres, hc⟩
  cases e with
  | returned u => exact ⟨by rw [(RA.v_inv (M := M') (m := m') (w := w') hres).1], hc.base.toBelow fun _ _ h => h⟩
  | panicked c => exact hres.elim
  | outgrown => exact hres.elim
end Go.Proofs.YtbgfiflnfndckaaDoor.Lift
end
section
/- The lift: values and pairs that a row is handed. No conditions. -/
set_option linter.unusedVariables false
set_option linter.unusedSimpArgs false
set_option maxHeartbeats 4000000
set_option maxRecDepth 100000
namespace Go.Proofs.YtbgfiflnfndckaaDoor.Lift
open Go Go.RowKit

/-- What a value's types and memory allow. -/
inductive okV : V → Prop
  | mk (k : Nat) (s : ByteArray) (b : Bool) (n : Int) (f : Nat) (l : List V) (m : List (ByteArray × V)) (hk : k < 256) (hs : s.size ≤ 140737488351232) (hn : -9223372036854775808 ≤ n ∧ n ≤ 9223372036854775807) (hf : f < 2 ^ 64) (hl : l.length * 96 ≤ 140737488351232) (hm : m.length * 112 ≤ 140737488351232)
      (hL : ∀ x ∈ l, okV x) (hM : ∀ p ∈ m, p.1.size ≤ 140737488351232) (hM' : ∀ p ∈ m, okV p.2) : okV (.mk k s b n f l m)
def okP (m : List (ByteArray × V)) : Prop := m.length * 112 ≤ 140737488351232 ∧ ∀ p ∈ m, p.1.size ≤ 140737488351232 ∧ okV p.2
theorem rows_of {α : Type} {p : List D → α → Prop} : ∀ {l : List (List D)}, (∀ row ∈ l, ∃ x, p row x) → ∃ xs : List α, xs.length = l.length ∧ ∀ (i : Nat) (row : List D) (x : α), l[i]? = some row → xs[i]? = some x → p row x
  | [], _ => ⟨[], rfl, fun i row x h => by simp at h⟩
  | r :: l, h => by
    obtain ⟨x, hx⟩ := h r (List.mem_cons_self ..)
    obtain ⟨xs, h1, h2⟩ := rows_of fun row hr => h row (List.mem_cons_of_mem _ hr)
    refine ⟨x :: xs, by simp [h1], fun i row y hr hy => ?_⟩
    cases i with
    | zero =>
      cases hr
      cases hy
      exact hx
    | succ i => exact h2 i row y (by simpa using hr) (by simpa using hy)
theorem rows_map {α : Type} {f : α → List D} {q : α → Prop} {l : List (List D)} (h : ∀ row ∈ l, ∃ x, row = f x ∧ q x) : ∃ xs : List α, l = xs.map f ∧ ∀ x ∈ xs, q x := by
  obtain ⟨xs, h1, h2⟩ := rows_of h
  refine ⟨xs, List.ext_getElem? fun i => ?_, fun x hx => ?_⟩
  · rw [List.getElem?_map]
    by_cases hi : i < l.length
    · rw [List.getElem?_eq_getElem hi, List.getElem?_eq_getElem (by omega)]
      exact congrArg some (h2 i _ _ (List.getElem?_eq_getElem hi) (List.getElem?_eq_getElem (by omega))).1
    · rw [List.getElem?_eq_none (by omega), List.getElem?_eq_none (by omega)]
      rfl
  · obtain ⟨i, hi⟩ := List.getElem?_of_mem hx
    have : i < l.length := by rw [← h1]; exact (List.getElem?_eq_some_iff.1 hi).1
    exact (h2 i _ x (List.getElem?_eq_getElem this) hi).2

theorem cellsV : Tryd.prog.cellsOf 27 = 7 := by kernel_rfl
theorem cellsP : Tryd.prog.cellsOf 50 = 8 := by kernel_rfl
theorem bytesV : Tryd.prog.bytesOf 27 = 96 := by kernel_rfl
theorem bytesP : Tryd.prog.bytesOf 50 = 112 := by kernel_rfl

theorem ty_all {t : TypeId} {ds : List D} (h : TyD Tryd.prog t ds) :
    (t = 27 → ∃ x, ds = vD x ∧ okV x) ∧ (t = 50 → ∃ p, ds = pD p ∧ p.1.size ≤ 140737488351232 ∧ okV p.2) ∧
    (t = 24 → ∃ l : List V, ds = [.rows 7 96 (l.map vD)] ∧ l.length * 96 ≤ 140737488351232 ∧ ∀ x ∈ l, okV x) ∧ (t = 25 → ∃ m, ds = [.rows 8 112 (m.map pD)] ∧ okP m) := by
  have hu1 := Tryd.underlying27
  have hu2 := Tryd.underlying50
  have hu3 := Tryd.underlying24
  have hu4 := Tryd.underlying25
  induction h with
  | int t k a hu _ => exact ⟨(by rintro rfl; rw [hu1] at hu; cases hu), (by rintro rfl; rw [hu2] at hu; cases hu), (by rintro rfl; rw [hu3] at hu; cases hu), (by rintro rfl; rw [hu4] at hu; cases hu)⟩
  | str t s hu _ => exact ⟨(by rintro rfl; rw [hu1] at hu; cases hu), (by rintro rfl; rw [hu2] at hu; cases hu), (by rintro rfl; rw [hu3] at hu; cases hu), (by rintro rfl; rw [hu4] at hu; cases hu)⟩
  | bool t b hu => exact ⟨(by rintro rfl; rw [hu1] at hu; cases hu), (by rintro rfl; rw [hu2] at hu; cases hu), (by rintro rfl; rw [hu3] at hu; cases hu), (by rintro rfl; rw [hu4] at hu; cases hu)⟩
  | float t k b hu _ => exact ⟨(by rintro rfl; rw [hu1] at hu; cases hu), (by rintro rfl; rw [hu2] at hu; cases hu), (by rintro rfl; rw [hu3] at hu; cases hu), (by rintro rfl; rw [hu4] at hu; cases hu)⟩
  | slice t e sz bt l hu hs hb hl h ih =>
    refine ⟨(by rintro rfl; rw [hu1] at hu; cases hu), (by rintro rfl; rw [hu2] at hu; cases hu), ?_, ?_⟩
    · rintro rfl
      rw [hu3] at hu
      cases hu
      rw [cellsV] at hs
      rw [bytesV] at hb
      subst hs hb
      obtain ⟨xs, rfl, h2⟩ := rows_map (f := vD) (q := okV) fun row hr => (ih row hr).1 rfl
      exact ⟨xs, rfl, by simpa using hl, h2⟩
    · rintro rfl
      rw [hu4] at hu
      cases hu
      rw [cellsP] at hs
      rw [bytesP] at hb
      subst hs hb
      obtain ⟨xs, rfl, h2⟩ := rows_map (f := pD) (q := fun p => p.1.size ≤ 140737488351232 ∧ okV p.2) fun row hr => (ih row hr).2.1 rfl
      exact ⟨xs, rfl, by simpa using hl, h2⟩
  | struct t fs dss hu hl h ih =>
    refine ⟨?_, ?_, (by rintro rfl; rw [hu3] at hu; cases hu), (by rintro rfl; rw [hu4] at hu; cases hu)⟩
    · rintro rfl
      rw [hu1] at hu
      cases hu
      match dss, hl with
      | [d0, d1, d2, d3, d4, d5, d6], _ =>
      obtain ⟨a0, rfl, w0⟩ := (h 0 _ d0 rfl rfl).int_inv Tryd.underlying22
      obtain ⟨a1, rfl, w1⟩ := (h 1 _ d1 rfl rfl).str_inv Tryd.underlying9
      obtain ⟨a2, rfl⟩ := (h 2 _ d2 rfl rfl).bool_inv Tryd.underlying4
      obtain ⟨a3, rfl, w3⟩ := (h 3 _ d3 rfl rfl).int_inv Tryd.underlying2
      obtain ⟨a4, rfl, w4⟩ := (h 4 _ d4 rfl rfl).float_inv Tryd.underlying23
      obtain ⟨l, rfl, w5, w5'⟩ := (ih 5 _ d5 rfl rfl).2.2.1 rfl
      obtain ⟨m, rfl, w6, w6'⟩ := (ih 6 _ d6 rfl rfl).2.2.2 rfl
      obtain ⟨k, rfl, hk⟩ := range_u8 w0
      refine ⟨.mk k a1 a2 a3 a4 l m, ?_, .mk _ _ _ _ _ _ _ hk w1 (range_i64 w3) (by simpa [Lit.wf] using w4) w5 w6 w5' (fun p hp => (w6' p hp).1) (fun p hp => (w6' p hp).2)⟩
      simp only [vD, vDs_map, pDs_map, List.flatten_cons, List.flatten_nil, List.cons_append, List.nil_append]
    · rintro rfl
      rw [hu2] at hu
      cases hu
      match dss, hl with
      | [d0, d1], _ =>
      obtain ⟨a0, rfl, w0⟩ := (h 0 _ d0 rfl rfl).str_inv Tryd.underlying9
      obtain ⟨x, rfl, w1⟩ := (ih 1 _ d1 rfl rfl).1 rfl
      exact ⟨(a0, x), by simp only [pD, List.flatten_cons, List.flatten_nil, List.cons_append, List.nil_append, List.append_nil], w0, w1⟩
theorem ty_V {ds : List D} (h : TyD Tryd.prog 27 ds) : ∃ x, ds = vD x ∧ okV x := (ty_all h).1 rfl
end Go.Proofs.YtbgfiflnfndckaaDoor.Lift
end
section
/- The lift: whether a value is right: must, fine, bare, key. No conditions but that utf8's tables lie as they are laid. -/
set_option linter.unusedVariables false
set_option linter.unusedSimpArgs false
set_option maxHeartbeats 4000000
set_option maxRecDepth 100000
namespace Go.Proofs.YtbgfiflnfndckaaDoor.Lift
open Go Go.RowKit

def err (c : Int) : AV := .d (.v (.iface 38 (.int .i64 c)))
attribute [go_sem] err
def ends (c : Nat) : Res := if c = 0 then .ret (.tup []) else .panic (err c)
theorem ends0 : ends 0 = .ret (.tup []) := rfl
theorem ends1 {c : Nat} (h : c ≠ 0) : ends c = .panic (err c) := if_neg h
theorem must_ok {W0 : World} (c : Int) : APure Tryd.prog W0 56 [.d (.v (.bool true)), .d (.v (.int .i64 c))] (· = .ret (.tup [])) := by
  refine A_body Tryd.func56 rfl (Nat.le_of_ble_eq_true rfl) ?_
  simp only [go_sem, Tryd.ntmps56, Tryd.results56, mkEnv]
  repeat (first | refine wS ?_ | refine wB ?_ | (refine wR ?_; simp only [go_sem]) | (refine wT ?_ ?_; focus (simp only [go_sem]; done)) | (refine wF ?_ ?_; focus (simp only [go_sem]; done)) | (refine wK ?_; try simp only [go_sem]) | (refine wE ?_; try simp only [go_sem]) | refine wX ?_)
  exact wNq
theorem must_no {W0 : World} (c : Int) : APure Tryd.prog W0 56 [.d (.v (.bool false)), .d (.v (.int .i64 c))] (· = .panic (err c)) := by
  refine A_body Tryd.func56 rfl (Nat.le_of_ble_eq_true rfl) ?_
  simp only [go_sem, Tryd.ntmps56, Tryd.results56, mkEnv]
  repeat (first | refine wS ?_ | refine wB ?_ | (refine wR ?_; simp only [go_sem]) | (refine wT ?_ ?_; focus (simp only [go_sem]; done)) | (refine wF ?_ ?_; focus (simp only [go_sem]; done)) | (refine wK ?_; try simp only [go_sem]) | (refine wE ?_; try simp only [go_sem]) | refine wX ?_)
  refine wPanic ?_
  exact wPan ⟨rfl, rfl⟩
theorem fine_ok {W0 : World} : APure Tryd.prog W0 99 [.d (.v (.int .i64 0))] (· = .ret (.tup [])) := by
  refine A_body Tryd.func99 rfl (Nat.le_of_ble_eq_true rfl) ?_
  simp only [go_sem, Tryd.ntmps99, Tryd.results99, mkEnv]
  repeat (first | refine wS ?_ | refine wB ?_ | (refine wR ?_; simp only [go_sem]) | (refine wT ?_ ?_; focus (simp only [go_sem]; done)) | (refine wF ?_ ?_; focus (simp only [go_sem]; done)) | (refine wK ?_; try simp only [go_sem]) | (refine wE ?_; try simp only [go_sem]) | refine wX ?_)
  refine wC (must_ok 0) ?_
  simp only [go_sem]
  repeat (first | refine wS ?_ | refine wB ?_ | (refine wR ?_; simp only [go_sem]) | (refine wT ?_ ?_; focus (simp only [go_sem]; done)) | (refine wF ?_ ?_; focus (simp only [go_sem]; done)) | (refine wK ?_; try simp only [go_sem]) | (refine wE ?_; try simp only [go_sem]) | refine wX ?_)
  exact wNq
theorem fine_no {W0 : World} (c : Int) (hc : c ≠ 0) : APure Tryd.prog W0 99 [.d (.v (.int .i64 c))] (· = .panic (err c)) := by
  have h0 : (c == 0) = false := by simpa using hc
  refine A_body Tryd.func99 rfl (Nat.le_of_ble_eq_true rfl) ?_
  simp only [go_sem, Tryd.ntmps99, Tryd.results99, mkEnv, h0]
  repeat (first | refine wS ?_ | refine wB ?_ | (refine wR ?_; simp only [go_sem, h0]) | (refine wT ?_ ?_; focus (simp only [go_sem]; done)) | (refine wF ?_ ?_; focus (simp only [go_sem]; done)) | (refine wK ?_; try simp only [go_sem, h0]) | (refine wE ?_; try simp only [go_sem, h0]) | refine wX ?_)
  refine wP (must_no c) ?_
  try simp only [go_sem]
  exact wPan ⟨rfl, rfl⟩

/-- What a kind has. -/
def bareV : V → V
  | .mk k s b n f l m => .mk k (if k = 1 ∨ k = 7 then s else ByteArray.empty) (if k = 2 then b else false) (if k = 3 then n else 0) (if k = 4 then f else 0) (if k = 5 then l else []) (if k = 6 then m else [])
theorem kEq (k x : Nat) : ((k : Int) == (x : Int)) = decide (k = x) := by
  by_cases h : k = x
  · subst h; simp
  · rw [decide_eq_false h, beq_eq_false_iff_ne]
    omega
theorem Le_va {k : Nat} {s : ByteArray} {b : Bool} {n : Int} {f : Nat} {x5 x6 : AV} {l : List V} {m : List (ByteArray × V)} (h5 : Le x5 (rV l)) (h6 : Le x6 (rP m)) : Le (.agg [.d (.v (.int .u8 k)), .d (.v (.string s)), .d (.v (.bool b)), .d (.v (.int .i64 n)), .d (.v (.float .f64 f)), x5, x6]) (va (.mk k s b n f l m)) := by
  simp only [va, vD, vDs_map, pDs_map, List.map_cons, List.map_nil]
  exact Le.agg (.cons (Le.refl _) (.cons (Le.refl _) (.cons (Le.refl _) (.cons (Le.refl _) (.cons (Le.refl _) (.cons h5 (.cons h6 .nil)))))))
theorem Le_e5 : Le (.d .e) (rV []) := Le.nil (by decide)
theorem Le_e6 : Le (.d .e) (rP []) := Le.nil (by decide)
theorem bare_c {W0 : World} (x : V) : APure Tryd.prog W0 79 [va x] (· = .ret (va (bareV x))) := by
  obtain ⟨k, s, b, n, f, l, m⟩ := x
  by_cases h1 : k = 1
  · subst h1
    refine A_body Tryd.func79 rfl (Nat.le_of_ble_eq_true rfl) ?_
    simp only [go_sem, Tryd.ntmps79, Tryd.results79, mkEnv, va, vD, vDs_map, pDs_map]
    repeat (first | refine wS ?_ | refine wB ?_ | (refine wR ?_; simp only [go_sem, va, vD, vDs_map, pDs_map]) | (refine wT ?_ ?_; focus (simp only [go_sem]; done)) | (refine wF ?_ ?_; focus (simp only [go_sem]; done)) | (refine wK ?_; try simp only [go_sem, va, vD, vDs_map, pDs_map]) | (refine wE ?_; try simp only [go_sem, va, vD, vDs_map, pDs_map]) | refine wX ?_)
    exact wRet ⟨rfl, rfl⟩ (hle := Le_va Le_e5 Le_e6)
  by_cases h7 : k = 7
  · subst h7
    refine A_body Tryd.func79 rfl (Nat.le_of_ble_eq_true rfl) ?_
    simp only [go_sem, Tryd.ntmps79, Tryd.results79, mkEnv, va, vD, vDs_map, pDs_map]
    repeat (first | refine wS ?_ | refine wB ?_ | (refine wR ?_; simp only [go_sem, va, vD, vDs_map, pDs_map]) | (refine wT ?_ ?_; focus (simp only [go_sem]; done)) | (refine wF ?_ ?_; focus (simp only [go_sem]; done)) | (refine wK ?_; try simp only [go_sem, va, vD, vDs_map, pDs_map]) | (refine wE ?_; try simp only [go_sem, va, vD, vDs_map, pDs_map]) | refine wX ?_)
    exact wRet ⟨rfl, rfl⟩ (hle := Le_va Le_e5 Le_e6)
  by_cases h2 : k = 2
  · subst h2
    refine A_body Tryd.func79 rfl (Nat.le_of_ble_eq_true rfl) ?_
    simp only [go_sem, Tryd.ntmps79, Tryd.results79, mkEnv, va, vD, vDs_map, pDs_map]
    repeat (first | refine wS ?_ | refine wB ?_ | (refine wR ?_; simp only [go_sem, va, vD, vDs_map, pDs_map]) | (refine wT ?_ ?_; focus (simp only [go_sem]; done)) | (refine wF ?_ ?_; focus (simp only [go_sem]; done)) | (refine wK ?_; try simp only [go_sem, va, vD, vDs_map, pDs_map]) | (refine wE ?_; try simp only [go_sem, va, vD, vDs_map, pDs_map]) | refine wX ?_)
    exact wRet ⟨rfl, rfl⟩ (hle := Le_va Le_e5 Le_e6)
  by_cases h3 : k = 3
  · subst h3
    refine A_body Tryd.func79 rfl (Nat.le_of_ble_eq_true rfl) ?_
    simp only [go_sem, Tryd.ntmps79, Tryd.results79, mkEnv, va, vD, vDs_map, pDs_map]
    repeat (first | refine wS ?_ | refine wB ?_ | (refine wR ?_; simp only [go_sem, va, vD, vDs_map, pDs_map]) | (refine wT ?_ ?_; focus (simp only [go_sem]; done)) | (refine wF ?_ ?_; focus (simp only [go_sem]; done)) | (refine wK ?_; try simp only [go_sem, va, vD, vDs_map, pDs_map]) | (refine wE ?_; try simp only [go_sem, va, vD, vDs_map, pDs_map]) | refine wX ?_)
    exact wRet ⟨rfl, rfl⟩ (hle := Le_va Le_e5 Le_e6)
  by_cases h4 : k = 4
  · subst h4
    refine A_body Tryd.func79 rfl (Nat.le_of_ble_eq_true rfl) ?_
    simp only [go_sem, Tryd.ntmps79, Tryd.results79, mkEnv, va, vD, vDs_map, pDs_map]
    repeat (first | refine wS ?_ | refine wB ?_ | (refine wR ?_; simp only [go_sem, va, vD, vDs_map, pDs_map]) | (refine wT ?_ ?_; focus (simp only [go_sem]; done)) | (refine wF ?_ ?_; focus (simp only [go_sem]; done)) | (refine wK ?_; try simp only [go_sem, va, vD, vDs_map, pDs_map]) | (refine wE ?_; try simp only [go_sem, va, vD, vDs_map, pDs_map]) | refine wX ?_)
    exact wRet ⟨rfl, rfl⟩ (hle := Le_va Le_e5 Le_e6)
  by_cases h5 : k = 5
  · subst h5
    refine A_body Tryd.func79 rfl (Nat.le_of_ble_eq_true rfl) ?_
    simp only [go_sem, Tryd.ntmps79, Tryd.results79, mkEnv, va, vD, vDs_map, pDs_map]
    repeat (first | refine wS ?_ | refine wB ?_ | (refine wR ?_; simp only [go_sem, va, vD, vDs_map, pDs_map]) | (refine wT ?_ ?_; focus (simp only [go_sem]; done)) | (refine wF ?_ ?_; focus (simp only [go_sem]; done)) | (refine wK ?_; try simp only [go_sem, va, vD, vDs_map, pDs_map]) | (refine wE ?_; try simp only [go_sem, va, vD, vDs_map, pDs_map]) | refine wX ?_)
    exact wRet ⟨rfl, rfl⟩ (hle := Le_va (Le.refl _) Le_e6)
  by_cases h6 : k = 6
  · subst h6
    refine A_body Tryd.func79 rfl (Nat.le_of_ble_eq_true rfl) ?_
    simp only [go_sem, Tryd.ntmps79, Tryd.results79, mkEnv, va, vD, vDs_map, pDs_map]
    repeat (first | refine wS ?_ | refine wB ?_ | (refine wR ?_; simp only [go_sem, va, vD, vDs_map, pDs_map]) | (refine wT ?_ ?_; focus (simp only [go_sem]; done)) | (refine wF ?_ ?_; focus (simp only [go_sem]; done)) | (refine wK ?_; try simp only [go_sem, va, vD, vDs_map, pDs_map]) | (refine wE ?_; try simp only [go_sem, va, vD, vDs_map, pDs_map]) | refine wX ?_)
    exact wRet ⟨rfl, rfl⟩ (hle := Le_va Le_e5 (Le.refl _))
  have e1 := kEq k 1
  have e2 := kEq k 2
  have e3 := kEq k 3
  have e4 := kEq k 4
  have e5 := kEq k 5
  have e6 := kEq k 6
  have e7 := kEq k 7
  simp only [show ((1 : Nat) : Int) = 1 from rfl, show ((2 : Nat) : Int) = 2 from rfl, show ((3 : Nat) : Int) = 3 from rfl, show ((4 : Nat) : Int) = 4 from rfl, show ((5 : Nat) : Int) = 5 from rfl, show ((6 : Nat) : Int) = 6 from rfl, show ((7 : Nat) : Int) = 7 from rfl, h1, h2, h3, h4, h5, h6, h7, decide_false] at e1 e2 e3 e4 e5 e6 e7
  refine A_body Tryd.func79 rfl (Nat.le_of_ble_eq_true rfl) ?_
  simp only [go_sem, Tryd.ntmps79, Tryd.results79, mkEnv, va, vD, vDs_map, pDs_map, e1, e2, e3, e4, e5, e6, e7]
  repeat (first | refine wS ?_ | refine wB ?_ | (refine wR ?_; simp only [go_sem, va, vD, vDs_map, pDs_map, e1, e2, e3, e4, e5, e6, e7]) | (refine wT ?_ ?_; focus (simp only [go_sem]; done)) | (refine wF ?_ ?_; focus (simp only [go_sem]; done)) | (refine wK ?_; try simp only [go_sem, va, vD, vDs_map, pDs_map, e1, e2, e3, e4, e5, e6, e7]) | (refine wE ?_; try simp only [go_sem, va, vD, vDs_map, pDs_map, e1, e2, e3, e4, e5, e6, e7]) | refine wX ?_)
  refine wRet ⟨rfl, rfl⟩ (hle := ?_)
  simp only [bareV, h1, h2, h3, h4, h5, h6, h7, or_self, if_false]
  exact Le_va Le_e5 Le_e6
/-- utf8. -/
def Tabs (w : World) : Prop := Lib.Utf8Tabs (Tryd.lays196_ren.g 3) (Tryd.lays196_ren.g 4) w
theorem Tabs.below {w w' : World} (h : Tabs w) (hb : Below w.heap.size w w') : Tabs w' := Utf8Tabs_below h hb
theorem valid_c {W0 : World} (hT : Tabs W0) (s : ByteArray) (hs : s.size ≤ 140737488355328) : APure Tryd.prog W0 80 [.d (.v (.string s))] (· = .ret (.d (.v (.bool (Lib.validD s.data.toList))))) := by
  refine pure_old rfl fun M m w us hf ha => ?_
  rw [us1 ha]
  exact Tryd.utf8_ValidString s w (by omega) (hT.below (hf.toBelow fun _ _ h => h))
def keyE (s : ByteArray) : Nat := if 4096 < s.size then 4 else if Lib.validD s.data.toList = true then 0 else 12
theorem key_c {W0 : World} (hT : Tabs W0) (s : ByteArray) (hs : s.size ≤ 140737488355328) : APure Tryd.prog W0 86 [.d (.v (.string s))] (· = ends (keyE s)) := by
  have hv := valid_c hT s hs
  unfold keyE
  by_cases h : 4096 < s.size
  · have h1 : ((s.size : Int) ≤ 4096) = False := eq_false (by omega)
    rw [if_pos h]
    refine A_body Tryd.func86 rfl (Nat.le_of_ble_eq_true rfl) ?_
    simp only [go_sem, Tryd.ntmps86, Tryd.results86, mkEnv, h1]
    repeat (first | refine wS ?_ | refine wB ?_ | (refine wR ?_; simp only [go_sem, h1]) | (refine wT ?_ ?_; focus (simp only [go_sem]; done)) | (refine wF ?_ ?_; focus (simp only [go_sem]; done)) | (refine wK ?_; try simp only [go_sem, h1]) | (refine wE ?_; try simp only [go_sem, h1]) | refine wX ?_)
    refine wP (must_no 4) ?_
    try simp only [go_sem]
    exact wPan ⟨rfl, rfl⟩
  have h1 : ((s.size : Int) ≤ 4096) = True := eq_true (by omega)
  rw [if_neg h]
  cases hb : Lib.validD s.data.toList with
  | false =>
    rw [hb] at hv
    refine A_body Tryd.func86 rfl (Nat.le_of_ble_eq_true rfl) ?_
    simp only [go_sem, Tryd.ntmps86, Tryd.results86, mkEnv, h1]
    repeat (first | refine wS ?_ | refine wB ?_ | (refine wR ?_; simp only [go_sem, h1]) | (refine wT ?_ ?_; focus (simp only [go_sem]; done)) | (refine wF ?_ ?_; focus (simp only [go_sem]; done)) | (refine wK ?_; try simp only [go_sem, h1]) | (refine wE ?_; try simp only [go_sem, h1]) | refine wX ?_)
    refine wC (must_ok 4) ?_
    simp only [go_sem]
    repeat (first | refine wS ?_ | refine wB ?_ | (refine wR ?_; simp only [go_sem]) | (refine wT ?_ ?_; focus (simp only [go_sem]; done)) | (refine wF ?_ ?_; focus (simp only [go_sem]; done)) | (refine wK ?_; try simp only [go_sem]) | (refine wE ?_; try simp only [go_sem]) | refine wX ?_)
    refine wC (hv) ?_
    simp only [go_sem]
    repeat (first | refine wS ?_ | refine wB ?_ | (refine wR ?_; simp only [go_sem]) | (refine wT ?_ ?_; focus (simp only [go_sem]; done)) | (refine wF ?_ ?_; focus (simp only [go_sem]; done)) | (refine wK ?_; try simp only [go_sem]) | (refine wE ?_; try simp only [go_sem]) | refine wX ?_)
    refine wP (must_no 12) ?_
    try simp only [go_sem]
    exact wPan ⟨rfl, rfl⟩
  | true =>
    rw [hb] at hv
    refine A_body Tryd.func86 rfl (Nat.le_of_ble_eq_true rfl) ?_
    simp only [go_sem, Tryd.ntmps86, Tryd.results86, mkEnv, h1]
    repeat (first | refine wS ?_ | refine wB ?_ | (refine wR ?_; simp only [go_sem, h1]) | (refine wT ?_ ?_; focus (simp only [go_sem]; done)) | (refine wF ?_ ?_; focus (simp only [go_sem]; done)) | (refine wK ?_; try simp only [go_sem, h1]) | (refine wE ?_; try simp only [go_sem, h1]) | refine wX ?_)
    refine wC (must_ok 4) ?_
    simp only [go_sem]
    repeat (first | refine wS ?_ | refine wB ?_ | (refine wR ?_; simp only [go_sem]) | (refine wT ?_ ?_; focus (simp only [go_sem]; done)) | (refine wF ?_ ?_; focus (simp only [go_sem]; done)) | (refine wK ?_; try simp only [go_sem]) | (refine wE ?_; try simp only [go_sem]) | refine wX ?_)
    refine wC (hv) ?_
    simp only [go_sem]
    repeat (first | refine wS ?_ | refine wB ?_ | (refine wR ?_; simp only [go_sem]) | (refine wT ?_ ?_; focus (simp only [go_sem]; done)) | (refine wF ?_ ?_; focus (simp only [go_sem]; done)) | (refine wK ?_; try simp only [go_sem]) | (refine wE ?_; try simp only [go_sem]) | refine wX ?_)
    refine wC (must_ok 12) ?_
    simp only [go_sem]
    repeat (first | refine wS ?_ | refine wB ?_ | (refine wR ?_; simp only [go_sem]) | (refine wT ?_ ?_; focus (simp only [go_sem]; done)) | (refine wF ?_ ?_; focus (simp only [go_sem]; done)) | (refine wK ?_; try simp only [go_sem]) | (refine wE ?_; try simp only [go_sem]) | refine wX ?_)
    exact wNq
end Go.Proofs.YtbgfiflnfndckaaDoor.Lift
end
section
/- The lift: whether a value is right: check, checkPairs, Check, CheckPairs. No conditions but that utf8's tables lie as they are laid. -/
set_option linter.unusedVariables false
set_option linter.unusedSimpArgs false
set_option maxHeartbeats 4000000
set_option maxRecDepth 100000
namespace Go.Proofs.YtbgfiflnfndckaaDoor.Lift
open Go Go.RowKit

/-- The first that is not 0. -/
def fst0 : List Nat → Nat
  | [] => 0
  | c :: l => if c = 0 then fst0 l else c
theorem fst0_app (l l' : List Nat) : fst0 (l ++ l') = if fst0 l = 0 then fst0 l' else fst0 l := by
  induction l with
  | nil => simp [fst0]
  | cons c l ih =>
    simp only [List.cons_append, fst0, ih]
    by_cases h : c = 0 <;> simp [h]
theorem fst0_take {l : List Nat} {i c : Nat} (h : l[i]? = some c) (h0 : fst0 (l.take i) = 0) : (c = 0 → fst0 (l.take (i + 1)) = 0) ∧ (c ≠ 0 → fst0 l = c) := by
  have e : l.take (i + 1) = l.take i ++ [c] := by
    rw [List.take_add_one, h]
    rfl
  refine ⟨fun hc => by rw [e, fst0_app, if_pos h0]; simp [fst0, hc], fun hc => ?_⟩
  have : l = l.take (i + 1) ++ l.drop (i + 1) := (List.take_append_drop _ _).symm
  rw [this, e, fst0_app, fst0_app, if_pos h0]
  simp [fst0, hc]
def twice : List ByteArray → Bool
  | [] => false
  | k :: l => l.any (· == k) || twice l
theorem twice_snoc (l : List ByteArray) (k : ByteArray) : twice (l ++ [k]) = (twice l || l.any (· == k)) := by
  induction l with
  | nil => simp [twice]
  | cons x l ih =>
    simp only [List.cons_append, twice, ih, List.any_append, List.any_cons, List.any_nil, Bool.or_false]
    have : (k == x) = (x == k) := by simp [bytes_beq, eq_comm]
    rw [this]
    cases l.any (· == x) <;> cases (x == k) <;> cases twice l <;> cases l.any (· == k) <;> rfl
def okK (k : Nat) (x : V) : Bool := decide (k < 8) && flat x (bareV x)
mutual
def chk : V → Nat → Nat
  | .mk k s b n f l m, d => if okK k (.mk k s b n f l m) = false then 5 else if 4096 < s.size then 4 else if k = 1 ∧ Lib.validD s.data.toList = false then 12 else if 256 < l.length ∨ 256 < m.length then 3 else
      if (k = 5 ∨ k = 6) ∧ 8 ≤ d then 11 else if chkL l (d + 1) ≠ 0 then chkL l (d + 1) else if chkP m (d + 1) ≠ 0 then chkP m (d + 1) else if twice (m.map (·.1)) = true then 6 else 0
def chkL : List V → Nat → Nat
  | [], _ => 0
  | x :: l, d => if chk x d = 0 then chkL l d else chk x d
def chkP : List (ByteArray × V) → Nat → Nat
  | [], _ => 0
  | (k, x) :: m, d => if keyE k = 0 then (if chk x d = 0 then chkP m d else chk x d) else keyE k
end
theorem chkL_fst (d : Nat) : ∀ l : List V, chkL l d = fst0 (l.map (fun x => chk x d))
  | [] => by simp only [chkL, List.map_nil, fst0]
  | x :: l => by simp only [chkL, List.map_cons, fst0, chkL_fst d l]
def chk1 (d : Nat) (p : ByteArray × V) : Nat := if keyE p.1 = 0 then chk p.2 d else keyE p.1
theorem chkP_fst (d : Nat) : ∀ m : List (ByteArray × V), chkP m d = fst0 (m.map (chk1 d))
  | [] => by simp only [chkP, List.map_nil, fst0]
  | (k, x) :: m => by
    simp only [chkP, List.map_cons, fst0, chkP_fst d m, chk1]
    by_cases h : keyE k = 0 <;> simp [h]
def chkPs (m : List (ByteArray × V)) (d : Nat) : Nat := if chkP m d ≠ 0 then chkP m d else if twice (m.map (·.1)) = true then 6 else 0

/-- What has been seen, how often. -/
def cN (es : List (Value × Value)) (k : ByteArray) : Int := match mget es (.string k) with | some (.int _ n) => n | _ => 0
def cStep (es : List (Value × Value)) (k : ByteArray) : List (Value × Value) := mset es (.string k) (.int .i64 (cN es k + 1))
def cnt (ks : List ByteArray) : List (Value × Value) := ks.foldl cStep []
theorem cnt_snoc (ks : List ByteArray) (k : ByteArray) : cnt (ks ++ [k]) = cStep (cnt ks) k := by simp [cnt]
theorem mget_set {es : List (Value × Value)} {k u : Value} (hk : plK k = true) (s : Value) (hs : plK s = true) : mget (mset es k u) s = if keq s k = true then some u else mget es s := by
  induction es with
  | nil => rfl
  | cons p es ih =>
    obtain ⟨x, v⟩ := p
    simp only [mset]
    by_cases hx : keq k x = true
    · have := (keq_iff hk).1 hx
      subst this
      rw [if_pos hx]
      simp only [mget]
      by_cases h : keq s k = true
      · simp only [h, if_true]
      · simp only [h, if_false, Bool.false_eq_true]
    · rw [if_neg hx]
      simp only [mget, ih]
      by_cases h : keq s k = true
      · have := (keq_iff hs).1 h
        subst this
        simp only [h, if_true, hx, if_false, Bool.false_eq_true]
      · simp only [h, if_false, Bool.false_eq_true]
theorem snoc_ind {α : Type} {p : List α → Prop} (h0 : p []) (h1 : ∀ l x, p l → p (l ++ [x])) : ∀ l, p l := by
  have : ∀ r : List α, p r.reverse := fun r => by
    induction r with
    | nil => exact h0
    | cons x r ih => rw [List.reverse_cons]; exact h1 _ _ ih
  intro l
  have := this l.reverse
  rwa [List.reverse_reverse] at this
theorem cnt_get (ks : List ByteArray) (s : ByteArray) : mget (cnt ks) (.string s) = if ks.countP (· == s) = 0 then none else some (.int .i64 (ks.countP (· == s) : Nat)) := by
  revert s
  refine snoc_ind (p := fun ks => ∀ s, mget (cnt ks) (.string s) = if ks.countP (· == s) = 0 then none else some (.int .i64 (ks.countP (· == s) : Nat))) (fun s => rfl) (fun ks k ih s => ?_) ks
  rw [cnt_snoc, cStep, mget_set rfl _ rfl, List.countP_append]
  have hc : cN (cnt ks) k = (ks.countP (· == k) : Nat) := by
    unfold cN
    rw [ih k]
    by_cases h : ks.countP (· == k) = 0
    · rw [if_pos h, h]; rfl
    · rw [if_neg h]
  by_cases h : s = k
  · subst h
    have e : keq (.string s) (.string s) = true := (keq_iff rfl).2 rfl
    have : ([s].countP (· == s)) = 1 := by simp [bytes_beq]
    rw [if_pos e, hc, this, if_neg (by omega)]
    rfl
  · have e : keq (.string s) (.string k) ≠ true := fun e => h (by have := (keq_iff (a := .string s) rfl).1 e; cases this; rfl)
    have : ([k].countP (· == s)) = 0 := by
      rw [List.countP_cons, List.countP_nil, if_neg (by simp [bytes_beq]; exact fun e => h e.symm)]
    rw [if_neg e, ih s, this, Nat.add_zero]
theorem mset_keys {es : List (Value × Value)} {k u : Value} : ∀ p ∈ mset es k u, p.1 = k ∨ ∃ q ∈ es, q.1 = p.1 := by
  induction es with
  | nil =>
    intro p hp
    simp only [mset, List.mem_singleton] at hp
    exact .inl (by rw [hp])
  | cons q es ih =>
    obtain ⟨x, v⟩ := q
    intro p hp
    simp only [mset] at hp
    split at hp
    · rcases List.mem_cons.1 hp with rfl | hp
      · exact .inl rfl
      · exact .inr ⟨p, List.mem_cons_of_mem _ hp, rfl⟩
    · rcases List.mem_cons.1 hp with rfl | hp
      · exact .inr ⟨(x, v), List.mem_cons_self .., rfl⟩
      · rcases ih p hp with h | ⟨q, hq, h⟩
        · exact .inl h
        · exact .inr ⟨q, List.mem_cons_of_mem _ hq, h⟩
theorem cnt_keys (ks : List ByteArray) : ∀ p ∈ cnt ks, ∃ k ∈ ks, p.1 = .string k := by
  refine snoc_ind (p := fun ks => ∀ p ∈ cnt ks, ∃ k ∈ ks, p.1 = .string k) (fun p hp => by simp [cnt] at hp) (fun ks k ih p hp => ?_) ks
  rw [cnt_snoc, cStep] at hp
  rcases mset_keys p hp with h | ⟨q, hq, h⟩
  · exact ⟨k, by simp, h⟩
  · obtain ⟨k', hk, h2⟩ := ih q hq
    exact ⟨k', by simp [hk], h ▸ h2⟩
theorem cnt_ok {ks : List ByteArray} (h : ∀ k ∈ ks, k.size ≤ 140737488355328) : (cnt ks).all (fun p => keyB Tryd.prog 101 p.1) = true := by
  rw [List.all_eq_true]
  intro p hp
  obtain ⟨k, hk, e⟩ := cnt_keys ks p hp
  rw [e]
  exact keyB_str (kt := 9) (et := 3) (by kernel_rfl) (by kernel_rfl) (h k hk)
theorem any_count (ks : List ByteArray) (s : ByteArray) : ks.any (· == s) = decide (0 < ks.countP (· == s)) := by
  rw [Bool.eq_iff_iff, List.any_eq_true, decide_eq_true_eq, List.countP_pos_iff]
end Go.Proofs.YtbgfiflnfndckaaDoor.Lift
end
section
/- The lift: the walks of check, checkPairs, Check, CheckPairs. No conditions but that utf8's tables lie as they are laid, and what memory holds. -/
set_option linter.unusedVariables false
set_option linter.unusedSimpArgs false
set_option maxHeartbeats 4000000
set_option maxRecDepth 100000
namespace Go.Proofs.YtbgfiflnfndckaaDoor.Lift
open Go Go.RowKit

theorem checkPairs_of {W0 : World} (hT : Tabs W0) (m : List (ByteArray × V)) (d : Nat) (hm : okP m) (hp : ∀ p ∈ m, APure Tryd.prog W0 48 [va p.2, .d (.v (.int .i64 d))] (· = ends (chk p.2 d))) :
    APure Tryd.prog W0 57 [rP m, .d (.v (.int .i64 d))] (· = ends (chkPs m d)) := by
  have hm1 := hm.1
  refine A_body Tryd.func57 rfl (Nat.le_of_ble_eq_true rfl) ?_
  simp only [go_sem, Tryd.ntmps57, Tryd.results57, mkEnv, rP]
  repeat (first | refine wS ?_ | refine wB ?_ | (refine wR ?_; simp only [go_sem, rP]) | (refine wT ?_ ?_; focus (simp only [go_sem]; done)) | (refine wF ?_ ?_; focus (simp only [go_sem]; done)) | (refine wK ?_; try simp only [go_sem, rP]) | (refine wE ?_; try simp only [go_sem, rP]) | refine wX ?_)
  refine wL (fun i => ⟨39, ofL [(1, .d (.v (.int .i64 d))), (4, .mref 0), (5, .d (.v (.bool (twice ((m.take i).map (·.1)))))), (9, rP m), (10, .d (.v (.int .i64 m.length))), (11, .d (.v (.int .i64 i)))], [.mp (cnt ((m.take i).map (·.1)))]⟩) (m.length) (fun i => chkP (m.take i) d = 0) wSb (rfl) ?_
  intro i hi hinv R hR
  simp only [go_sem]
  repeat (first | refine wS ?_ | refine wB ?_ | (refine wR ?_; simp only [go_sem]) | (refine wT ?_ ?_; focus (simp only [go_sem]; done)) | (refine wF ?_ ?_; focus (simp only [go_sem]; done)) | (refine wK ?_; try simp only [go_sem]) | (refine wE ?_; try simp only [go_sem]) | refine wX ?_)
  refine wI (fun h => ?_) (fun h => ?_)
  · have hlt : i < m.length := by simpa using h
    have hlt2 : ((i : Int) < ((m.length : Nat) : Int)) = True := eq_true (by omega)
    have hw := wrap_succ (i := i) (by omega)
    have hx : (m.map pD)[i]? = some (pD m[i]) := by rw [List.getElem?_map, List.getElem?_eq_getElem hlt]; rfl
    have hin : m[i] ∈ m := List.getElem_mem hlt
    have hks := (hm.2 _ hin).1
    have hkey := key_c hT m[i].1 (by omega)
    have hchk := hp _ hin
    have hval : (m.map (chk1 d))[i]? = some (chk1 d m[i]) := by rw [List.getElem?_map, List.getElem?_eq_getElem hlt]; rfl
    rw [chkP_fst, List.map_take] at hinv
    obtain ⟨hz, hnz⟩ := fst0_take hval hinv
    rw [← List.map_take, ← chkP_fst] at hz
    rw [← chkP_fst] at hnz
    have hks2 : (m.take (i + 1)).map (·.1) = (m.take i).map (·.1) ++ [m[i].1] := by
      rw [List.take_add_one, List.getElem?_eq_getElem hlt, List.map_append]
      rfl
    obtain ⟨ks, hksd⟩ : ∃ ks, ks = (m.take i).map (·.1) := ⟨_, rfl⟩
    have hkall : ∀ k ∈ ks, k.size ≤ 140737488355328 := by
      intro k hk
      rw [hksd] at hk
      obtain ⟨p, hp', rfl⟩ := List.mem_map.1 hk
      have := (hm.2 p (List.mem_of_mem_take hp')).1
      omega
    rw [← hksd] at hks2 ⊢
    have hall := cnt_ok hkall
    have hall2 := cnt_ok (ks := ks ++ [m[i].1]) (by
      intro k hk
      rcases List.mem_append.1 hk with hk | hk
      · exact hkall k hk
      · rw [List.mem_singleton] at hk
        subst hk
        omega)
    have hky := ky_101 (s := m[i].1) (by omega)
    have hlen : ks.length ≤ m.length := by rw [hksd]; simp; omega
    have htw := twice_snoc ks m[i].1
    generalize m[i] = p at hx hks hkey hchk hnz hz hks2 hall2 hky htw
    obtain ⟨k, x⟩ := p
    simp only at hkey hchk hks2 hall2 hky htw
    simp only [chk1] at hnz hz
    have hcl := List.countP_le_length (p := (· == k)) (l := ks)
    have hg : (mget (cnt ks) (.string k)).getD (.int .i64 0) = .int .i64 (ks.countP (· == k) : Nat) := by
      rw [cnt_get]
      by_cases h0 : ks.countP (· == k) = 0
      · rw [if_pos h0, h0]; rfl
      · rw [if_neg h0]; rfl
    have hg2 : (mget (cnt (ks ++ [k])) (.string k)).getD (.int .i64 0) = .int .i64 (ks.countP (· == k) + 1 : Nat) := by
      rw [cnt_get, List.countP_append, show ([k].countP (· == k)) = 1 from by simp [bytes_beq], if_neg (by omega)]
      rfl
    have hadd : IntKind.i64.wrap ((ks.countP (· == k) : Nat) + 1 : Int) = ((ks.countP (· == k) + 1 : Nat) : Int) := wrap_succ (by omega)
    have hset : mset (cnt ks) (.string k) (.int .i64 (ks.countP (· == k) + 1 : Nat)) = cnt (ks ++ [k]) := by
      rw [cnt_snoc, cStep]
      congr 2
      unfold cN
      rw [cnt_get]
      by_cases h0 : ks.countP (· == k) = 0
      · rw [if_pos h0, h0]; rfl
      · rw [if_neg h0]; rfl
    have hgt : decide (1 < ((ks.countP (· == k) + 1 : Nat) : Int)) = ks.any (· == k) := by
      rw [any_count]
      exact decide_eq_decide.2 (by omega)
    repeat (first | refine wS ?_ | refine wB ?_ | (refine wR ?_; simp only [go_sem, hx, pD]) | (refine wT ?_ ?_; focus (simp only [go_sem]; done)) | (refine wF ?_ ?_; focus (simp only [go_sem]; done)) | (refine wK ?_; try simp only [go_sem, hx, pD]) | (refine wE ?_; try simp only [go_sem, hx, pD]) | refine wX ?_)
    by_cases hk0 : keyE k = 0
    · rw [hk0, ends0] at hkey
      rw [if_pos hk0] at hnz hz
      refine wC (hkey) ?_
      simp only [go_sem]
      repeat (first | refine wS ?_ | refine wB ?_ | (refine wR ?_; simp only [go_sem]) | (refine wT ?_ ?_; focus (simp only [go_sem]; done)) | (refine wF ?_ ?_; focus (simp only [go_sem]; done)) | (refine wK ?_; try simp only [go_sem]) | (refine wE ?_; try simp only [go_sem]) | refine wX ?_)
      by_cases hc0 : chk x d = 0
      · rw [hc0, ends0] at hchk
        refine wC (hchk) ?_
        simp only [go_sem, hky, hall, hall2, hg, hg2, hadd, hset, hgt, hw]
        repeat (first | refine wS ?_ | refine wB ?_ | (refine wR ?_; simp only [go_sem, hky, hall, hall2, hg, hg2, hadd, hset, hgt, hw]) | (refine wT ?_ ?_; focus (simp only [go_sem]; done)) | (refine wF ?_ ?_; focus (simp only [go_sem]; done)) | (refine wK ?_; try simp only [go_sem, hky, hall, hall2, hg, hg2, hadd, hset, hgt, hw]) | (refine wE ?_; try simp only [go_sem, hky, hall, hall2, hg, hg2, hadd, hset, hgt, hw]) | refine wX ?_)
        rw [← htw, ← hks2]
        exact hR hlt (hz hc0) _ wSb
      · rw [ends1 hc0] at hchk
        refine wP (hchk) ?_
        try simp only [go_sem]
        refine wPan ⟨?_, rfl⟩
        have := hnz hc0
        rw [chkPs, this, if_pos hc0, ends1 hc0]
        rfl
    · rw [ends1 hk0] at hkey
      rw [if_neg hk0] at hnz hz
      refine wP (hkey) ?_
      try simp only [go_sem]
      refine wPan ⟨?_, rfl⟩
      have := hnz hk0
      rw [chkPs, this, if_pos hk0, ends1 hk0]
      rfl
  · obtain rfl : i = m.length := by simp at h; omega
    repeat (first | refine wS ?_ | refine wB ?_ | (refine wR ?_; simp only [go_sem, List.take_length]) | (refine wT ?_ ?_; focus (simp only [go_sem]; done)) | (refine wF ?_ ?_; focus (simp only [go_sem]; done)) | (refine wK ?_; try simp only [go_sem, List.take_length]) | (refine wE ?_; try simp only [go_sem, List.take_length]) | refine wX ?_)
    rw [List.take_length] at hinv
    cases ht : twice (m.map (·.1)) with
    | true =>
      simp only [go_sem]
      refine wP (must_no 6) ?_
      try simp only [go_sem]
      exact wPan ⟨by rw [chkPs, if_neg (by simp [hinv]), if_pos ht]; rfl, rfl⟩
    | false =>
      have he : ends (chkPs m d) = .ret (.tup []) := by rw [chkPs, if_neg (by simp [hinv]), if_neg (by simp [ht])]; rfl
      rw [he]
      simp only [go_sem]
      refine wC (must_ok 6) ?_
      simp only [go_sem]
      repeat (first | refine wS ?_ | refine wB ?_ | (refine wR ?_; simp only [go_sem]) | (refine wT ?_ ?_; focus (simp only [go_sem]; done)) | (refine wF ?_ ?_; focus (simp only [go_sem]; done)) | (refine wK ?_; try simp only [go_sem]) | (refine wE ?_; try simp only [go_sem]) | refine wX ?_)
      exact wNq
theorem okP_in {l : List V} {m : List (ByteArray × V)} {k : Nat} {s : ByteArray} {b : Bool} {n : Int} {f : Nat} (h : okV (.mk k s b n f l m)) : s.size ≤ 140737488351232 ∧ l.length * 96 ≤ 140737488351232 ∧ (∀ x ∈ l, okV x) ∧ okP m := by
  cases h with
  | mk _ _ _ _ _ _ _ hk hs hn hf hl hm hL hM hM' => exact ⟨hs, hl, hL, hm, fun p hp => ⟨hM p hp, hM' p hp⟩⟩
theorem okK_parts {k : Nat} {s : ByteArray} {b : Bool} {n : Int} {f : Nat} {l : List V} {m : List (ByteArray × V)} (h : okK k (.mk k s b n f l m) = true) : (k ≠ 5 → l = []) ∧ (k ≠ 6 → m = []) := by
  unfold okK at h
  simp only [flat, bareV, Bool.and_eq_true, beq_iff_eq] at h
  obtain ⟨_, ⟨_, h5⟩, h6⟩ := h
  refine ⟨fun e => ?_, fun e => ?_⟩
  · rw [if_neg e] at h5
    exact List.eq_nil_of_length_eq_zero (by simpa using h5)
  · rw [if_neg e] at h6
    exact List.eq_nil_of_length_eq_zero (by simpa using h6)
theorem check_c {W0 : World} (hT : Tabs W0) : ∀ x : V, okV x → ∀ d : Nat, d ≤ 8 → APure Tryd.prog W0 48 [va x, .d (.v (.int .i64 d))] (· = ends (chk x d)) := by
  refine V.ind (p := fun x => okV x → ∀ d : Nat, d ≤ 8 → APure Tryd.prog W0 48 [va x, .d (.v (.int .i64 d))] (· = ends (chk x d))) ?_
  intro k s b n f l m hl hm hok d hd
  obtain ⟨hs, hll, hL, hP⟩ := okP_in hok
  have hflat := flat_c (W0 := W0) (.mk k s b n f l m) (bareV (.mk k s b n f l m))
  have hbare := bare_c (W0 := W0) (.mk k s b n f l m)
  have hk8 : (decide ((k : Int) < 8) && flat (.mk k s b n f l m) (bareV (.mk k s b n f l m))) = okK k (.mk k s b n f l m) := by
    unfold okK
    congr 1
    exact decide_eq_decide.2 (by omega)
  rw [chk]
  simp only [va, vD, vDs_map, pDs_map, List.map_cons, List.map_nil] at hflat hbare
  refine A_body Tryd.func48 rfl (Nat.le_of_ble_eq_true rfl) ?_
  simp only [go_sem, Tryd.ntmps48, Tryd.results48, mkEnv, va, vD, vDs_map, pDs_map]
  repeat (first | refine wS ?_ | refine wB ?_ | (refine wR ?_; simp only [go_sem, va, vD, vDs_map, pDs_map]) | (refine wT ?_ ?_; focus (simp only [go_sem]; done)) | (refine wF ?_ ?_; focus (simp only [go_sem]; done)) | (refine wK ?_; try simp only [go_sem, va, vD, vDs_map, pDs_map]) | (refine wE ?_; try simp only [go_sem, va, vD, vDs_map, pDs_map]) | refine wX ?_)
  refine wD 9 ?_ mixedO (by kernel_rfl)
  simp only [go_sem]
  repeat (first | refine wS ?_ | refine wB ?_ | (refine wR ?_; simp only [go_sem]) | (refine wT ?_ ?_; focus (simp only [go_sem]; done)) | (refine wF ?_ ?_; focus (simp only [go_sem]; done)) | (refine wK ?_; try simp only [go_sem]) | (refine wE ?_; try simp only [go_sem]) | refine wX ?_)
  refine wQG (fun hh => hbare) ?_
  simp only [go_sem, hk8]
  repeat (first | refine wS ?_ | refine wB ?_ | (refine wR ?_; simp only [go_sem, hk8]) | (refine wT ?_ ?_; focus (simp only [go_sem]; done)) | (refine wF ?_ ?_; focus (simp only [go_sem]; done)) | (refine wK ?_; try simp only [go_sem, hk8]) | (refine wE ?_; try simp only [go_sem, hk8]) | refine wX ?_)
  refine wQG (fun hh => hflat) ?_
  simp only [go_sem, hk8]
  repeat (first | refine wS ?_ | refine wB ?_ | (refine wR ?_; simp only [go_sem, hk8]) | (refine wT ?_ ?_; focus (simp only [go_sem]; done)) | (refine wF ?_ ?_; focus (simp only [go_sem]; done)) | (refine wK ?_; try simp only [go_sem, hk8]) | (refine wE ?_; try simp only [go_sem, hk8]) | refine wX ?_)
  have hkk : k < 8 ∨ True := .inr trivial
  cases hb1 : okK k (.mk k s b n f l m) with
  | false =>
    rw [hb1] at hk8
    rw [if_pos rfl]
    refine wD1 9 ?_ (by kernel_rfl)
    simp only [go_sem, hk8]
    refine wP (must_no 5) ?_
    try simp only [go_sem, hk8]
    exact wPan ⟨rfl, rfl⟩
  | true =>
    rw [hb1] at hk8
    rw [if_neg (by simp)]
    have hv := valid_c hT s (by omega)
    obtain ⟨c4, e4⟩ : ∃ c, decide ((s.size : Int) ≤ 4096) = c := ⟨_, rfl⟩
    obtain ⟨g, e1⟩ : ∃ c, ((k : Int) != 1 || Lib.validD s.data.toList) = c := ⟨_, rfl⟩
    obtain ⟨c3, e3⟩ : ∃ c, decide ((if (l.length : Int) < (m.length : Int) then (m.length : Int) else (l.length : Int)) ≤ 256) = c := ⟨_, rfl⟩
    obtain ⟨c11, e11⟩ : ∃ c, ((k : Int) != 5 && (k : Int) != 6 || decide ((d : Int) < 8)) = c := ⟨_, rfl⟩
    refine wD1 9 ?_ (by kernel_rfl)
    simp only [go_sem, hk8]
    refine wC (must_ok 5) ?_
    simp only [go_sem, hk8]
    repeat (first | refine wS ?_ | refine wB ?_ | (refine wR ?_; simp only [go_sem, hk8]) | (refine wT ?_ ?_; focus (simp only [go_sem]; done)) | (refine wF ?_ ?_; focus (simp only [go_sem]; done)) | (refine wK ?_; try simp only [go_sem, hk8]) | (refine wE ?_; try simp only [go_sem, hk8]) | refine wX ?_)
    refine wD0 ?_ (by kernel_rfl)
    try simp only [go_sem, e4]
    repeat (first | refine wS ?_ | refine wB ?_ | (refine wR ?_; simp only [go_sem, e4]) | (refine wT ?_ ?_; focus (simp only [go_sem]; done)) | (refine wF ?_ ?_; focus (simp only [go_sem]; done)) | (refine wK ?_; try simp only [go_sem, e4]) | (refine wE ?_; try simp only [go_sem, e4]) | refine wX ?_)
    cases c4 with
    | false =>
      have h4 : 4096 < s.size := by simp at e4; omega
      rw [if_pos h4]
      refine wP (must_no 4) ?_
      try simp only [go_sem]
      exact wPan ⟨rfl, rfl⟩
    | true =>
    have h4 : ¬ 4096 < s.size := by simp at e4; omega
    rw [if_neg h4]
    refine wC (must_ok 4) ?_
    simp only [go_sem, e1]
    repeat (first | refine wS ?_ | refine wB ?_ | (refine wR ?_; simp only [go_sem, e1]) | (refine wT ?_ ?_; focus (simp only [go_sem]; done)) | (refine wF ?_ ?_; focus (simp only [go_sem]; done)) | (refine wK ?_; try simp only [go_sem, e1]) | (refine wE ?_; try simp only [go_sem, e1]) | refine wX ?_)
    refine wCG (fun hh => hv) ?_
    simp only [go_sem, e1]
    repeat (first | refine wS ?_ | refine wB ?_ | (refine wR ?_; simp only [go_sem, e1]) | (refine wT ?_ ?_; focus (simp only [go_sem]; done)) | (refine wF ?_ ?_; focus (simp only [go_sem]; done)) | (refine wK ?_; try simp only [go_sem, e1]) | (refine wE ?_; try simp only [go_sem, e1]) | refine wX ?_)
    cases g with
    | false =>
      have h12 : k = 1 ∧ Lib.validD s.data.toList = false := by
        simp only [Bool.or_eq_false_iff, bne_eq_false_iff_eq] at e1
        exact ⟨by omega, e1.2⟩
      rw [if_pos h12]
      refine wP (must_no 12) ?_
      try simp only [go_sem]
      exact wPan ⟨rfl, rfl⟩
    | true =>
    have h12 : ¬ (k = 1 ∧ Lib.validD s.data.toList = false) := by
      rintro ⟨rfl, h⟩
      rw [h] at e1
      cases e1
    rw [if_neg h12]
    refine wC (must_ok 12) ?_
    simp only [go_sem, e3]
    repeat (first | refine wS ?_ | refine wB ?_ | (refine wR ?_; simp only [go_sem, e3]) | (refine wT ?_ ?_; focus (simp only [go_sem]; done)) | (refine wF ?_ ?_; focus (simp only [go_sem]; done)) | (refine wK ?_; try simp only [go_sem, e3]) | (refine wE ?_; try simp only [go_sem, e3]) | refine wX ?_)
    cases c3 with
    | false =>
      have h3 : 256 < l.length ∨ 256 < m.length := by
        simp only [decide_eq_false_iff_not] at e3
        split at e3 <;> omega
      rw [if_pos h3]
      refine wP (must_no 3) ?_
      try simp only [go_sem]
      exact wPan ⟨rfl, rfl⟩
    | true =>
    have h3 : ¬ (256 < l.length ∨ 256 < m.length) := by
      simp only [decide_eq_true_eq] at e3
      split at e3 <;> omega
    rw [if_neg h3]
    refine wC (must_ok 3) ?_
    simp only [go_sem, e11]
    repeat (first | refine wS ?_ | refine wB ?_ | (refine wR ?_; simp only [go_sem, e11]) | (refine wT ?_ ?_; focus (simp only [go_sem]; done)) | (refine wF ?_ ?_; focus (simp only [go_sem]; done)) | (refine wK ?_; try simp only [go_sem, e11]) | (refine wE ?_; try simp only [go_sem, e11]) | refine wX ?_)
    cases c11 with
    | false =>
      have h11 : (k = 5 ∨ k = 6) ∧ 8 ≤ d := by
        simp only [Bool.or_eq_false_iff, Bool.and_eq_false_iff, bne_eq_false_iff_eq, decide_eq_false_iff_not] at e11
        omega
      rw [if_pos h11]
      refine wP (must_no 11) ?_
      try simp only [go_sem]
      exact wPan ⟨rfl, rfl⟩
    | true =>
    have h11 : ¬ ((k = 5 ∨ k = 6) ∧ 8 ≤ d) := by
      rintro ⟨h, h2⟩
      simp only [Bool.or_eq_true, Bool.and_eq_true, bne_iff_ne, decide_eq_true_eq] at e11
      omega
    rw [if_neg h11]
    obtain ⟨f5, f6⟩ := okK_parts hb1
    have hd8 : (l ≠ [] ∨ m ≠ []) → d < 8 := by
      rintro (h | h)
      · have : k = 5 := Decidable.byContradiction fun e => h (f5 e)
        omega
      · have : k = 6 := Decidable.byContradiction fun e => h (f6 e)
        omega
    have hwd : IntKind.i64.wrap ((d : Int) + 1) = ((d + 1 : Nat) : Int) := wrap_succ (by omega)
    refine wC (must_ok 11) ?_
    simp only [go_sem]
    repeat (first | refine wS ?_ | refine wB ?_ | (refine wR ?_; simp only [go_sem]) | (refine wT ?_ ?_; focus (simp only [go_sem]; done)) | (refine wF ?_ ?_; focus (simp only [go_sem]; done)) | (refine wK ?_; try simp only [go_sem]) | (refine wE ?_; try simp only [go_sem]) | refine wX ?_)
    refine wL (fun i => ⟨69, ofL [(1, .d (.v (.int .i64 d))), (2, .ptr 0 0), (53, rV l), (54, .d (.v (.int .i64 l.length))), (55, .d (.v (.int .i64 i)))], [.var [.d (.v (.int .u8 k)), .d (.v (.string s)), .d (.v (.bool b)), .d (.v (.int .i64 n)), .d (.v (.float .f64 f)), .d (.rows 7 96 (l.map vD)), .d (.rows 8 112 (m.map pD))]]⟩) (l.length) (fun i => chkL (l.take i) (d + 1) = 0) wSb (rfl) ?_
    intro i hi hinv R hR
    simp only [go_sem]
    repeat (first | refine wS ?_ | refine wB ?_ | (refine wR ?_; simp only [go_sem]) | (refine wT ?_ ?_; focus (simp only [go_sem]; done)) | (refine wF ?_ ?_; focus (simp only [go_sem]; done)) | (refine wK ?_; try simp only [go_sem]) | (refine wE ?_; try simp only [go_sem]) | refine wX ?_)
    refine wI (fun h => ?_) (fun h => ?_)
    · have hlt : i < l.length := by simpa using h
      have hlt2 : ((i : Int) < ((l.length : Nat) : Int)) = True := eq_true (by omega)
      have hw := wrap_succ (i := i) (by omega)
      have hx : (l.map vD)[i]? = some (vD l[i]) := by rw [List.getElem?_map, List.getElem?_eq_getElem hlt]; rfl
      have hin : l[i] ∈ l := List.getElem_mem hlt
      have hd8' := hd8 (.inl fun e => by subst e; simp at hlt)
      have hchk := hl _ hin (hL _ hin) (d + 1) (by omega)
      have hval : (l.map fun x => chk x (d + 1))[i]? = some (chk l[i] (d + 1)) := by rw [List.getElem?_map, List.getElem?_eq_getElem hlt]; rfl
      rw [chkL_fst, List.map_take] at hinv
      obtain ⟨hz, hnz⟩ := fst0_take hval hinv
      rw [← List.map_take, ← chkL_fst] at hz
      rw [← chkL_fst] at hnz
      generalize l[i] = x at hx hchk hz hnz
      repeat (first | refine wS ?_ | refine wB ?_ | (refine wR ?_; simp only [go_sem, hx, hwd]) | (refine wT ?_ ?_; focus (simp only [go_sem]; done)) | (refine wF ?_ ?_; focus (simp only [go_sem]; done)) | (refine wK ?_; try simp only [go_sem, hx, hwd]) | (refine wE ?_; try simp only [go_sem, hx, hwd]) | refine wX ?_)
      by_cases hc0 : chk x (d + 1) = 0
      · rw [hc0, ends0] at hchk
        refine wC (hchk) ?_
        simp only [go_sem, hw]
        repeat (first | refine wS ?_ | refine wB ?_ | (refine wR ?_; simp only [go_sem, hw]) | (refine wT ?_ ?_; focus (simp only [go_sem]; done)) | (refine wF ?_ ?_; focus (simp only [go_sem]; done)) | (refine wK ?_; try simp only [go_sem, hw]) | (refine wE ?_; try simp only [go_sem, hw]) | refine wX ?_)
        exact hR hlt (hz hc0) _ wSb
      · rw [ends1 hc0] at hchk
        refine wP (hchk) ?_
        try simp only [go_sem]
        refine wPan ⟨?_, rfl⟩
        have := hnz hc0
        rw [this, if_pos hc0, ends1 hc0]
        rfl
    · obtain rfl : i = l.length := by simp at h; omega
      repeat (first | refine wS ?_ | refine wB ?_ | (refine wR ?_; simp only [go_sem, hwd]) | (refine wT ?_ ?_; focus (simp only [go_sem]; done)) | (refine wF ?_ ?_; focus (simp only [go_sem]; done)) | (refine wK ?_; try simp only [go_sem, hwd]) | (refine wE ?_; try simp only [go_sem, hwd]) | refine wX ?_)
      rw [List.take_length] at hinv
      rw [if_neg (by simp [hinv])]
      have hcp := checkPairs_of hT m (d + 1) hP fun p hp => hm p hp (hP.2 p hp).2 (d + 1) (by have := hd8 (.inr fun e => by subst e; simp at hp); omega)
      have he : (if chkP m (d + 1) ≠ 0 then chkP m (d + 1) else if twice (m.map (·.1)) = true then 6 else 0) = chkPs m (d + 1) := rfl
      rw [he]
      by_cases hc0 : chkPs m (d + 1) = 0
      · rw [hc0, ends0] at hcp ⊢
        refine wC (hcp) ?_
        simp only [go_sem]
        repeat (first | refine wS ?_ | refine wB ?_ | (refine wR ?_; simp only [go_sem]) | (refine wT ?_ ?_; focus (simp only [go_sem]; done)) | (refine wF ?_ ?_; focus (simp only [go_sem]; done)) | (refine wK ?_; try simp only [go_sem]) | (refine wE ?_; try simp only [go_sem]) | refine wX ?_)
        exact wNq
      · rw [ends1 hc0] at hcp ⊢
        refine wP (hcp) ?_
        try simp only [go_sem]
        exact wPan ⟨rfl, rfl⟩
/-- Check, CheckPairs. -/
theorem check1_c {W0 : World} (hT : Tabs W0) (x : V) (hx : okV x) : ACalls Tryd.prog W0 53 [.ptr 0 0] [.var ((vD x).map .d)] (fun r L' => r = ends (chk x 0) ∧ L' = [.var ((vD x).map .d)]) := by
  have hc := check_c hT x hx 0 (by omega)
  refine A_body Tryd.func53 rfl (Nat.le_of_ble_eq_true rfl) ?_
  simp only [go_sem, Tryd.ntmps53, Tryd.results53, mkEnv]
  repeat (first | refine wS ?_ | refine wB ?_ | (refine wR ?_; simp only [go_sem]) | (refine wT ?_ ?_; focus (simp only [go_sem]; done)) | (refine wF ?_ ?_; focus (simp only [go_sem]; done)) | (refine wK ?_; try simp only [go_sem]) | (refine wE ?_; try simp only [go_sem]) | refine wX ?_)
  by_cases hc0 : chk x 0 = 0
  · rw [hc0, ends0] at hc ⊢
    refine wC (hc) ?_
    simp only [go_sem]
    repeat (first | refine wS ?_ | refine wB ?_ | (refine wR ?_; simp only [go_sem]) | (refine wT ?_ ?_; focus (simp only [go_sem]; done)) | (refine wF ?_ ?_; focus (simp only [go_sem]; done)) | (refine wK ?_; try simp only [go_sem]) | (refine wE ?_; try simp only [go_sem]) | refine wX ?_)
    exact wRetBN [.var ((vD x).map .d)] ⟨rfl, rfl⟩
  · rw [ends1 hc0] at hc ⊢
    refine wP (hc) ?_
    try simp only [go_sem]
    exact wPanB [.var ((vD x).map .d)] ⟨rfl, rfl⟩
end Go.Proofs.YtbgfiflnfndckaaDoor.Lift
end
section
/- The lift: Check, CheckPairs. No conditions but that utf8's tables lie as they are laid, and what memory holds. -/
set_option linter.unusedVariables false
set_option linter.unusedSimpArgs false
set_option maxHeartbeats 4000000
set_option maxRecDepth 100000
namespace Go.Proofs.YtbgfiflnfndckaaDoor.Lift
open Go Go.RowKit

/-- What is answered of a function that ends so. -/
theorem caught_ends {W0 : World} {g : FuncId} {caps : List AV} {L L2 : List Box} {c : Nat} (hg : callable Tryd.prog g = true) (h : ACalls Tryd.prog W0 g caps L (fun r L' => r = ends c ∧ L' = L2)) :
    ACalls Tryd.prog W0 46 [.fn g caps] L (fun r L' => r = .ret (.d (.v (.int .i64 c))) ∧ L' = L2) :=
  Val.A_caught hg h (by
    rintro r L' ⟨rfl, rfl⟩
    by_cases hc : c = 0
    · subst hc
      exact .inl ⟨rfl, rfl, rfl⟩
    · exact .inr ⟨c, ends1 hc, rfl, rfl⟩)
theorem Check_c {W0 : World} (hT : Tabs W0) (x : V) (hx : okV x) : APure Tryd.prog W0 20 [va x] (· = .ret (.d (.v (.int .i64 (chk x 0 : Nat))))) := by
  have hc := caught_ends (by simp only [go_sem]) (check1_c hT x hx)
  obtain ⟨k, s, b, n, f, l, m⟩ := x
  simp only [vD, vDs_map, pDs_map, List.map_cons, List.map_nil] at hc
  refine A_body Tryd.func20 rfl (Nat.le_of_ble_eq_true rfl) ?_
  simp only [go_sem, Tryd.ntmps20, Tryd.results20, mkEnv, vD, vDs_map, pDs_map]
  repeat (first | refine wS ?_ | refine wB ?_ | (refine wR ?_; simp only [go_sem, vD, vDs_map, pDs_map]) | (refine wT ?_ ?_; focus (simp only [go_sem]; done)) | (refine wF ?_ ?_; focus (simp only [go_sem]; done)) | (refine wK ?_; try simp only [go_sem, vD, vDs_map, pDs_map]) | (refine wE ?_; try simp only [go_sem, vD, vDs_map, pDs_map]) | refine wX ?_)
  refine wCB [0] (hc) ?_
  simp only [go_sem]
  repeat (first | refine wS ?_ | refine wB ?_ | (refine wR ?_; simp only [go_sem]) | (refine wT ?_ ?_; focus (simp only [go_sem]; done)) | (refine wF ?_ ?_; focus (simp only [go_sem]; done)) | (refine wK ?_; try simp only [go_sem]) | (refine wE ?_; try simp only [go_sem]) | refine wX ?_)
  exact wRq
end Go.Proofs.YtbgfiflnfndckaaDoor.Lift
end
