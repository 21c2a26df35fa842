/- Joined from Lfi, Lfj, Lfk, Lfl, Lfm, Lfn, Lfo, Lfp, Lfq, Lfr, Lfs, Lfy. No conditions. -/
import Derived.Test.YtbgfiflnfndckaaDoorLga
import Derived.Deep.LoopGhost
import Derived.Deep.AppendSrc
import Derived.Lib.ConvBytes
import Derived.Laws.BytesArg
import Derived.SizedLaws
import Derived.ChangeArms
import Derived.WideShapes
import Derived.Deep.Slices
import Derived.Lib.SmallJoins
/- The lift, ninth part: what is known is let go; loops; rows that grow. No conditions: words and their laws. -/
set_option linter.unusedVariables false
set_option linter.unusedSimpArgs false
namespace Go.Proofs.YtbgfiflnfndckaaDoor.Lift
open Go Go.RowKit

section
variable {P : Program} {W0 : World} {n : Nat}

/-- One says no more than the other. -/
def LeD (d d' : D) : Prop := ∀ (M : Nat → Prop) w u, RD M w d u → RD M w d' u
def Le (x x' : AV) : Prop := ∀ M m w u, RA M m w x u → RA M m w x' u
def LeL (l l' : List AV) : Prop := ∀ M m w us, RAs M m w l us → RAs M m w l' us
theorem Le.refl (x : AV) : Le x x := fun _ _ _ _ h => h
theorem Le.junk (x : AV) : Le x .junk := fun _ _ _ _ _ => by simp only [RA]
theorem LeD.refl (d : D) : LeD d d := fun _ _ _ h => h
theorem LeD.nil {sz bt : Nat} (h : 0 < bt) : LeD .e (.rows sz bt []) := fun _ _ _ hr => hr.nil sz bt h
theorem Le.d {d d' : D} (h : LeD d d') : Le (.d d) (.d d') := fun M m w u hr => by
  simp only [RA] at hr ⊢
  exact h M w u hr
theorem Le.nil {sz bt : Nat} (h : 0 < bt) : Le (.d .e) (.d (.rows sz bt [])) := Le.d (LeD.nil h)
theorem LeL.nil : LeL [] [] := fun _ _ _ _ h => h
theorem LeL.cons {x x' : AV} {l l' : List AV} (h : Le x x') (h' : LeL l l') : LeL (x :: l) (x' :: l') := fun M m w us hr => by
  cases us with
  | nil => simp only [RAs] at hr
  | cons u us =>
    simp only [RAs] at hr ⊢
    exact ⟨h _ _ _ _ hr.1, h' _ _ _ _ hr.2⟩
theorem LeL.refl (l : List AV) : LeL l l := fun _ _ _ _ h => h
theorem Le.agg {l l' : List AV} (h : LeL l l') : Le (.agg l) (.agg l') := fun M m w u hr => by
  simp only [RA] at hr ⊢
  obtain ⟨us, h1, h2⟩ := hr
  exact ⟨us, h1, h _ _ _ _ h2⟩
theorem Le.tup {l l' : List AV} (h : LeL l l') : Le (.tup l) (.tup l') := fun M m w u hr => by
  simp only [RA] at hr ⊢
  obtain ⟨us, h1, h2⟩ := hr
  exact ⟨us, h1, h _ _ _ _ h2⟩
theorem LeD.rows {sz bt : Nat} {l l' : List (List D)} (hl : l.length = l'.length) (h : ∀ (i : Nat) (r r' : List D), l[i]? = some r → l'[i]? = some r' → r.length = r'.length ∧ ∀ (j : Nat) (d d' : D), r[j]? = some d → r'[j]? = some d' → LeD d d') : LeD (.rows sz bt l) (.rows sz bt l') := by
  intro M w u hr
  obtain ⟨A, c, U, rfl, hA, hU⟩ := hr.rows_inv
  have hb := hr.rows_len
  have hc : l.length ≤ c := by
    cases hr
    assumption
  rw [hl]
  refine .rows sz bt l' A c U hb.1 (hl ▸ hb.2) (hl ▸ hc) (fun i r' hi => ?_) (fun i r' j d' hi hj => ?_)
  · have hlt : i < l.length := by rw [hl]; exact (List.getElem?_eq_some_iff.1 hi).1
    obtain ⟨h1, h2⟩ := hA i _ (List.getElem?_eq_getElem hlt)
    exact ⟨(h i _ r' (List.getElem?_eq_getElem hlt) hi).1 ▸ h1, h2⟩
  · have hlt : i < l.length := by rw [hl]; exact (List.getElem?_eq_some_iff.1 hi).1
    obtain ⟨h1, h2⟩ := h i _ r' (List.getElem?_eq_getElem hlt) hi
    have hjlt : j < l[i].length := by rw [h1]; exact (List.getElem?_eq_some_iff.1 hj).1
    exact h2 j _ d' (List.getElem?_eq_getElem hjlt) hj M w _ (hU i _ j _ (List.getElem?_eq_getElem hlt) (List.getElem?_eq_getElem hjlt))

/-- From one state to another that says no more. -/
def Sb (W0 : World) (n : Nat) (st st' : St) : Prop := ∀ E M m a w, E.n = n → C W0 E M m st a w → ∃ M' m', C W0 E M' m' st' a w
theorem Sb.refl (st : St) : Sb W0 n st st := fun E M m a w _ h => ⟨M, m, h⟩
theorem Sb.trans {a b c : St} (h : Sb W0 n a b) (h' : Sb W0 n b c) : Sb W0 n a c := fun E M m x w hn hc => let ⟨M', m', h1⟩ := h E M m x w hn hc; h' E M' m' x w hn h1
theorem A_sub {Q : Ax → St → Prop} {c : Code} {st : St} (st' : St) (hs : Sb W0 n st st') (h : ACode P W0 n c Q st') : ACode P W0 n c Q st := fun E M m a w hn hc => let ⟨M', m', h1⟩ := hs E M m a w hn hc; h E M' m' a w hn h1
theorem O_sub {Q : Ax → St → Prop} {ops : Array Oper} {l : List Oper} {st : St} (st' : St) (hs : Sb W0 n st st') (h : AOps P W0 n ops l Q st') : AOps P W0 n ops l Q st := fun E M m a w hn hc => let ⟨M', m', h1⟩ := hs E M m a w hn hc; h E M' m' a w hn h1

def eSub (env : List (List (Option AV))) : List (Nat × AV) → Prop
  | [] => True
  | (t, x) :: l => (∃ y, lk env t = some y ∧ Le y x) ∧ eSub env l
theorem eSub_lk {env : List (List (Option AV))} : ∀ {l : List (Nat × AV)} {t : Nat} {x : AV}, eSub env l → lkA l t = some x → ∃ y, lk env t = some y ∧ Le y x
  | [], t, x, _, h => by simp [lkA] at h
  | (t', x') :: l, t, x, hs, h => by
    simp only [eSub] at hs
    simp only [lkA] at h
    split at h
    · rename_i e
      subst e
      cases h
      exact hs.1
    · exact eSub_lk hs.2 h
/-- The boxes that are named are among the first so many. -/
def envBelow (k : Nat) (env : List (Nat × AV)) : Bool := env.all fun p => p.2.names fun b => decide (b < k)
def boxBelow (k : Nat) : Box → Bool
  | .var cs | .own _ _ cs => namesAll (fun b => decide (b < k)) cs
  | _ => true

theorem BoxR.cut {M : Nat → Prop} {m m' : Nat → Pl} {w : World} {b k : Nat} {x : Box} (h : BoxR M m w b x) (hk : boxBelow k x = true) (hb : b < k) (hm : ∀ b, b < k → m' b = m b) : BoxR M m' w b x := by
  cases x with
  | dead => trivial
  | var cs =>
    obtain ⟨q, C, T, h1, h2, h3⟩ := h
    exact ⟨q, C, T, (hm b hb).trans h1, h2, RAs.remap (fun b hb _ => hm b (by simpa using hb)) _ _ hk h3⟩
  | vec sz bt l =>
    obtain ⟨h0, h1, h2, h3⟩ := h
    refine ⟨h0, h1, h2, ?_⟩
    rcases h3 with ⟨h4, h5⟩ | ⟨q, C, T, h4, h5⟩
    · exact .inl ⟨(hm b hb).trans h4, h5⟩
    · exact .inr ⟨q, C, T, (hm b hb).trans h4, h5⟩
  | mp es =>
    obtain ⟨q, F, c, h1, h2⟩ := h
    exact ⟨q, F, c, (hm b hb).trans h1, h2⟩
  | own sz bt cs =>
    obtain ⟨h0, h1, h2, h3⟩ := h
    refine ⟨h0, h1, h2, ?_⟩
    rcases h3 with ⟨h4, h5⟩ | ⟨q, C, T, h4, h5, h6, h7⟩
    · exact .inl ⟨(hm b hb).trans h4, h5⟩
    · exact .inr ⟨q, C, T, (hm b hb).trans h4, h5, h6, RAs.remap (fun b hb _ => hm b (by simpa using hb)) _ _ hk h7⟩

theorem lk_mem : ∀ {l : List (Nat × AV)} {t : Nat} {x : AV}, lkA l t = some x → (t, x) ∈ l
  | [], t, x, h => by simp [lkA] at h
  | (t', x') :: l, t, x, h => by
    simp only [lkA] at h
    split at h
    · rename_i e
      subst e
      cases h
      simp
    · exact List.mem_cons_of_mem _ (lk_mem h)

/-- Some temporaries and the last boxes are let go. -/
theorem Sb.mk {st : St} {N : Nat} {env : List (Nat × AV)} {bs : List Box} (hN : N = st.N) (he : eSub st.env env) (hb : ∃ ex, st.bs = bs ++ ex) (hl : n ≤ bs.length) (h1 : envBelow bs.length env = true) (h2 : bs.all (boxBelow bs.length) = true) : Sb W0 n st ⟨N, ofL env, bs⟩ := by
  intro E M m a w hn h
  obtain ⟨ex, hbs⟩ := hb
  have hm : ∀ b, b < bs.length → (fun b => if b < bs.length then m b else Pl.no) b = m b := fun b hb => if_pos hb
  have at_ : ∀ b k, (if b < bs.length then m b else Pl.no) = .at_ k → b < bs.length ∧ m b = .at_ k := fun b k hk => by
    split at hk
    · exact ⟨by assumption, hk⟩
    · cases hk
  have get : ∀ b x, bs[b]? = some x → st.bs[b]? = some x := fun b x hx => by
    rw [hbs, List.getElem?_append_left (List.getElem?_eq_some_iff.1 hx).1]
    exact hx
  refine ⟨M, fun b => if b < bs.length then m b else .no, { h with mNo := fun b hb => if_neg (by simp only at hb; omega), mIn := fun b k hk => h.mIn b k (at_ b k hk).2, inj := fun b b' k hk hk' => h.inj b b' k (at_ b k hk).2 (at_ b' k hk').2, oldv := ?_, oldr := fun b k hb hk => h.oldr b k hb (at_ b k hk).2, new := fun b k hb hk => h.new b k hb (at_ b k hk).2, len := by simp only; omega, box := ?_, env := ?_, wide := by simp only; rw [hN]; exact h.wide }⟩
  · intro b cs hb hc
    rw [if_pos (List.getElem?_eq_some_iff.1 hc).1]
    exact h.oldv b cs hb (get b _ hc)
  · intro b x hx
    have hlt := (List.getElem?_eq_some_iff.1 hx).1
    exact (h.box b x (get b x hx)).cut (List.all_eq_true.1 h2 x (List.mem_of_getElem? hx)) hlt hm
  · intro t x hx
    simp only [lk_ofL] at hx
    obtain ⟨y, h3, h4⟩ := eSub_lk he hx
    exact RA.remap (p := fun b => decide (b < bs.length)) (fun b hb _ => hm b (by simpa using hb)) x _ (List.all_eq_true.1 h1 _ (lk_mem hx)) (h4 _ _ _ _ (h.env t y h3))

/-- A loop, its rounds' heads numbered by what falls. -/
theorem A_loop {σ : Type} {Q : Ax → St → Prop} {st : St} {c : Code} (S : σ → St) (μ : σ → Nat) (s0 : σ) (h0 : Sb W0 n st (S s0)) (round : ∀ s, ACode P W0 n c (Thn (fun st' => ∃ s', μ s' < μ s ∧ Sb W0 n st' (S s')) Q) (S s)) : ACode P W0 n (.loop c) Q st := by
  intro E M m a w hn hc
  obtain ⟨M0, m0, hc0⟩ := h0 E M m a w hn hc
  refine wp_loop_ghost (fun k a w => ∃ s M m, μ s = k ∧ C W0 E M m (S s) a w) (μ s0) ⟨s0, M0, m0, rfl, hc0⟩ fun k a w => ?_
  rintro ⟨s, M, m, rfl, hs⟩
  refine wp_mono (round s E M m a w hn hs) ?_
  rintro e a' w' ⟨M', m', st', ax, h1, h2, h3⟩
  cases ax with
  | normal =>
    cases e <;> simp only [ExR] at h3
    obtain ⟨s', h4, h5⟩ := h2
    obtain ⟨M'', m'', h6⟩ := h5 E M' m' a' w' hn h1
    exact ⟨μ s', h4, s', M'', m'', rfl, h6⟩
  | exit i =>
    cases e <;> simp only [ExR] at h3
    exact ⟨M', m', st', _, h1, h2, h3⟩
  | goto i =>
    cases e <;> simp only [ExR] at h3
    exact ⟨M', m', st', _, h1, h2, h3⟩
  | ret =>
    cases e <;> simp only [ExR] at h3
    exact ⟨M', m', st', _, h1, h2, trivial⟩
  | panic x =>
    cases e <;> simp only [ExR] at h3
    exact ⟨M', m', st', _, h1, h2, h3⟩

/-- A function that was handed no box is done. -/
theorem fin_pure {st : St} {x x' : AV} (hn : noName x' = true) (hle : Le x x') : Fin W0 0 st x [] x' := by
  intro E M m a w u hE h hx
  refine ⟨M, fun _ => .no, { h.bare with mNo := (fun _ _ => rfl), mIn := (fun b k hb => (by cases hb)), inj := (fun b b' k hb => (by cases hb)), oldv := (fun b cs hb hc => (by simp at hc)), oldr := (fun b k hb hk => (by cases hk)), new := (fun b k hb hk => (by cases hk)), len := (by simp [hE]), box := (fun b x hb => (by simp at hb)), env := (fun t x hx => (by simp [lk_nil] at hx)) }, ?_⟩
  exact RA.remap (p := fun _ => false) (fun b hb => by cases hb) x' u hn (hle _ _ _ _ hx)

mutual
/-- A box is no more what it was: whoever names it knows nothing. -/
def killA (b : Nat) : AV → AV
  | .ptr b' j => if b' = b then .junk else .ptr b' j
  | .ep b' sz i j => if b' = b then .junk else .ep b' sz i j
  | .sl b' sz lo n => if b' = b then .junk else .sl b' sz lo n
  | .fn f l => .fn f (killL b l)
  | .agg l => .agg (killL b l)
  | .tup l => .tup (killL b l)
  | .opt g x => .opt g (killA b x)
  | .mref b' => if b' = b then .junk else .mref b'
  | x => x
def killL (b : Nat) : List AV → List AV
  | [] => []
  | x :: l => killA b x :: killL b l
end
mutual
theorem RA.kill {M : Nat → Prop} {m m' : Nat → Pl} {w : World} {b : Nat} (hm : ∀ b', b' ≠ b → m' b' = m b') : ∀ (x : AV) (u : Value), RA M m w x u → RA M m' w (killA b x) u
  | .d x, u, h => by simpa only [killA, RA] using h
  | .dp ds, u, h => by simpa only [killA, RA] using h
  | .ptr b' j, u, h => by
    simp only [killA]
    split
    · simp only [RA]
    · rename_i e
      simp only [RA] at h ⊢
      rwa [hm b' e]
  | .ep b' sz i j, u, h => by
    simp only [killA]
    split
    · simp only [RA]
    · rename_i e
      simp only [RA] at h ⊢
      rwa [hm b' e]
  | .sl b' sz lo n, u, h => by
    simp only [killA]
    split
    · simp only [RA]
    · rename_i e
      simp only [RA] at h ⊢
      rwa [hm b' e]
  | .fn f l, u, h => by
    simp only [killA, RA] at h ⊢
    obtain ⟨us, h1, h2⟩ := h
    exact ⟨us, h1, RAs.kill hm _ _ h2⟩
  | .agg l, u, h => by
    simp only [killA, RA] at h ⊢
    obtain ⟨us, h1, h2⟩ := h
    exact ⟨us, h1, RAs.kill hm _ _ h2⟩
  | .tup l, u, h => by
    simp only [killA, RA] at h ⊢
    obtain ⟨us, h1, h2⟩ := h
    exact ⟨us, h1, RAs.kill hm _ _ h2⟩
  | .opt g x, u, h => by
    simp only [killA, RA] at h ⊢
    exact fun hg => RA.kill hm x u (h hg)
  | .mref b', u, h => by
    simp only [killA]
    split
    · simp only [RA]
    · rename_i e
      simp only [RA] at h ⊢
      rwa [hm b' e]
  | .junk, u, h => by simp only [killA, RA]
theorem RAs.kill {M : Nat → Prop} {m m' : Nat → Pl} {w : World} {b : Nat} (hm : ∀ b', b' ≠ b → m' b' = m b') : ∀ (l : List AV) (us : List Value), RAs M m w l us → RAs M m' w (killL b l) us
  | [], [], h => by simp only [killL, RAs]
  | x :: l, u :: us, h => by
    simp only [killL, RAs] at h ⊢
    exact ⟨RA.kill hm x u h.1, RAs.kill hm l us h.2⟩
  | [], _ :: _, h => by simp only [RAs] at h
  | _ :: _, [], h => by simp only [RAs] at h
end
def killE (b : Nat) (e : List (List (Option AV))) : List (List (Option AV)) := mapE (killA b) e
def killB (b : Nat) : Box → Box
  | .var cs => .var (killL b cs)
  | .own sz bt cs => .own sz bt (killL b cs)
  | x => x
theorem killL_len (b : Nat) : ∀ l : List AV, (killL b l).length = l.length
  | [] => rfl
  | x :: l => by simp only [killL, List.length_cons, killL_len b l]
theorem lk_killE {b : Nat} {l : List (List (Option AV))} {t : Nat} {x : AV} (h : lk (killE b l) t = some x) : ∃ y, lk l t = some y ∧ x = killA b y := by
  rw [killE, lk_mapE, Option.map_eq_some_iff] at h
  obtain ⟨y, h1, h2⟩ := h
  exact ⟨y, h1, h2.symm⟩

/-- A row of the call's own lies elsewhere now, and holds other elements. -/
theorem C.regrowG {E : En} {M : Nat → Prop} {m : Nat → Pl} {st : St} {a : Act} {w w' : World} (h : C W0 E M m st a w) {b k : Nat} {x y : Box} (hb : st.bs[b]? = some x)
    {Cn : Array Value} {T : TypeId} (hw : w'.heap[k]? = some (Obj.cells Cn T (0, 0))) (hyv : ∀ cs, y ≠ .var cs)
    (hcase : (m b = .at_ k ∧ Fr (fun i => i = k) w w') ∨ (w.heap.size ≤ k ∧ Fr (fun _ => False) w w'))
    (hbox : (∀ b', b' ≠ b → mAdd m b (.at_ k) b' = m b') → Fr (fun i => i = k) w w' → (∀ i, i < w.heap.size → i = k → M i) → (∀ i, i < w.heap.size → (M i ∨ i = k) → M i) → BoxR (fun i => M i ∨ i = k) (mAdd m b (.at_ k)) w' b y) :
    C W0 E (fun i => M i ∨ i = k) (mAdd m b (.at_ k)) ⟨st.N, killE b st.env, (st.bs.map (killB b)).set b y⟩ a w' := by
  have hklt : k < w'.heap.size := (Array.getElem?_eq_some_iff.1 hw).1
  have hblt : b < st.bs.length := (List.getElem?_eq_some_iff.1 hb).1
  have hm : ∀ b', b' ≠ b → mAdd m b (.at_ k) b' = m b' := fun b' e => if_neg e
  have hmb : mAdd m b (.at_ k) b = .at_ k := if_pos rfl
  have low : W0.heap.size ≤ k := by
    rcases hcase with ⟨h1, _⟩ | ⟨h1, _⟩
    · exact h.mLow k (h.mIn b k h1)
    · exact Nat.le_trans h.base.size h1
  have hf : Fr (fun i => i = k) w w' := by
    rcases hcase with ⟨_, h1⟩ | ⟨_, h1⟩
    · exact h1
    · exact Fr.weak h1 fun _ _ x => x.elim
  have hE : ∀ i, i < w.heap.size → i = k → M i := fun i hi e => by
    rcases hcase with ⟨h1, _⟩ | ⟨h1, _⟩
    · exact e ▸ h.mIn b k h1
    · omega
  have hM : ∀ i, i < w.heap.size → (M i ∨ i = k) → M i := fun i hi hx => hx.elim id fun e => hE i hi e
  have own : (∃ b, b < E.n ∧ E.m b = .at_ k) ∨ E.w.heap.size ≤ k := by
    rcases hcase with ⟨h1, _⟩ | ⟨h1, _⟩
    · exact h.own h1
    · exact .inr (Nat.le_trans h.fr.size h1)
  have at_ : ∀ b' i, mAdd m b (.at_ k) b' = .at_ i → (b' = b ∧ i = k) ∨ (b' ≠ b ∧ m b' = .at_ i) := fun b' i hi => by
    by_cases e : b' = b
    · subst e
      rw [hmb] at hi
      cases hi
      exact .inl ⟨rfl, rfl⟩
    · rw [hm b' e] at hi
      exact .inr ⟨e, hi⟩
  have noother : ∀ b', b' ≠ b → m b' ≠ .at_ k := fun b' e he => by
    rcases hcase with ⟨h1, _⟩ | ⟨h1, _⟩
    · exact e (h.inj b' b k he h1)
    · have := h.mLt k (h.mIn b' k he)
      omega
  refine { base := ?_, fr := ?_, eLt := h.eLt, mLow := ?_, mUp := fun i hi => .inl (h.mUp i hi), mNew := ?_, mLt := ?_, mNo := ?_, mIn := ?_, inj := ?_, oldv := ?_, oldr := ?_, new := ?_, len := by simpa using h.len, box := ?_, env := ?_, wide := h.wide, defers := h.defers }
  · exact ⟨hf.os.trans h.base.os, hf.tape.trans h.base.tape, hf.output.trans h.base.output, Nat.le_trans h.base.size hf.size, fun i hi he => (hf.block i (Nat.lt_of_lt_of_le hi h.base.size) (by omega)).trans (h.base.block i hi he),
      fun i D t hi => by
        obtain ⟨D', h1, h2⟩ := h.base.keep i D t hi
        obtain ⟨D'', h3, h4⟩ := hf.keep i D' t h1
        exact ⟨D'', h3, h4.trans h2⟩⟩
  · refine ⟨hf.os.trans h.fr.os, hf.tape.trans h.fr.tape, hf.output.trans h.fr.output, Nat.le_trans h.fr.size hf.size, fun i hi he => ?_, fun i D t hi => ?_⟩
    · refine (hf.block i (Nat.lt_of_lt_of_le hi h.fr.size) fun e => ?_).trans (h.fr.block i hi he)
      subst e
      rcases own with h1 | h1
      · exact he h1
      · omega
    · obtain ⟨D', h1, h2⟩ := h.fr.keep i D t hi
      obtain ⟨D'', h3, h4⟩ := hf.keep i D' t h1
      exact ⟨D'', h3, h4.trans h2⟩
  · rintro i (hi | rfl)
    · exact h.mLow i hi
    · exact low
  · rintro i (hi | rfl)
    · exact h.mNew i hi
    · rcases hcase with ⟨h1, _⟩ | ⟨h1, _⟩
      · exact h.mNew _ (h.mIn b _ h1)
      · exact .inr (Nat.le_trans h.fr.size h1)
  · rintro i (hi | rfl)
    · exact Nat.lt_of_lt_of_le (h.mLt i hi) hf.size
    · exact hklt
  · intro b' hb'
    simp at hb'
    rw [hm b' (by omega)]
    exact h.mNo b' hb'
  · intro b' i hi
    rcases at_ b' i hi with ⟨_, e⟩ | ⟨_, e⟩
    · exact .inr e
    · exact .inl (h.mIn b' i e)
  · intro b1 b2 i h1 h2
    rcases at_ b1 i h1 with ⟨e1, e1'⟩ | ⟨e1, e1'⟩ <;> rcases at_ b2 i h2 with ⟨e2, e2'⟩ | ⟨e2, e2'⟩
    · rw [e1, e2]
    · exact (noother b2 e2 (e1' ▸ e2')).elim
    · exact (noother b1 e1 (e2' ▸ e1')).elim
    · exact h.inj b1 b2 i e1' e2'
  · intro b' cs hb' hc
    simp only at hc
    by_cases e : b' = b
    · subst e
      rw [List.getElem?_set_self (by simpa using hblt)] at hc
      exact absurd (Option.some.inj hc) (hyv cs)
    · rw [List.getElem?_set_ne (Ne.symm e), List.getElem?_map] at hc
      cases hx : st.bs[b']? with
      | none => simp [hx] at hc
      | some y =>
        cases y <;> simp only [hx, Option.map_some, killB, Option.some.injEq] at hc <;> first
          | (cases hc; done)
          | skip
        rw [hm b' e]
        exact h.oldv b' _ hb' hx
  · intro b' i hb' hi
    rcases at_ b' i hi with ⟨e1, e2⟩ | ⟨_, e⟩
    · subst e1
      subst e2
      rcases hcase with ⟨h1, _⟩ | ⟨h1, _⟩
      · exact h.oldr _ _ hb' h1
      · exact .inr (Nat.le_trans h.fr.size h1)
    · exact h.oldr b' i hb' e
  · intro b' i hb' hi
    rcases at_ b' i hi with ⟨e1, e2⟩ | ⟨_, e⟩
    · subst e1
      subst e2
      rcases hcase with ⟨h1, _⟩ | ⟨h1, _⟩
      · exact h.new _ _ hb' h1
      · exact Nat.le_trans h.fr.size h1
    · exact h.new b' i hb' e
  · intro b' y hy
    simp only at hy
    by_cases e : b' = b
    · subst e
      rw [List.getElem?_set_self (by simpa using hblt)] at hy
      cases hy
      exact hbox hm hf hE hM
    · rw [List.getElem?_set_ne (Ne.symm e), List.getElem?_map] at hy
      cases hx : st.bs[b']? with
      | none => simp [hx] at hy
      | some z =>
        simp only [hx, Option.map_some, Option.some.injEq] at hy
        subst hy
        have hz := (h.box b' z hx).mono hf hE hM fun i hi e2 => noother b' e (e2 ▸ hi)
        cases z with
        | dead => trivial
        | var cs =>
          obtain ⟨q, C, T, h1, h2, h3⟩ := hz
          exact ⟨q, C, T, (hm b' e).trans h1, h2, RAs.kill hm _ _ h3⟩
        | vec sz bt l =>
          obtain ⟨g0, g1, g2, g3⟩ := hz
          refine ⟨g0, g1, g2, ?_⟩
          rcases g3 with ⟨h4, h5⟩ | ⟨q, C, T, h4, h5⟩
          · exact .inl ⟨(hm b' e).trans h4, h5⟩
          · exact .inr ⟨q, C, T, (hm b' e).trans h4, h5⟩
        | mp es =>
          obtain ⟨q, F, c, h1, h2⟩ := hz
          exact ⟨q, F, c, (hm b' e).trans h1, h2⟩
        | own sz bt cs =>
          obtain ⟨g0, g1, g2, g3⟩ := hz
          refine ⟨g0, g1, by simpa only [killL_len] using g2, ?_⟩
          rcases g3 with ⟨h4, h5⟩ | ⟨q, C, T, h4, h5, h6, h7⟩
          · exact .inl ⟨(hm b' e).trans h4, by rw [h5]; rfl⟩
          · refine .inr ⟨q, C, T, (hm b' e).trans h4, h5, by simpa only [killL_len] using h6, ?_⟩
            rw [killL_len]
            exact RAs.kill hm _ _ h7
  · intro t y hy
    obtain ⟨z, h1, rfl⟩ := lk_killE hy
    exact RA.kill hm _ _ (RA.mono hf hE hM z _ (h.env t z h1))
theorem C.regrow {E : En} {M : Nat → Prop} {m : Nat → Pl} {st : St} {a : Act} {w w' : World} (h : C W0 E M m st a w) {b k : Nat} {sz bt : Nat} {l l' : List (List D)} (hb : st.bs[b]? = some (.vec sz bt l))
    {Cn : Array Value} {T : TypeId} (hw : w'.heap[k]? = some (Obj.cells Cn T (0, 0))) (hsz : 0 < sz) (hbt : 0 < bt) (hlb : l'.length * bt ≤ 140737488355328) (hlen : l'.length * sz ≤ Cn.size)
    (hcase : (m b = .at_ k ∧ Fr (fun i => i = k) w w') ∨ (w.heap.size ≤ k ∧ Fr (fun _ => False) w w'))
    (hrows : ∀ (i : Nat) (row : List D), l'[i]? = some row → row.length = sz ∧ ∀ (j : Nat) (d : D), row[j]? = some d → ∃ u, Cn[i * sz + j]? = some u ∧ RD (fun i => M i ∨ i = k) w' d u) :
    C W0 E (fun i => M i ∨ i = k) (mAdd m b (.at_ k)) ⟨st.N, killE b st.env, (st.bs.map (killB b)).set b (.vec sz bt l')⟩ a w' :=
  h.regrowG hb hw (fun _ e => by cases e) hcase fun _ _ _ _ => ⟨hsz, hbt, hlb, .inr ⟨k, Cn, T, if_pos rfl, hw, hlen, hrows⟩⟩

/-- What an appended slice holds. -/
def apR (bs : List Box) (sz bt : Nat) : AV → Option (List (List D))
  | .d (.rows sz' bt' l) => if sz' = sz ∧ bt' = bt then some l else none
  | .d .e => some []
  | .sl b sz' lo n => match bs[b]? with
    | some (.vec sz2 _ l) => if sz' = sz ∧ sz2 = sz ∧ lo + n ≤ l.length then some ((l.drop lo).take n) else none
    | _ => none
  | _ => none
theorem apR_sound {E : En} {M : Nat → Prop} {m : Nat → Pl} {st : St} {a : Act} {w : World} (h : C W0 E M m st a w) {sz bt : Nat} {x : AV} {u : Value} {l : List (List D)} (hx : RA M m w x u) (hsz : 0 < sz) (hr : apR st.bs sz bt x = some l) :
    ∃ (A : Option Addr) (c : Nat) (U : List Value), u = .slice A l.length c ∧ U.length = l.length * sz ∧ (∀ v ∈ U, v.oneCell' = true) ∧ (l ≠ [] → ∃ g o, A = some ⟨g, o, none⟩ ∧ ∀ (j : Nat) (v : Value), U[j]? = some v → w.cell? ⟨g, o + j, none⟩ = some v) ∧
      ∀ (i : Nat) (row : List D), l[i]? = some row → row.length = sz ∧ ∀ (j : Nat) (d : D), row[j]? = some d → ∃ v, U[i * sz + j]? = some v ∧ RD M w d v := by
  have build : ∀ (l : List (List D)) (V : Nat → Nat → Value), (∀ (i : Nat) (row : List D), l[i]? = some row → row.length = sz ∧ ∀ (j : Nat) (d : D), row[j]? = some d → RD M w d (V i j)) →
      ∃ U : List Value, U.length = l.length * sz ∧ (∀ v ∈ U, v.oneCell' = true) ∧ (∀ (q : Nat) (v : Value), U[q]? = some v → ∃ i j, i < l.length ∧ j < sz ∧ q = i * sz + j ∧ v = V i j) ∧ ∀ (i : Nat) (row : List D), l[i]? = some row → ∀ (j : Nat) (d : D), row[j]? = some d → U[i * sz + j]? = some (V i j) := by
    intro l V hV
    have hlt : ∀ q, q < l.length * sz → q / sz < l.length := fun q hq => (Nat.div_lt_iff_lt_mul hsz).2 hq
    have hmod : ∀ q, q % sz < sz := fun q => Nat.mod_lt _ hsz
    have get : ∀ q, q < l.length * sz → ((List.range (l.length * sz)).map fun q => V (q / sz) (q % sz))[q]? = some (V (q / sz) (q % sz)) := fun q hq => by rw [List.getElem?_map, List.getElem?_range hq]; rfl
    refine ⟨(List.range (l.length * sz)).map fun q => V (q / sz) (q % sz), by simp, fun v hv => ?_, fun q v hq => ?_, fun i row hi j d hj => ?_⟩
    · obtain ⟨q, hq, rfl⟩ := List.mem_map.1 hv
      have hq' := List.mem_range.1 hq
      obtain ⟨row, h1⟩ : ∃ row, l[q / sz]? = some row := ⟨_, List.getElem?_eq_getElem (hlt q hq')⟩
      obtain ⟨h2, h3⟩ := hV _ _ h1
      have h4 : q % sz < row.length := by rw [h2]; exact hmod q
      exact (h3 (q % sz) row[q % sz] (List.getElem?_eq_getElem h4)).one
    · have hq' : q < l.length * sz := by
        have := (List.getElem?_eq_some_iff.1 hq).1
        simpa using this
      rw [get q hq'] at hq
      cases hq
      exact ⟨q / sz, q % sz, hlt q hq', hmod q, by rw [Nat.mul_comm]; exact (Nat.div_add_mod q sz).symm, rfl⟩
    · have hi' : i < l.length := (List.getElem?_eq_some_iff.1 hi).1
      have hj' : j < sz := by rw [← (hV i row hi).1]; exact (List.getElem?_eq_some_iff.1 hj).1
      have hq : i * sz + j < l.length * sz := by
        have : (i + 1) * sz ≤ l.length * sz := Nat.mul_le_mul_right _ hi'
        rw [Nat.add_mul] at this
        omega
      rw [get _ hq]
      congr 2
      · rw [Nat.mul_comm, Nat.mul_add_div hsz, Nat.div_eq_of_lt hj', Nat.add_zero]
      · rw [Nat.mul_comm, Nat.mul_add_mod, Nat.mod_eq_of_lt hj']
  unfold apR at hr
  split at hr
  · rename_i sz' bt' l'
    split at hr
    · rename_i hc
      obtain ⟨rfl, rfl⟩ := hc
      cases hr
      simp only [RA] at hx
      obtain ⟨A, c, V, rfl, hA, hU⟩ := hx.rows_inv
      obtain ⟨U, h1, h2, h3, h4⟩ := build l V fun i row hi => ⟨(hA i row hi).1, fun j d hd => hU i row j d hi hd⟩
      refine ⟨A, c, U, rfl, h1, h2, fun hne => ?_, fun i row hi => ⟨(hA i row hi).1, fun j d hd => ⟨V i j, h4 i row hi j d hd, hU i row j d hi hd⟩⟩⟩
      have h0 : l[0]? = some (l[0]'(List.length_pos_iff.2 hne)) := List.getElem?_eq_getElem _
      obtain ⟨_, g, o, rfl, _⟩ := hA 0 _ h0
      refine ⟨g, o, rfl, fun q v hq => ?_⟩
      obtain ⟨i, j, hi, hj, rfl, rfl⟩ := h3 q v hq
      obtain ⟨_, g', o', e, h5⟩ := hA i _ (List.getElem?_eq_getElem hi)
      cases e
      rw [← Nat.add_assoc]
      exact (h5 j hj).2
    · cases hr
  · cases hr
    simp only [RA] at hx
    cases hx with
    | e A => exact ⟨A, 0, [], rfl, by simp, by simp, fun h => absurd rfl h, fun i row hi => by simp at hi⟩
  · rename_i b sz' lo k
    split at hr
    · rename_i sz2 bt2 l0 hb
      split at hr
      · rename_i hc
        obtain ⟨rfl, rfl, hle⟩ := hc
        cases hr
        have hlen : ((l0.drop lo).take k).length = k := by simp; omega
        simp only [RA] at hx
        rcases hx with ⟨rfl, rfl, hv, A, rfl⟩ | ⟨q, cap, C1, T1, h1, rfl, h2, h3, h4⟩
        · exact ⟨A, 0, [], by simp, by simp, by simp, fun h => absurd (by simp) h, fun i row hi => by simp at hi⟩
        · obtain ⟨_, _, _, h5 | ⟨q', C2, T2, h5, h6, h7, h8⟩⟩ := h.box b _ hb
          · rw [h1] at h5
            cases h5.1
          · rw [h1] at h5
            cases h5
            have get : ∀ (i : Nat) (row : List D), ((l0.drop lo).take k)[i]? = some row → l0[lo + i]? = some row := fun i row hi => by
              rw [List.getElem?_take] at hi
              split at hi
              · rwa [List.getElem?_drop] at hi
              · cases hi
            obtain ⟨U, g1, g2, g3, g4⟩ := build ((l0.drop lo).take k) (fun i j => C2.getD ((lo + i) * sz2 + j) default) fun i row hi => ⟨(h8 _ row (get i row hi)).1, fun j d hd => by
              obtain ⟨v, g5, g6⟩ := (h8 _ row (get i row hi)).2 j d hd
              simpa [Array.getD_eq_getD_getElem?, g5] using g6⟩
            refine ⟨_, cap, U, by rw [hlen], by rw [g1], g2, fun hne => ⟨q, lo * sz2, rfl, fun z v hz => ?_⟩, fun i row hi => ⟨(h8 _ row (get i row hi)).1, fun j d hd => ?_⟩⟩
            · obtain ⟨i, j, hi, hj, rfl, rfl⟩ := g3 z v hz
              rw [hlen] at hi
              have hi2 : lo + i < l0.length := by omega
              obtain ⟨g5, g6⟩ := h8 (lo + i) l0[lo + i] (List.getElem?_eq_getElem hi2)
              have hj2 : j < l0[lo + i].length := by rw [g5]; exact hj
              obtain ⟨v, g7, _⟩ := g6 j _ (List.getElem?_eq_getElem hj2)
              rw [cell_of_row w q _ C2 T2 (0, 0) h6, show lo * sz2 + (i * sz2 + j) = (lo + i) * sz2 + j by rw [Nat.add_mul]; omega, g7]
              simp [Array.getD_eq_getD_getElem?, g7]
            · obtain ⟨v, g5, g6⟩ := (h8 _ row (get i row hi)).2 j d hd
              exact ⟨v, by rw [g4 i row hi j d hd]; simp [Array.getD_eq_getD_getElem?, g5], g6⟩
      · cases hr
    · cases hr
  · cases hr

theorem run_append_room' (w : World) (t ty e : TypeId) {sz : Nat} (ht : P.underlying t = some (.slice e)) (hi : szT P e = some sz)
    (g sLen sCap : Nat) (cur : Array Value) (T : TypeId) (hg : w.heap[g]? = some (.cells cur T (0, 0)))
    (A : Option Addr) (m c : Nat) (news : List Value) (hl : news.length = m * sz) (hA : (A = none ∧ m = 0) ∨ ∃ a, A = some a ∧ ∀ j u, news[j]? = some u → w.cell? (a.add j) = some u) (h1 : ∀ u ∈ news, u.oneCell' = true)
    (hroom : sLen + m ≤ sCap) (hfit : sLen * sz + news.length ≤ cur.size) :
    (Builtin.append_ #[t, t] ty #[.slice (some ⟨g, 0, none⟩) sLen sCap, .slice A m c]).run P w =
      .ok (.slice (some ⟨g, 0, none⟩) (sLen + m) sCap) (w.setRow g (over cur.toList (sLen * sz) news).toArray) := by
  unfold szT at hi
  cases hq : P.info? e with
  | none => simp [hq] at hi
  | some i =>
    simp [hq] at hi
    subst hi
    have hst := run_storeCells_at P g (sLen * i.size) T news 0 cur w hg (by simpa using hfit) h1
    simp only [Nat.add_zero] at hst
    rcases hA with ⟨rfl, rfl⟩ | ⟨a, rfl, hnews⟩
    · have hn : news = [] := List.eq_nil_of_length_eq_zero (by simpa using hl)
      subst hn
      have hr : sLen ≤ sCap := by simpa using hroom
      simp [Builtin.append_, run_underlying ht, sizeOf, typeInfo, hq, Builtin.lenOf, hr, run_firstCells_none, Addr.add_lit, over] at hst ⊢
      simp [hst]
    · have hf := run_firstCells_some (P := P) w i.size m a m c news hl hnews
      simp [Builtin.append_, run_underlying ht, sizeOf, typeInfo, hq, Builtin.lenOf, hroom, hf, Addr.add_lit, hst, over]

theorem rows_append {M : Nat → Prop} {w : World} {sz : Nat} {l l' : List (List D)} {Cn : List Value} (h1 : ∀ (i : Nat) (row : List D), l[i]? = some row → row.length = sz ∧ ∀ (j : Nat) (d : D), row[j]? = some d → ∃ u, Cn[i * sz + j]? = some u ∧ RD M w d u)
    (h2 : ∀ (i : Nat) (row : List D), l'[i]? = some row → row.length = sz ∧ ∀ (j : Nat) (d : D), row[j]? = some d → ∃ u, Cn[(l.length + i) * sz + j]? = some u ∧ RD M w d u) :
    ∀ (i : Nat) (row : List D), (l ++ l')[i]? = some row → row.length = sz ∧ ∀ (j : Nat) (d : D), row[j]? = some d → ∃ u, Cn[i * sz + j]? = some u ∧ RD M w d u := by
  intro i row hi
  by_cases hlt : i < l.length
  · rw [List.getElem?_append_left hlt] at hi
    exact h1 i row hi
  · rw [List.getElem?_append_right (by omega)] at hi
    have := h2 (i - l.length) row hi
    rwa [show l.length + (i - l.length) = i by omega] at this

theorem C.killedG {E : En} {M : Nat → Prop} {m : Nat → Pl} {st : St} {a : Act} {w : World} (h : C W0 E M m st a w) {b : Nat} {x : Box} (hb : st.bs[b]? = some x) (hv : ∀ cs, x ≠ .var cs) : C W0 E M m ⟨st.N, killE b st.env, (st.bs.map (killB b)).set b (killB b x)⟩ a w := by
  have hblt : b < st.bs.length := (List.getElem?_eq_some_iff.1 hb).1
  have get : ∀ (b' : Nat) (y : Box), ((st.bs.map (killB b)).set b (killB b x))[b']? = some y → ∃ z, st.bs[b']? = some z ∧ y = killB b z := by
    intro b' y hy
    by_cases e : b' = b
    · subst e
      rw [List.getElem?_set_self (by simpa using hblt)] at hy
      cases hy
      exact ⟨_, hb, rfl⟩
    · rw [List.getElem?_set_ne (Ne.symm e), List.getElem?_map] at hy
      cases hx : st.bs[b']? with
      | none => simp [hx] at hy
      | some z =>
        simp only [hx, Option.map_some, Option.some.injEq] at hy
        exact ⟨z, rfl, hy.symm⟩
  refine { h with mNo := by simpa using h.mNo, oldv := ?_, len := by simpa using h.len, box := ?_, env := ?_ }
  · intro b' cs hb' hc
    obtain ⟨z, h1, h2⟩ := get b' _ hc
    cases z <;> simp only [killB] at h2 <;> first
      | (cases h2; done)
      | exact h.oldv b' _ hb' h1
  · intro b' y hy
    obtain ⟨z, h1, rfl⟩ := get b' y hy
    have hz := h.box b' z h1
    cases z with
    | dead => trivial
    | var cs =>
      obtain ⟨q, C, T, h1, h2, h3⟩ := hz
      exact ⟨q, C, T, h1, h2, RAs.kill (fun _ _ => rfl) _ _ h3⟩
    | vec sz bt l => exact hz
    | mp es => exact hz
    | own sz bt cs =>
      obtain ⟨g0, g1, g2, g3⟩ := hz
      refine ⟨g0, g1, by simpa only [killL_len] using g2, ?_⟩
      rcases g3 with ⟨h4, h5⟩ | ⟨q, C, T, h4, h5, h6, h7⟩
      · exact .inl ⟨h4, by rw [h5]; rfl⟩
      · refine .inr ⟨q, C, T, h4, h5, by simpa only [killL_len] using h6, ?_⟩
        rw [killL_len]
        exact RAs.kill (fun _ _ => rfl) _ _ h7
  · intro t y hy
    obtain ⟨z, h1, rfl⟩ := lk_killE hy
    exact RA.kill (fun _ _ => rfl) _ _ (h.env t z h1)

theorem C.killed {E : En} {M : Nat → Prop} {m : Nat → Pl} {st : St} {a : Act} {w : World} (h : C W0 E M m st a w) {b sz bt : Nat} {l : List (List D)} (hb : st.bs[b]? = some (.vec sz bt l)) : C W0 E M m ⟨st.N, killE b st.env, (st.bs.map (killB b)).set b (.vec sz bt l)⟩ a w := h.killedG hb (fun _ e => by cases e)

/-- An append to a row of one's own: it is that row still, wherever it lies. -/
theorem A_append {Q : Ax → St → Prop} {st : St} {ops : Array Oper} {o : Oper} {rest : List Oper} {s x : Operand} {T e sz bt b k : Nat} {X : AV} {l l2 : List (List D)} {z : List Value} (hg : o.guard = none) (ho : o.op = .call ⟨.builtin .append, #[s, x], #[T, T]⟩) (he : elT P T = some e) (hs : szT P e = some sz) (hbt : btT P e = some bt) (hz : zrT P e = some z) (hzl : z.length = sz)
    (h1 : evo (lk st.env) s = some (.sl b sz 0 k)) (hk : k = l.length) (hb : st.bs[b]? = some (.vec sz bt l)) (h2 : evo (lk st.env) x = some X) (hX : apR st.bs sz bt X = some l2) (hd : dOk st.N o.dst = true) (hbound : (l.length + l2.length) * bt ≤ 140737488355328)
    (h : AOps P W0 n ops rest Q ((⟨st.N, killE b st.env, (st.bs.map (killB b)).set b (.vec sz bt (l ++ l2))⟩ : St).put o.dst (.sl b sz 0 (l ++ l2).length))) : AOps P W0 n ops (o :: rest) Q st := by
  subst hk
  intro E M m a w hE hC
  refine wpList_plain hg fun K hK => ?_
  have hu := elT_iff he
  obtain ⟨hsz, hbt0, hb47, hbox⟩ := hC.box b _ hb
  have hs1 := evo_sound hC.env h1
  have hx1 := evo_sound hC.env h2
  obtain ⟨A, c, U, hxe, hUl, hU1, hUA, hUr⟩ := apR_sound hC hx1 hsz hX
  unfold btT at hbt
  unfold zrT at hz
  cases hi : P.info? e with
  | none => simp [hi] at hbt
  | some it =>
  simp only [hi, Option.map_some, Option.some.injEq] at hbt
  simp only [hi, Option.bind_some, Option.map_eq_some_iff] at hz
  obtain ⟨zv, hzr, hzv⟩ := hz
  have hits : it.size = sz := by simpa [szT, hi] using hs
  have hzs : zv.cells.size = sz := by rw [← Array.length_toList, hzv]; exact hzl
  have hex : ∀ v w', (Builtin.append_ #[T, T] o.type #[a.eval s, a.eval x]).run P w = .ok v w' → (execOp a.eval o).run P w = .ok (.value v) w' := fun v w' hr => by
    simp only [execOp, ho, resolve, invoke, builtin, Sem.run_bind, Sem.run_pure, Result.andThen_ok, List.map_toArray, List.map_cons, List.map_nil, hr]
  have fin : ∀ (v : Value) (w' : World) (q : Nat) (Cn : Array Value) (T' : TypeId) (cap : Nat), (Builtin.append_ #[T, T] o.type #[a.eval s, a.eval x]).run P w = .ok v w' → v = .slice (some ⟨q, 0, none⟩) (l ++ l2).length cap → (l ++ l2).length ≤ cap → cap * sz ≤ Cn.size →
      w'.heap[q]? = some (Obj.cells Cn T' (0, 0)) → ((m b = .at_ q ∧ Fr (fun i => i = q) w w') ∨ (w.heap.size ≤ q ∧ Fr (fun _ => False) w w')) →
      (∀ (i : Nat) (row : List D), (l ++ l2)[i]? = some row → row.length = sz ∧ ∀ (j : Nat) (d : D), row[j]? = some d → ∃ u, Cn.toList[i * sz + j]? = some u ∧ RD (fun i => M i ∨ i = q) w' d u) → o.wp P a w K (LQ W0 E Q) := by
    intro v w' q Cn T' cap hr hv hcap hfit hw hcase hrows
    have hle : (l ++ l2).length * sz ≤ Cn.size := Nat.le_trans (Nat.mul_le_mul_right _ hcap) hfit
    have hC' := hC.regrow hb hw hsz hbt0 (by rw [List.length_append]; exact hbound) hle hcase (fun i row hi => by simpa using hrows i row hi)
    unfold Oper.wp
    rw [hex v w' hr]
    refine hK _ _ (h E _ _ _ _ hE (hC'.value (dOk_iff hd) ?_))
    simp only [RA]
    exact .inr ⟨q, cap, Cn, T', if_pos rfl, by rw [hv]; simp, hcap, hw, by simpa using hfit⟩
  have hA : (A = none ∧ l2.length = 0) ∨ ∃ a, A = some a ∧ ∀ j u, U[j]? = some u → w.cell? (a.add j) = some u := by
    by_cases hne : l2 = []
    · subst hne
      have hU0 : U = [] := List.eq_nil_of_length_eq_zero (by simpa using hUl)
      cases A with
      | none => exact .inl ⟨rfl, rfl⟩
      | some a => exact .inr ⟨a, rfl, fun j u hj => by simp [hU0] at hj⟩
    · obtain ⟨g, o', rfl, hc⟩ := hUA hne
      exact .inr ⟨_, rfl, fun j u hj => by rw [Addr.add_lit]; exact hc j u hj⟩
  have newRD : ∀ (w' : World) (q : Nat), Fr (fun i => i = q) w w' → (q < w.heap.size → M q) → ∀ (d : D) (u : Value), RD M w d u → RD (fun i => M i ∨ i = q) w' d u := fun w' q hf hq d u hr =>
    hr.mono hf (fun i hi e => e ▸ hq (e ▸ hi)) (fun i hi hx => hx.elim id fun e => e ▸ hq (e ▸ hi))
  simp only [RA] at hs1
  have grow : ∀ (bA : Option Addr) (olds : List Value) (cap0 : Nat), a.eval s = .slice bA l.length cap0 → l.length ≤ cap0 → (bA = none → cap0 = 0 ∧ l.length = 0) → olds.length = l.length * sz → (∀ ba, bA = some ba → ∀ j v, olds[j]? = some v → w.cell? (ba.add j) = some v) → cap0 < l.length + l2.length →
      (∀ (i : Nat) (row : List D), l[i]? = some row → row.length = sz ∧ ∀ (j : Nat) (d : D), row[j]? = some d → ∃ u, olds[i * sz + j]? = some u ∧ RD M w d u) → o.wp P a w K (LQ W0 E Q) := by
    intro bA olds cap0 hse hlc hnone hol hold hcap hrows
    have hsum : ((l.length + l2.length : Nat) : Int) ≤ 9223372036854775807 := by
      have : l.length + l2.length ≤ (l.length + l2.length) * bt := Nat.le_mul_of_pos_right _ hbt0
      omega
    have hb48 : (l.length + l2.length) * it.bytes ≤ 140737488355328 := by rw [hbt]; omega
    have hge := grownCap_ge w (l.length + l2.length) cap0 e
    -- the appended part is there, or is empty
    have key : ∃ w' cap, (Builtin.append_ #[T, T] o.type #[a.eval s, a.eval x]).run P w = .ok (.slice (some ⟨w.heap.size, 0, none⟩) (l.length + l2.length) cap) w' ∧ l.length + l2.length ≤ cap ∧ Fr (fun _ => False) w w' ∧
        ∃ Cn : Array Value, w'.heap[w.heap.size]? = some (Obj.cells Cn e (0, 0)) ∧ Cn.size = cap * sz ∧ ∃ r, Cn.toList = olds ++ U ++ r := by
      have sizes : ((olds.toArray ++ U.toArray ++ Builtin.zeroCells zv.cells (grownCap w (l.length + l2.length) cap0 e - (l.length + l2.length)))).size = grownCap w (l.length + l2.length) cap0 e * sz := by
        simp only [Array.size_append, List.size_toArray, size_zeroCells, hzs, hol, hUl, ← Nat.add_mul]
        congr 1
        omega
      have lists : ∃ r, (olds.toArray ++ U.toArray ++ Builtin.zeroCells zv.cells (grownCap w (l.length + l2.length) cap0 e - (l.length + l2.length))).toList = olds ++ U ++ r := ⟨(Builtin.zeroCells zv.cells (grownCap w (l.length + l2.length) cap0 e - (l.length + l2.length))).toList, by simp only [Array.toList_append]⟩
      rw [hse, hxe]
      cases bA with
      | none =>
        obtain ⟨rfl, hl0⟩ := hnone rfl
        have hol0 : olds = [] := List.eq_nil_of_length_eq_zero (by rw [hol, hl0, Nat.zero_mul])
        have hpos : 0 < l2.length := by omega
        have hne : l2 ≠ [] := List.length_pos_iff.1 hpos
        obtain ⟨g, o', rfl, hc⟩ := hUA hne
        have hr := run_append_nil (P := P) w T o.type e it zv hu hi hzr ⟨g, o', none⟩ l2.length c U (by rw [hits]; exact hUl) (fun j v hj => by rw [Addr.add_lit]; exact hc j v hj) hpos (by omega) (by rw [hl0, Nat.zero_add] at hb48; omega)
        simp only [hl0, Nat.zero_add] at sizes lists ⊢
        subst hol0
        simp only [List.nil_append, Array.empty_append] at sizes lists ⊢
        exact ⟨_, _, hr, by simpa [hl0] using hge, (Fr.drew w).trans (Fr.alloc _ _), _, heap_alloc_new w.drew _, sizes, lists⟩
      | some ba =>
        rcases hA with ⟨rfl, h0⟩ | ⟨xa, rfl, hnews⟩
        · omega
        · have hr := run_append_grow (P := P) w T o.type e it zv hu hi hzr ba l.length cap0 olds (by rw [hits]; exact hol) (hold ba rfl) xa l2.length c U (by rw [hits]; exact hUl) hnews hcap hsum (growslice_fits hcap hb48)
          exact ⟨_, _, hr, hge, (Fr.drew w).trans (Fr.alloc _ _), _, heap_alloc_new w.drew _, sizes, lists⟩
    obtain ⟨w', cap, hr, hcp, hf, Cn, hw, hCs, r, hCl⟩ := key
    refine fin _ w' w.heap.size Cn e cap hr (by rw [List.length_append]) (by rw [List.length_append]; exact hcp) (by rw [hCs]; exact Nat.le_refl _) hw (.inr ⟨Nat.le_refl _, hf⟩) ?_
    have hf' : Fr (fun i => i = w.heap.size) w w' := Fr.weak hf fun _ _ x => x.elim
    refine rows_append (fun i row hi => ?_) (fun i row hi => ?_)
    · obtain ⟨g1, g2⟩ := hrows i row hi
      refine ⟨g1, fun j d hj => ?_⟩
      obtain ⟨u, g3, g4⟩ := g2 j d hj
      have hlt := (List.getElem?_eq_some_iff.1 g3).1
      exact ⟨u, by rw [hCl, List.append_assoc, List.getElem?_append_left hlt]; exact g3, newRD w' _ hf' (fun hh => absurd hh (Nat.lt_irrefl _)) d u g4⟩
    · obtain ⟨g1, g2⟩ := hUr i row hi
      refine ⟨g1, fun j d hj => ?_⟩
      obtain ⟨u, g3, g4⟩ := g2 j d hj
      have hlt := (List.getElem?_eq_some_iff.1 g3).1
      refine ⟨u, ?_, newRD w' _ hf' (fun hh => absurd hh (Nat.lt_irrefl _)) d u g4⟩
      rw [hCl, List.append_assoc, List.getElem?_append_right (by rw [hol, Nat.add_mul]; omega), hol, show (l.length + i) * sz + j - l.length * sz = i * sz + j by rw [Nat.add_mul]; omega, List.getElem?_append_left hlt]
      exact g3
  rcases hbox with ⟨hmv, hl0⟩ | ⟨q, Cs, T', hmk, hw, hlen, hrows⟩
  · subst hl0
    rcases hs1 with ⟨_, _, _, bA, hse⟩ | ⟨q, cap, C1, T1, h3, _⟩
    · by_cases hne : l2 = []
      · subst hne
        have hU0 : U = [] := List.eq_nil_of_length_eq_zero (by simpa using hUl)
        have hr : (Builtin.append_ #[T, T] o.type #[a.eval s, a.eval x]).run P w = .ok (.slice bA 0 0) w := by
          rw [hse, hxe]
          have hf : (Builtin.firstCells it.size 0 (.slice A 0 c)).run P w = .ok #[] w := by
            cases A with
            | none => exact run_firstCells_none (P := P) w it.size 0 0 c
            | some xa => exact run_firstCells_some (P := P) w it.size 0 xa 0 c [] (by simp) (fun j v hj => by simp at hj)
          have hf' : (Builtin.firstCells it.size 0 (.slice A ([] : List (List D)).length c)).run P w = .ok #[] w := hf
          cases bA <;> simp [Builtin.append_, run_underlying hu, sizeOf, typeInfo, hi, Builtin.lenOf, hf, storeCells]
        have hC' := hC.killed hb
        unfold Oper.wp
        rw [hex _ _ hr]
        refine hK _ _ (h E _ _ _ _ hE (hC'.value (dOk_iff hd) ?_))
        simp only [RA]
        exact .inl ⟨by simp, trivial, hmv, bA, by simp⟩
      · exact grow bA [] 0 hse (Nat.le_refl _) (fun _ => ⟨rfl, rfl⟩) (by simp) (fun _ _ j v hj => by simp at hj) (by have := List.length_pos_iff.2 hne; simpa using this) (fun i row hi => by simp at hi)
    · rw [hmv] at h3
      cases h3
  · rcases hs1 with ⟨_, _, h3, _⟩ | ⟨q', cap, C1, T1, h3, hse, hlc, hw1, hfit⟩
    · rw [hmk] at h3
      cases h3
    · rw [hmk] at h3
      cases h3
      rw [hw] at hw1
      cases hw1
      simp only [Nat.zero_mul, Nat.zero_add] at hse hfit
      by_cases hroom : l.length + l2.length ≤ cap
      · have hroom' : (l.length + l2.length) * sz ≤ Cs.size := Nat.le_trans (Nat.mul_le_mul_right _ hroom) hfit
        rw [Nat.add_mul] at hroom'
        have hr := run_append_room' (P := P) w T o.type e hu hs q l.length cap Cs T' hw A l2.length c U hUl hA hU1 hroom (by rw [hUl]; exact hroom')
        rw [← hse, ← hxe] at hr
        have hol : (over Cs.toList (l.length * sz) U).length = Cs.size := by rw [over_len _ _ _ (by rw [hUl]; simpa using hroom'), Array.length_toList]
        have hf : Fr (fun i => i = q) w (w.setRow q (over Cs.toList (l.length * sz) U).toArray) := Fr.setRow w q Cs _ T' hw rfl (by simpa using hol)
        refine fin _ _ q _ T' cap hr (by rw [List.length_append]) (by rw [List.length_append]; exact hroom) (by simp [hol]; exact hfit) (setRow_heap w q Cs _ T' (0, 0) hw) (.inl ⟨hmk, hf⟩) ?_
        have hMq : q < w.heap.size → M q := fun _ => hC.mIn b q hmk
        refine rows_append (fun i row hi => ?_) (fun i row hi => ?_)
        · obtain ⟨g1, g2⟩ := hrows i row hi
          refine ⟨g1, fun j d hj => ?_⟩
          obtain ⟨u, g3, g4⟩ := g2 j d hj
          refine ⟨u, ?_, newRD _ q hf hMq d u g4⟩
          have hi' : i < l.length := (List.getElem?_eq_some_iff.1 hi).1
          have hj' : j < sz := by rw [← g1]; exact (List.getElem?_eq_some_iff.1 hj).1
          have : (i + 1) * sz ≤ l.length * sz := Nat.mul_le_mul_right _ hi'
          rw [Nat.add_mul] at this
          rw [over_get _ _ _ (by rw [hUl]; simpa using hroom'), if_neg (by omega)]
          simpa using g3
        · obtain ⟨g1, g2⟩ := hUr i row hi
          refine ⟨g1, fun j d hj => ?_⟩
          obtain ⟨u, g3, g4⟩ := g2 j d hj
          have hlt := (List.getElem?_eq_some_iff.1 g3).1
          refine ⟨u, ?_, newRD _ q hf hMq d u g4⟩
          rw [over_get _ _ _ (by rw [hUl]; simpa using hroom'), if_pos (by rw [Nat.add_mul]; omega), show (l.length + i) * sz + j - l.length * sz = i * sz + j by rw [Nat.add_mul]; omega]
          exact g3
      · refine grow _ (Cs.toList.take (l.length * sz)) cap hse hlc (fun hn => by cases hn) (by simp; omega) (fun ba hba j v hj => ?_) (by omega) (fun i row hi => ?_)
        · cases hba
          rw [Addr.add_lit, Nat.zero_add, cell_of_row w q j Cs T' (0, 0) hw]
          rw [List.getElem?_take] at hj
          split at hj
          · simpa using hj
          · cases hj
        · obtain ⟨g1, g2⟩ := hrows i row hi
          refine ⟨g1, fun j d hj => ?_⟩
          obtain ⟨u, g3, g4⟩ := g2 j d hj
          have hi' : i < l.length := (List.getElem?_eq_some_iff.1 hi).1
          have hj' : j < sz := by rw [← g1]; exact (List.getElem?_eq_some_iff.1 hj).1
          have : (i + 1) * sz ≤ l.length * sz := Nat.mul_le_mul_right _ hi'
          rw [Nat.add_mul] at this
          exact ⟨u, by rw [List.getElem?_take, if_pos (by omega)]; simpa using g3, g4⟩
end
end Go.Proofs.YtbgfiflnfndckaaDoor.Lift

/- The lift, tenth part: a row that becomes data; a row without elements. No conditions: words and their laws. -/
set_option linter.unusedVariables false
set_option linter.unusedSimpArgs false
set_option linter.unusedSectionVars false
namespace Go.Proofs.YtbgfiflnfndckaaDoor.Lift
open Go Go.RowKit

section
variable {P : Program} {W0 : World} {n : Nat}

/-- A slice without room is taken for a row of one's own, without elements. -/
theorem Sb.opn {st : St} {t sz bt : Nat} (h : lk st.env t = some (.d .e)) (hsz : 0 < sz) (hbt : 0 < bt) : Sb W0 n st ⟨st.N, putE st.env t (.sl st.bs.length sz 0 0), st.bs ++ [.vec sz bt []]⟩ := by
  intro E M m a w hn hC
  have hg : ∀ b, m b ≠ .no → mAdd m st.bs.length .virt b = m b := fun b hb => by
    unfold mAdd
    rw [if_neg]
    intro e
    exact hb (hC.mNo b (by omega))
  have at_ : ∀ b k, mAdd m st.bs.length .virt b = .at_ k → m b = .at_ k := fun b k hb => by
    unfold mAdd at hb
    split at hb
    · cases hb
    · exact hb
  refine ⟨M, mAdd m st.bs.length .virt, { hC with mNo := ?_, mIn := fun b k hb => hC.mIn b k (at_ b k hb), inj := fun b b' k hb hb' => hC.inj b b' k (at_ b k hb) (at_ b' k hb'), oldv := ?_, oldr := fun b k hb hk => hC.oldr b k hb (at_ b k hk), new := fun b k hb hk => hC.new b k hb (at_ b k hk), len := ?_, box := ?_, env := ?_ }⟩
  · intro b hb
    simp at hb
    unfold mAdd
    rw [if_neg (by omega)]
    exact hC.mNo b (by omega)
  · intro b cs hb hc
    have := hC.len
    simp only at hc
    rw [List.getElem?_append_left (by omega)] at hc
    rw [← hC.oldv b cs hb hc]
    unfold mAdd
    rw [if_neg (by omega)]
  · have := hC.len
    simp
    omega
  · intro b y hb
    by_cases hlt : b < st.bs.length
    · simp only at hb
      rw [List.getElem?_append_left hlt] at hb
      exact (hC.box b y hb).grow hg
    · have hbe : b = st.bs.length := by
        have := (List.getElem?_eq_some_iff.1 hb).1
        simp at this
        omega
      subst hbe
      simp at hb
      subst hb
      exact ⟨hsz, hbt, by simp, .inl ⟨if_pos rfl, rfl⟩⟩
  · intro t' y hy
    simp only [lk_putE] at hy
    split at hy
    · rename_i e
      subst e
      cases hy
      have h1 := hC.env t' _ h
      simp only [RA] at h1 ⊢
      refine .inl ⟨trivial, trivial, if_pos rfl, ?_⟩
      generalize a.tmps.getD t' undef = u at h1
      cases h1 with
      | e A => exact ⟨A, rfl⟩
    · exact RA.grow hg (hC.env t' y hy)

mutual
/-- A row becomes data: whoever names it has its elements. -/
def fzA (b sz bt : Nat) (l : List (List D)) : AV → AV
  | .ptr b' j => if b' = b then .junk else .ptr b' j
  | .ep b' sz' i j => if b' = b then .junk else .ep b' sz' i j
  | .sl b' sz' lo n => if b' = b then (if sz' = sz ∧ lo + n ≤ l.length then .d (.rows sz bt ((l.drop lo).take n)) else .junk) else .sl b' sz' lo n
  | .fn f x => .fn f (fzL b sz bt l x)
  | .agg x => .agg (fzL b sz bt l x)
  | .tup x => .tup (fzL b sz bt l x)
  | .opt g x => .opt g (fzA b sz bt l x)
  | .mref b' => if b' = b then .junk else .mref b'
  | x => x
def fzL (b sz bt : Nat) (l : List (List D)) : List AV → List AV
  | [] => []
  | x :: xs => fzA b sz bt l x :: fzL b sz bt l xs
end
def fzE (b sz bt : Nat) (l : List (List D)) (e : List (List (Option AV))) : List (List (Option AV)) := mapE (fzA b sz bt l) e
def fzB (b sz bt : Nat) (l : List (List D)) : Box → Box
  | .var cs => .var (fzL b sz bt l cs)
  | .own sz' bt' cs => .own sz' bt' (fzL b sz bt l cs)
  | x => x
theorem fzL_len (b sz bt : Nat) (r : List (List D)) : ∀ l : List AV, (fzL b sz bt r l).length = l.length
  | [] => rfl
  | x :: l => by simp only [fzL, List.length_cons, fzL_len b sz bt r l]

section
variable {M M' : Nat → Prop} {m m' : Nat → Pl} {w : World} {b sz bt : Nat} {l : List (List D)} (hm : ∀ b', b' ≠ b → m' b' = m b') (hM : ∀ k, M' k → M k) (hsl : ∀ lo n u, lo + n ≤ l.length → RA M m w (.sl b sz lo n) u → RD M' w (.rows sz bt ((l.drop lo).take n)) u)
include hm hM hsl
mutual
theorem RA.fz : ∀ (x : AV) (u : Value), RA M m w x u → RA M' m' w (fzA b sz bt l x) u
  | .d x, u, h => by
    simp only [fzA, RA] at h ⊢
    exact h.mono (Fr.refl (fun _ => False) w) (fun _ _ x => x.elim) (fun k _ hk => hM k hk)
  | .dp ds, u, h => by
    simp only [fzA, RA] at h ⊢
    obtain ⟨g, o, h1, h2⟩ := h
    exact ⟨g, o, h1, h2.mono (Fr.refl (fun _ => False) w) (fun _ _ x => x.elim) (fun k _ hk => hM k hk)⟩
  | .ptr b' j, u, h => by
    simp only [fzA]
    split
    · simp only [RA]
    · rename_i e
      simp only [RA] at h ⊢
      rwa [hm b' e]
  | .ep b' sz' i j, u, h => by
    simp only [fzA]
    split
    · simp only [RA]
    · rename_i e
      simp only [RA] at h ⊢
      rwa [hm b' e]
  | .sl b' sz' lo n, u, h => by
    simp only [fzA]
    split
    · rename_i e
      subst e
      split
      · rename_i hc
        obtain ⟨rfl, hle⟩ := hc
        simp only [RA]
        exact hsl lo n u hle h
      · simp only [RA]
    · rename_i e
      simp only [RA] at h ⊢
      rwa [hm b' e]
  | .fn f x, u, h => by
    simp only [fzA, RA] at h ⊢
    obtain ⟨us, h1, h2⟩ := h
    exact ⟨us, h1, RAs.fz _ _ h2⟩
  | .agg x, u, h => by
    simp only [fzA, RA] at h ⊢
    obtain ⟨us, h1, h2⟩ := h
    exact ⟨us, h1, RAs.fz _ _ h2⟩
  | .tup x, u, h => by
    simp only [fzA, RA] at h ⊢
    obtain ⟨us, h1, h2⟩ := h
    exact ⟨us, h1, RAs.fz _ _ h2⟩
  | .opt g x, u, h => by
    simp only [fzA, RA] at h ⊢
    exact fun hg => RA.fz x u (h hg)
  | .mref b', u, h => by
    simp only [fzA]
    split
    · simp only [RA]
    · rename_i e
      simp only [RA] at h ⊢
      rwa [hm b' e]
  | .junk, u, h => by simp only [fzA, RA]
theorem RAs.fz : ∀ (x : List AV) (us : List Value), RAs M m w x us → RAs M' m' w (fzL b sz bt l x) us
  | [], [], h => by simp only [fzL, RAs]
  | x :: xs, u :: us, h => by
    simp only [fzL, RAs] at h ⊢
    exact ⟨RA.fz x u h.1, RAs.fz xs us h.2⟩
  | [], _ :: _, h => by simp only [RAs] at h
  | _ :: _, [], h => by simp only [RAs] at h
end
end
theorem lk_fzE {b sz bt : Nat} {l : List (List D)} {x : List (List (Option AV))} {t : Nat} {y : AV} (h : lk (fzE b sz bt l x) t = some y) : ∃ z, lk x t = some z ∧ y = fzA b sz bt l z := by
  rw [fzE, lk_mapE, Option.map_eq_some_iff] at h
  obtain ⟨z, h1, h2⟩ := h
  exact ⟨z, h1, h2.symm⟩

theorem Sb.freeze {st : St} (b : Nat) {sz bt : Nat} {l : List (List D)} (hb : st.bs[b]? = some (.vec sz bt l)) (hn : n ≤ b) : Sb W0 n st ⟨st.N, fzE b sz bt l st.env, (st.bs.map (fzB b sz bt l)).set b .dead⟩ := by
  intro E M m a w hE h
  have hblt : b < st.bs.length := (List.getElem?_eq_some_iff.1 hb).1
  obtain ⟨hsz, hbt, hb47, hbox⟩ := h.box b _ hb
  have hm : ∀ b', b' ≠ b → mAdd m b .no b' = m b' := fun b' e => if_neg e
  have hmb : mAdd m b .no b = .no := if_pos rfl
  have hMM : ∀ k, (M k ∧ m b ≠ .at_ k) → M k := fun k hk => hk.1
  have at_ : ∀ b' k, mAdd m b .no b' = .at_ k → b' ≠ b ∧ m b' = .at_ k := fun b' k hk => by
    by_cases e : b' = b
    · subst e
      rw [hmb] at hk
      cases hk
    · rw [hm b' e] at hk
      exact ⟨e, hk⟩
  have hsl : ∀ lo n u, lo + n ≤ l.length → RA M m w (.sl b sz lo n) u → RD (fun k => M k ∧ m b ≠ .at_ k) w (.rows sz bt ((l.drop lo).take n)) u := by
    intro lo n u hle hr
    have hlen : ((l.drop lo).take n).length = n := by simp; omega
    have hbn : ((l.drop lo).take n).length * bt ≤ 140737488355328 := Nat.le_trans (Nat.mul_le_mul_right _ (by omega)) hb47
    have get : ∀ (i : Nat) (row : List D), ((l.drop lo).take n)[i]? = some row → l[lo + i]? = some row := fun i row hi => by
      rw [List.getElem?_take] at hi
      split at hi
      · rwa [List.getElem?_drop] at hi
      · cases hi
    simp only [RA] at hr
    rcases hr with ⟨rfl, rfl, _, A, rfl⟩ | ⟨k, cap, C1, T1, h1, rfl, h2, h3, h4⟩
    · have := RD.rows (M := fun k => M k ∧ m b ≠ .at_ k) (w := w) sz bt [] A 0 (fun _ _ => default) hbt (by simp) (by simp) (fun i row h => by simp at h) (fun i row j d h => by simp at h)
      simpa using this
    · rcases hbox with ⟨h5, _⟩ | ⟨k', C2, T2, h5, h6, h7, h8⟩
      · rw [h1] at h5
        cases h5
      · rw [h1] at h5
        cases h5
        have := RD.rows (M := fun i => M i ∧ m b ≠ .at_ i) (w := w) sz bt ((l.drop lo).take n) (some ⟨k, lo * sz, none⟩) cap (fun i j => C2.getD ((lo + i) * sz + j) default) hbt hbn (by omega) (fun i row hi => ?_) (fun i row j d hi hj => ?_)
        · rw [hlen] at this
          exact this
        · obtain ⟨g1, g2⟩ := h8 _ row (get i row hi)
          refine ⟨g1, k, lo * sz, rfl, fun j hj => ⟨fun hk => hk.2 h1, ?_⟩⟩
          obtain ⟨v, g3, _⟩ := g2 j row[j] (List.getElem?_eq_getElem (by omega))
          rw [cell_of_row w k _ C2 T2 (0, 0) h6, show lo * sz + i * sz + j = (lo + i) * sz + j by rw [Nat.add_mul], g3]
          simp [Array.getD_eq_getD_getElem?, g3]
        · obtain ⟨g1, g2⟩ := h8 _ row (get i row hi)
          obtain ⟨v, g3, g4⟩ := g2 j d hj
          have : C2.getD ((lo + i) * sz + j) default = v := by simp [Array.getD_eq_getD_getElem?, g3]
          simp only [this]
          exact g4.mono (Fr.refl (fun _ => False) w) (fun _ _ x => x.elim) (fun k _ hk => hk.1)
  have getb : ∀ (b' : Nat) (y : Box), ((st.bs.map (fzB b sz bt l)).set b .dead)[b']? = some y → (b' = b ∧ y = .dead) ∨ ∃ z, b' ≠ b ∧ st.bs[b']? = some z ∧ y = fzB b sz bt l z := by
    intro b' y hy
    by_cases e : b' = b
    · subst e
      rw [List.getElem?_set_self (by simpa using hblt)] at hy
      cases hy
      exact .inl ⟨rfl, rfl⟩
    · rw [List.getElem?_set_ne (Ne.symm e), List.getElem?_map] at hy
      cases hx : st.bs[b']? with
      | none => simp [hx] at hy
      | some z =>
        simp only [hx, Option.map_some, Option.some.injEq] at hy
        exact .inr ⟨z, e, rfl, hy.symm⟩
  refine ⟨fun k => M k ∧ m b ≠ .at_ k, mAdd m b .no, { h with mLow := fun k hk => h.mLow k hk.1, mUp := ?_, mNew := fun k hk => h.mNew k hk.1, mLt := fun k hk => h.mLt k hk.1, mNo := ?_, mIn := ?_, inj := ?_, oldv := ?_, oldr := fun b' k hb' hk => h.oldr b' k hb' (at_ b' k hk).2, new := fun b' k hb' hk => h.new b' k hb' (at_ b' k hk).2, len := by simpa using h.len, box := ?_, env := ?_ }⟩
  · intro k hk
    refine ⟨h.mUp k hk, fun e => ?_⟩
    have h1 := h.new b k (by omega) e
    have h2 := h.eLt k hk
    omega
  · intro b' hb'
    simp at hb'
    rw [hm b' (by omega)]
    exact h.mNo b' hb'
  · intro b' k hk
    obtain ⟨e, h1⟩ := at_ b' k hk
    exact ⟨h.mIn b' k h1, fun e2 => e (h.inj b' b k h1 e2)⟩
  · intro b1 b2 k h1 h2
    exact h.inj b1 b2 k (at_ b1 k h1).2 (at_ b2 k h2).2
  · intro b' cs hb' hc
    rcases getb b' _ hc with ⟨_, h1⟩ | ⟨z, e, h1, h2⟩
    · cases h1
    · rw [hm b' e]
      cases z <;> simp only [fzB] at h2 <;> first
        | (cases h2; done)
        | exact h.oldv b' _ hb' h1
  · intro b' y hy
    rcases getb b' y hy with ⟨_, rfl⟩ | ⟨z, e, h1, rfl⟩
    · trivial
    · have hz := h.box b' z h1
      cases z with
      | dead => trivial
      | var cs =>
        obtain ⟨q, C, T, h1, h2, h3⟩ := hz
        exact ⟨q, C, T, (hm b' e).trans h1, h2, RAs.fz hm hMM hsl _ _ h3⟩
      | vec sz' bt' l' =>
        have hz' := BoxR.mono (M' := fun k => M k ∧ m b ≠ .at_ k) hz (Fr.refl (fun _ => False) w) (fun _ _ x => x.elim) (fun k _ hk => hk.1) (fun _ _ x => x)
        obtain ⟨g0, g1, g2, g3⟩ := hz'
        refine ⟨g0, g1, g2, ?_⟩
        rcases g3 with ⟨h4, h5⟩ | ⟨q, C, T, h4, h5⟩
        · exact .inl ⟨(hm b' e).trans h4, h5⟩
        · exact .inr ⟨q, C, T, (hm b' e).trans h4, h5⟩
      | mp es =>
        obtain ⟨q, F, c, h1, h2⟩ := hz
        exact ⟨q, F, c, (hm b' e).trans h1, h2⟩
      | own sz' bt' cs =>
        obtain ⟨g0, g1, g2, g3⟩ := hz
        refine ⟨g0, g1, by simpa only [fzL_len] using g2, ?_⟩
        rcases g3 with ⟨h4, h5⟩ | ⟨q, C, T, h4, h5, h6, h7⟩
        · exact .inl ⟨(hm b' e).trans h4, by rw [h5]; rfl⟩
        · refine .inr ⟨q, C, T, (hm b' e).trans h4, h5, by simpa only [fzL_len] using h6, ?_⟩
          rw [fzL_len]
          exact RAs.fz hm hMM hsl _ _ h7
  · intro t y hy
    obtain ⟨z, h1, rfl⟩ := lk_fzE hy
    exact RA.fz hm hMM hsl z _ (h.env t z h1)
end
end Go.Proofs.YtbgfiflnfndckaaDoor.Lift

/- The lift, eleventh part: a call that is handed boxes. No conditions: words and their laws. -/
set_option linter.unusedVariables false
set_option linter.unusedSimpArgs false
namespace Go.Proofs.YtbgfiflnfndckaaDoor.Lift
open Go Go.RowKit

section
variable {P : Program} {W0 : World} {n : Nat}

mutual
/-- Boxes by other numbers. -/
def renA (σ : Nat → Nat) : AV → AV
  | .ptr b j => .ptr (σ b) j
  | .ep b sz i j => .ep (σ b) sz i j
  | .sl b sz lo n => .sl (σ b) sz lo n
  | .fn f l => .fn f (renL σ l)
  | .agg l => .agg (renL σ l)
  | .tup l => .tup (renL σ l)
  | .opt g x => .opt g (renA σ x)
  | .mref b => .mref (σ b)
  | x => x
def renL (σ : Nat → Nat) : List AV → List AV
  | [] => []
  | x :: l => renA σ x :: renL σ l
end
def renB (σ : Nat → Nat) : Box → Box
  | .var cs => .var (renL σ cs)
  | .own sz bt cs => .own sz bt (renL σ cs)
  | x => x
theorem renL_len (σ : Nat → Nat) : ∀ l : List AV, (renL σ l).length = l.length
  | [] => rfl
  | x :: l => by simp only [renL, List.length_cons, renL_len σ l]
mutual
theorem RA.ren {M : Nat → Prop} {m m' : Nat → Pl} {w : World} {σ : Nat → Nat} (hm : ∀ b, m (σ b) ≠ .no → m' b = m (σ b)) : ∀ (x : AV) (u : Value), RA M m w (renA σ x) u → RA M m' w x u
  | .d x, u, h => by simpa only [renA, RA] using h
  | .dp ds, u, h => by simpa only [renA, RA] using h
  | .ptr b j, u, h => by
    simp only [renA, RA] at h ⊢
    obtain ⟨k, h1, h2⟩ := h
    exact ⟨k, (hm b (by simp [h1])).trans h1, h2⟩
  | .ep b sz i j, u, h => by
    simp only [renA, RA] at h ⊢
    obtain ⟨k, h1, h2⟩ := h
    exact ⟨k, (hm b (by simp [h1])).trans h1, h2⟩
  | .sl b sz lo n, u, h => by
    simp only [renA, RA] at h ⊢
    rcases h with ⟨h1, h2, h3, h4⟩ | ⟨k, cap, C, T, h1, h2⟩
    · exact .inl ⟨h1, h2, (hm b (by simp [h3])).trans h3, h4⟩
    · exact .inr ⟨k, cap, C, T, (hm b (by simp [h1])).trans h1, h2⟩
  | .fn f l, u, h => by
    simp only [renA, RA] at h ⊢
    obtain ⟨us, h1, h2⟩ := h
    exact ⟨us, h1, RAs.ren hm _ _ h2⟩
  | .agg l, u, h => by
    simp only [renA, RA] at h ⊢
    obtain ⟨us, h1, h2⟩ := h
    exact ⟨us, h1, RAs.ren hm _ _ h2⟩
  | .tup l, u, h => by
    simp only [renA, RA] at h ⊢
    obtain ⟨us, h1, h2⟩ := h
    exact ⟨us, h1, RAs.ren hm _ _ h2⟩
  | .opt g x, u, h => by
    simp only [renA, RA] at h ⊢
    exact fun hg => RA.ren hm x u (h hg)
  | .mref b, u, h => by
    simp only [renA, RA] at h ⊢
    obtain ⟨k, h1, h2⟩ := h
    exact ⟨k, (hm b (by simp [h1])).trans h1, h2⟩
  | .junk, u, h => by simp only [RA]
theorem RAs.ren {M : Nat → Prop} {m m' : Nat → Pl} {w : World} {σ : Nat → Nat} (hm : ∀ b, m (σ b) ≠ .no → m' b = m (σ b)) : ∀ (l : List AV) (us : List Value), RAs M m w (renL σ l) us → RAs M m' w l us
  | [], [], h => by simp only [RAs]
  | x :: l, u :: us, h => by
    simp only [renL, RAs] at h ⊢
    exact ⟨RA.ren hm x u h.1, RAs.ren hm l us h.2⟩
  | [], _ :: _, h => by simp only [renL, RAs] at h
  | _ :: _, [], h => by simp only [renL, RAs] at h
end
mutual
theorem RA.back {M : Nat → Prop} {m m' : Nat → Pl} {w : World} {σ : Nat → Nat} (hm : ∀ b, m' b ≠ .no → m (σ b) = m' b) : ∀ (x : AV) (u : Value), RA M m' w x u → RA M m w (renA σ x) u
  | .d x, u, h => by simpa only [renA, RA] using h
  | .dp ds, u, h => by simpa only [renA, RA] using h
  | .ptr b j, u, h => by
    simp only [renA, RA] at h ⊢
    obtain ⟨k, h1, h2⟩ := h
    exact ⟨k, (hm b (by simp [h1])).trans h1, h2⟩
  | .ep b sz i j, u, h => by
    simp only [renA, RA] at h ⊢
    obtain ⟨k, h1, h2⟩ := h
    exact ⟨k, (hm b (by simp [h1])).trans h1, h2⟩
  | .sl b sz lo n, u, h => by
    simp only [renA, RA] at h ⊢
    rcases h with ⟨h1, h2, h3, h4⟩ | ⟨k, cap, C, T, h1, h2⟩
    · exact .inl ⟨h1, h2, (hm b (by simp [h3])).trans h3, h4⟩
    · exact .inr ⟨k, cap, C, T, (hm b (by simp [h1])).trans h1, h2⟩
  | .fn f l, u, h => by
    simp only [renA, RA] at h ⊢
    obtain ⟨us, h1, h2⟩ := h
    exact ⟨us, h1, RAs.back hm _ _ h2⟩
  | .agg l, u, h => by
    simp only [renA, RA] at h ⊢
    obtain ⟨us, h1, h2⟩ := h
    exact ⟨us, h1, RAs.back hm _ _ h2⟩
  | .tup l, u, h => by
    simp only [renA, RA] at h ⊢
    obtain ⟨us, h1, h2⟩ := h
    exact ⟨us, h1, RAs.back hm _ _ h2⟩
  | .opt g x, u, h => by
    simp only [renA, RA] at h ⊢
    exact fun hg => RA.back hm x u (h hg)
  | .mref b, u, h => by
    simp only [renA, RA] at h ⊢
    obtain ⟨k, h1, h2⟩ := h
    exact ⟨k, (hm b (by simp [h1])).trans h1, h2⟩
  | .junk, u, h => by simp only [renA, RA]
theorem RAs.back {M : Nat → Prop} {m m' : Nat → Pl} {w : World} {σ : Nat → Nat} (hm : ∀ b, m' b ≠ .no → m (σ b) = m' b) : ∀ (l : List AV) (us : List Value), RAs M m' w l us → RAs M m w (renL σ l) us
  | [], [], h => by simp only [renL, RAs]
  | x :: l, u :: us, h => by
    simp only [renL, RAs] at h ⊢
    exact ⟨RA.back hm x u h.1, RAs.back hm l us h.2⟩
  | [], _ :: _, h => by simp only [RAs] at h
  | _ :: _, [], h => by simp only [RAs] at h
end

mutual
/-- Some boxes are no more what they were. -/
def killP (p : Nat → Bool) : AV → AV
  | .ptr b j => if p b = true then .junk else .ptr b j
  | .ep b sz i j => if p b = true then .junk else .ep b sz i j
  | .sl b sz lo n => if p b = true then .junk else .sl b sz lo n
  | .fn f l => .fn f (killPL p l)
  | .agg l => .agg (killPL p l)
  | .tup l => .tup (killPL p l)
  | .opt g x => .opt g (killP p x)
  | .mref b => if p b = true then .junk else .mref b
  | x => x
def killPL (p : Nat → Bool) : List AV → List AV
  | [] => []
  | x :: l => killP p x :: killPL p l
end
mutual
theorem RA.killP {M : Nat → Prop} {m m' : Nat → Pl} {w : World} {p : Nat → Bool} (hm : ∀ b, p b ≠ true → m b ≠ .no → m' b = m b) : ∀ (x : AV) (u : Value), RA M m w x u → RA M m' w (Lift.killP p x) u
  | .d x, u, h => by simpa only [Lift.killP, RA] using h
  | .dp ds, u, h => by simpa only [Lift.killP, RA] using h
  | .ptr b j, u, h => by
    simp only [Lift.killP]
    split
    · simp only [RA]
    · rename_i e
      simp only [RA] at h ⊢
      obtain ⟨k, h1, h2⟩ := h
      exact ⟨k, (hm b e (by simp [h1])).trans h1, h2⟩
  | .ep b sz i j, u, h => by
    simp only [Lift.killP]
    split
    · simp only [RA]
    · rename_i e
      simp only [RA] at h ⊢
      obtain ⟨k, h1, h2⟩ := h
      exact ⟨k, (hm b e (by simp [h1])).trans h1, h2⟩
  | .sl b sz lo n, u, h => by
    simp only [Lift.killP]
    split
    · simp only [RA]
    · rename_i e
      simp only [RA] at h ⊢
      rcases h with ⟨h1, h2, h3, h4⟩ | ⟨k, cap, C, T, h1, h2⟩
      · exact .inl ⟨h1, h2, (hm b e (by simp [h3])).trans h3, h4⟩
      · exact .inr ⟨k, cap, C, T, (hm b e (by simp [h1])).trans h1, h2⟩
  | .fn f l, u, h => by
    simp only [Lift.killP, RA] at h ⊢
    obtain ⟨us, h1, h2⟩ := h
    exact ⟨us, h1, RAs.killP hm _ _ h2⟩
  | .agg l, u, h => by
    simp only [Lift.killP, RA] at h ⊢
    obtain ⟨us, h1, h2⟩ := h
    exact ⟨us, h1, RAs.killP hm _ _ h2⟩
  | .tup l, u, h => by
    simp only [Lift.killP, RA] at h ⊢
    obtain ⟨us, h1, h2⟩ := h
    exact ⟨us, h1, RAs.killP hm _ _ h2⟩
  | .opt g x, u, h => by
    simp only [Lift.killP, RA] at h ⊢
    exact fun hg => RA.killP hm x u (h hg)
  | .mref b, u, h => by
    simp only [Lift.killP]
    split
    · simp only [RA]
    · rename_i e
      simp only [RA] at h ⊢
      obtain ⟨k, h1, h2⟩ := h
      exact ⟨k, (hm b e (by simp [h1])).trans h1, h2⟩
  | .junk, u, h => by simp only [Lift.killP, RA]
theorem RAs.killP {M : Nat → Prop} {m m' : Nat → Pl} {w : World} {p : Nat → Bool} (hm : ∀ b, p b ≠ true → m b ≠ .no → m' b = m b) : ∀ (l : List AV) (us : List Value), RAs M m w l us → RAs M m' w (killPL p l) us
  | [], [], h => by simp only [killPL, RAs]
  | x :: l, u :: us, h => by
    simp only [killPL, RAs] at h ⊢
    exact ⟨RA.killP hm x u h.1, RAs.killP hm l us h.2⟩
  | [], _ :: _, h => by simp only [RAs] at h
  | _ :: _, [], h => by simp only [RAs] at h
end
def killPE (p : Nat → Bool) (e : List (List (Option AV))) : List (List (Option AV)) := mapE (killP p) e
def killPB (p : Nat → Bool) : Box → Box
  | .var cs => .var (killPL p cs)
  | .own sz bt cs => .own sz bt (killPL p cs)
  | x => x
theorem killPL_len (p : Nat → Bool) : ∀ l : List AV, (killPL p l).length = l.length
  | [] => rfl
  | x :: l => by simp only [killPL, List.length_cons, killPL_len p l]
theorem lk_killPE {p : Nat → Bool} {l : List (List (Option AV))} {t : Nat} {x : AV} (h : lk (killPE p l) t = some x) : ∃ y, lk l t = some y ∧ x = killP p y := by
  rw [killPE, lk_mapE, Option.map_eq_some_iff] at h
  obtain ⟨y, h1, h2⟩ := h
  exact ⟨y, h1, h2.symm⟩

/-- The callee's numbers as the caller's: first those that it was handed, then new ones. -/
def sg (sel : List Nat) (k i : Nat) : Nat := match sel[i]? with | some b => b | none => k + (i - sel.length)
def setAll (bs : List Box) : List Nat → List Box → List Box
  | b :: sel, x :: L => setAll (bs.set b x) sel L
  | _, _ => bs
theorem setAll_len : ∀ (sel : List Nat) (L bs : List Box), (setAll bs sel L).length = bs.length
  | [], _, _ => by simp [setAll]
  | _ :: _, [], _ => by simp [setAll]
  | b :: sel, x :: L, bs => by simp [setAll, setAll_len sel L]
theorem setAll_get : ∀ (sel : List Nat) (L bs : List Box) (b : Nat), sel.Nodup → (∀ b ∈ sel, b < bs.length) → sel.length ≤ L.length →
    (∀ i : Nat, sel[i]? = some b → (setAll bs sel L)[b]? = L[i]?) ∧ (b ∉ sel → (setAll bs sel L)[b]? = bs[b]?)
  | [], L, bs, b, _, _, _ => ⟨fun i h => by simp at h, fun _ => by simp [setAll]⟩
  | c :: sel, [], bs, b, _, _, h => by simp at h
  | c :: sel, x :: L, bs, b, hn, hlt, hl => by
    simp only [List.nodup_cons] at hn
    obtain ⟨h1, h2⟩ := setAll_get sel L (bs.set c x) b hn.2 (fun b hb => by simpa using hlt b (by simp [hb])) (by simpa using hl)
    refine ⟨fun i hi => ?_, fun hb => ?_⟩
    · cases i with
      | zero =>
        simp only [List.getElem?_cons_zero, Option.some.injEq] at hi
        subst hi
        simp only [setAll, List.getElem?_cons_zero]
        rw [h2 hn.1, List.getElem?_set_self (hlt c (by simp))]
      | succ i =>
        simp only [List.getElem?_cons_succ] at hi ⊢
        exact h1 i hi
    · simp only [List.mem_cons, not_or] at hb
      simp only [setAll]
      rw [h2 hb.2, List.getElem?_set_ne (Ne.symm hb.1)]
def isVar : Box → Bool
  | .var _ => true
  | _ => false
/-- The boxes that were handed and may lie elsewhere now. -/
def moved : List Nat → List Box → List Box → Nat → Bool
  | b :: sel, x :: L, y :: L', c => (b == c && !(isVar x && isVar y)) || moved sel L L' c
  | _, _, _, _ => false
theorem moved_get : ∀ {sel : List Nat} {L L' : List Box} {c i : Nat}, sel[i]? = some c → moved sel L L' c ≠ true → ∀ {x y : Box}, L[i]? = some x → L'[i]? = some y → isVar x = true ∧ isVar y = true
  | [], L, L', c, i, h, _, _, _, _, _ => by simp at h
  | b :: sel, [], L', c, i, h, _, x, y, hx, _ => by simp at hx
  | b :: sel, x' :: L, [], c, i, h, _, x, y, _, hy => by simp at hy
  | b :: sel, x' :: L, y' :: L', c, 0, h, hm, x, y, hx, hy => by
    simp only [List.getElem?_cons_zero, Option.some.injEq] at h hx hy
    subst h
    subst hx
    subst hy
    simp only [moved, beq_self_eq_true, Bool.true_and, ne_eq, Bool.or_eq_true, not_or, Bool.not_eq_true', Bool.not_eq_false] at hm
    simpa using hm.1
  | b :: sel, x' :: L, y' :: L', c, i + 1, h, hm, x, y, hx, hy => by
    simp only [List.getElem?_cons_succ] at h hx hy
    simp only [moved, ne_eq, Bool.or_eq_true, not_or] at hm
    exact moved_get h hm.2 hx hy
/-- A box that is a variable behind the call was one ahead of it. -/
def kindsOk : List Box → List Box → Bool
  | x :: L, y :: L' => (!isVar y || isVar x) && kindsOk L L'
  | _, _ => true
theorem kindsOk_get : ∀ {L L' : List Box} {i : Nat} {x y : Box}, kindsOk L L' = true → L[i]? = some x → L'[i]? = some y → isVar y = true → isVar x = true
  | [], _, _, _, _, _, hx, _, _ => by simp at hx
  | _ :: _, [], _, _, _, _, _, hy, _ => by simp at hy
  | x' :: L, y' :: L', 0, x, y, h, hx, hy, hv => by
    simp only [List.getElem?_cons_zero, Option.some.injEq] at hx hy
    subst hx
    subst hy
    simp only [kindsOk, hv, Bool.not_true, Bool.false_or, Bool.and_eq_true] at h
    exact h.1
  | x' :: L, y' :: L', i + 1, x, y, h, hx, hy, hv => by
    simp only [List.getElem?_cons_succ] at hx hy
    simp only [kindsOk, Bool.and_eq_true] at h
    exact kindsOk_get h.2 hx hy hv

/-- The state behind such a call. -/
def St.aft (st : St) (sel : List Nat) (L L' : List Box) : St :=
  ⟨st.N, killPE (moved sel L L') st.env, setAll (st.bs.map (killPB (moved sel L L'))) sel (L'.map (renB (sg sel st.bs.length))) ++ (L'.drop sel.length).map (renB (sg sel st.bs.length))⟩

theorem sg_lt {sel : List Nat} {k i b : Nat} (h : sel[i]? = some b) : sg sel k i = b := by simp [sg, h]
theorem sg_ge {sel : List Nat} {k i : Nat} (h : sel.length ≤ i) : sg sel k i = k + (i - sel.length) := by simp [sg, List.getElem?_eq_none h]

theorem C.calleeB {E : En} {M : Nat → Prop} {m : Nat → Pl} {st : St} {a : Act} {w : World} (h : C W0 E M m st a w) {sel : List Nat} {L : List Box} (hn : sel.Nodup) (hlen : L.length = sel.length) (hL : ∀ (i b : Nat), sel[i]? = some b → st.bs[b]? = (L[i]?).map (renB (sg sel st.bs.length))) :
    C W0 ⟨w, M, fun i => m (sg sel st.bs.length i), L.length⟩ M (fun i => m (sg sel st.bs.length i)) ⟨0, [], L⟩ nobody w where
  base := h.base
  fr := Fr.refl _ _
  eLt := h.mLt
  mLow := h.mLow
  mUp := fun _ x => x
  mNew := fun _ x => .inl x
  mLt := h.mLt
  mNo := fun b hb => by
    simp only at hb
    simp only [sg_ge (k := st.bs.length) (show sel.length ≤ b by omega)]
    exact h.mNo _ (by omega)
  mIn := fun b k hb => h.mIn _ k hb
  inj := fun b b' k hb hb' => by
    have key : ∀ c, m (sg sel st.bs.length c) = .at_ k → ∃ d, sel[c]? = some d ∧ m d = .at_ k := fun c hc => by
      rcases Nat.lt_or_ge c sel.length with h1 | h1
      · exact ⟨sel[c], List.getElem?_eq_getElem h1, by rwa [sg_lt (List.getElem?_eq_getElem h1)] at hc⟩
      · rw [sg_ge h1, h.mNo _ (by omega)] at hc
        cases hc
    obtain ⟨d, h1, h2⟩ := key b hb
    obtain ⟨d', h3, h4⟩ := key b' hb'
    have hd := h.inj d d' k h2 h4
    subst hd
    obtain ⟨q1, e1⟩ := List.getElem?_eq_some_iff.1 h1
    obtain ⟨q2, e2⟩ := List.getElem?_eq_some_iff.1 h3
    exact (List.getElem_inj (xs := sel) hn).1 (e1.trans e2.symm)
  oldv := fun b cs hb hc => rfl
  oldr := fun b k hb hk => .inl hk
  new := fun b k hb hk => by
    simp only at hb hk
    rw [sg_ge (show sel.length ≤ b by omega), h.mNo _ (by omega)] at hk
    cases hk
  len := Nat.le_refl _
  box := fun i x hx => by
    have hi : i < L.length := (List.getElem?_eq_some_iff.1 hx).1
    have hb : sel[i]? = some sel[i] := List.getElem?_eq_getElem (by omega)
    have h1 := hL i _ hb
    rw [hx, Option.map_some] at h1
    have h2 := h.box _ _ h1
    cases x with
    | dead => trivial
    | var cs =>
      obtain ⟨k, Cs, T, h3, h4, h5⟩ := h2
      exact ⟨k, Cs, T, by simp only [sg_lt hb]; exact h3, h4, RAs.ren (σ := sg sel st.bs.length) (fun b _ => rfl) _ _ h5⟩
    | vec sz bt l =>
      obtain ⟨g0, g1, g2, g3⟩ := h2
      refine ⟨g0, g1, g2, ?_⟩
      simp only [sg_lt hb]
      exact g3
    | mp es =>
      obtain ⟨k, F, c, h3, h4⟩ := h2
      exact ⟨k, F, c, by simp only [sg_lt hb]; exact h3, h4⟩
    | own sz bt cs =>
      obtain ⟨g0, g1, g2, g3⟩ := h2
      refine ⟨g0, g1, by simpa only [renL_len] using g2, ?_⟩
      simp only [sg_lt hb]
      rcases g3 with ⟨h4, h5⟩ | ⟨q, Cs, T, h4, h5, h6, h7⟩
      · exact .inl ⟨h4, List.eq_nil_of_length_eq_zero (by rw [← renL_len (sg sel st.bs.length), h5]; rfl)⟩
      · rw [renL_len] at h6 h7
        exact .inr ⟨q, Cs, T, h4, h5, h6, RAs.ren (σ := sg sel st.bs.length) (fun b _ => rfl) _ _ h7⟩
  env := fun t x hx => by simp [lk_nil] at hx
  wide := rfl
  defers := rfl

theorem C.aftB {E : En} {M M' : Nat → Prop} {m mc : Nat → Pl} {st : St} {a : Act} {w w' : World} (h : C W0 E M m st a w) {sel : List Nat} {L L' : List Box} (hn : sel.Nodup) (hlen : L.length = sel.length) (hL : ∀ (i b : Nat), sel[i]? = some b → st.bs[b]? = (L[i]?).map (renB (sg sel st.bs.length)))
    (h' : C W0 ⟨w, M, fun i => m (sg sel st.bs.length i), L.length⟩ M' mc ⟨0, [], L'⟩ nobody w') (hk : kindsOk L L' = true) :
    ∃ m', C W0 E M' m' (st.aft sel L L') a w' ∧ ∀ x u, RA M' mc w' x u → RA M' m' w' (renA (sg sel st.bs.length) x) u := by
  have hlt : ∀ b ∈ sel, b < st.bs.length := fun b hb => by
    obtain ⟨i, hi⟩ := List.mem_iff_getElem?.1 hb
    have h1 := hL i b hi
    have h2 : i < L.length := by rw [hlen]; exact (List.getElem?_eq_some_iff.1 hi).1
    rw [List.getElem?_eq_getElem h2] at h1
    exact (List.getElem?_eq_some_iff.1 h1).1
  have hlen' : L.length ≤ L'.length := h'.len
  have idx : ∀ b ∈ sel, ∃ i, sel[i]? = some b ∧ i < sel.length := fun b hb => by
    obtain ⟨i, hi⟩ := List.mem_iff_getElem?.1 hb
    exact ⟨i, hi, (List.getElem?_eq_some_iff.1 hi).1⟩
  -- where the boxes lie now
  let m' : Nat → Pl := fun b => if b < st.bs.length then (match sel.idxOf? b with | some i => mc i | none => m b) else mc (b - st.bs.length + sel.length)
  have m_sel : ∀ i b, sel[i]? = some b → m' b = mc i := fun i b hi => by
    have hb := hlt b (List.mem_of_getElem? hi)
    have : sel.idxOf? b = some i := by
      obtain ⟨q, e⟩ := List.getElem?_eq_some_iff.1 hi
      subst e
      rw [List.idxOf?_eq_some_iff]
      refine ⟨q, by simp, fun j hj => ?_⟩
      have hjq : j < sel.length := by omega
      intro e
      have e' : sel[j] = sel[i] := by simpa using e
      have := (List.getElem_inj (xs := sel) hn).1 e'
      omega
    simp only [m', if_pos hb, this]
  have m_old : ∀ b, b < st.bs.length → b ∉ sel → m' b = m b := fun b hb hs => by
    have : sel.idxOf? b = none := by rw [List.idxOf?_eq_none_iff]; exact hs
    simp only [m', if_pos hb, this]
  have m_new : ∀ b, st.bs.length ≤ b → m' b = mc (b - st.bs.length + sel.length) := fun b hb => by simp only [m', if_neg (Nat.not_lt.2 hb)]
  have m_sg : ∀ i, mc i ≠ .no → m' (sg sel st.bs.length i) = mc i := fun i hi => by
    rcases Nat.lt_or_ge i sel.length with h1 | h1
    · have h2 : sel[i]? = some sel[i] := List.getElem?_eq_getElem h1
      rw [sg_lt h2]
      exact m_sel i _ h2
    · rw [sg_ge h1, m_new _ (by omega)]
      congr 1
      omega
  have cases_ : ∀ b k, m' b = .at_ k → (∃ i, sel[i]? = some b ∧ mc i = .at_ k) ∨ (b < st.bs.length ∧ b ∉ sel ∧ m b = .at_ k) ∨ (st.bs.length ≤ b ∧ mc (b - st.bs.length + sel.length) = .at_ k) := fun b k hb => by
    rcases Nat.lt_or_ge b st.bs.length with h1 | h1
    · by_cases h2 : b ∈ sel
      · obtain ⟨i, hi, _⟩ := idx b h2
        rw [m_sel i b hi] at hb
        exact .inl ⟨i, hi, hb⟩
      · rw [m_old b h1 h2] at hb
        exact .inr (.inl ⟨h1, h2, hb⟩)
    · rw [m_new b h1] at hb
      exact .inr (.inr ⟨h1, hb⟩)
  let ES : Nat → Prop := fun k => ∃ b, b < L.length ∧ m (sg sel st.bs.length b) = .at_ k
  have hf : Fr ES w w' := h'.fr
  have ES_M : ∀ k, k < w.heap.size → ES k → M k := fun k _ ⟨b, _, hb⟩ => h.mIn _ k hb
  have ES_sel : ∀ k, ES k → ∃ b ∈ sel, m b = .at_ k := fun k ⟨b, hb, hk⟩ => by
    have h1 : sel[b]? = some sel[b] := List.getElem?_eq_getElem (by omega)
    rw [sg_lt h1] at hk
    exact ⟨_, List.mem_of_getElem? h1, hk⟩
  have hM : ∀ k, k < w.heap.size → M' k → M k := fun k hk hm => (h'.mNew k hm).resolve_right (by simp; omega)
  have far : ∀ b k, b ∉ sel → m b = .at_ k → ¬ ES k := fun b k hb hk he => by
    obtain ⟨c, hc, hck⟩ := ES_sel k he
    exact hb (h.inj b c k hk hck ▸ hc)
  have mc_old : ∀ i k, mc i = .at_ k → (∃ b, sel[i]? = some b ∧ m b = .at_ k) ∨ w.heap.size ≤ k := fun i k hi => by
    rcases Nat.lt_or_ge i L.length with h1 | h1
    · rcases h'.oldr i k h1 hi with h2 | h2
      · have h3 : sel[i]? = some sel[i] := List.getElem?_eq_getElem (by omega)
        simp only [sg_lt h3] at h2
        exact .inl ⟨_, h3, h2⟩
      · exact .inr h2
    · exact .inr (h'.new i k h1 hi)
  have kill : ∀ b, moved sel L L' b ≠ true → m b ≠ .no → m' b = m b := fun b hp hno => by
    have hb : b < st.bs.length := by
      rcases Nat.lt_or_ge b st.bs.length with h1 | h1
      · exact h1
      · exact absurd (h.mNo b h1) hno
    by_cases hs : b ∈ sel
    · obtain ⟨i, hi, hil⟩ := idx b hs
      rw [m_sel i b hi]
      have hx : L[i]? = some L[i] := List.getElem?_eq_getElem (by omega)
      have hy : L'[i]? = some L'[i] := List.getElem?_eq_getElem (by omega)
      obtain ⟨_, hv⟩ := moved_get hi hp hx hy
      cases hyv : L'[i] with
      | var cs =>
        have := h'.oldv i cs (show i < L.length by omega) (by simp only; rw [hy, hyv])
        simp only [sg_lt hi] at this
        exact this
      | dead => rw [hyv] at hv; cases hv
      | vec sz bt l => rw [hyv] at hv; cases hv
      | mp es => rw [hyv] at hv; cases hv
      | own sz bt cs => rw [hyv] at hv; cases hv
    · exact m_old b hb hs
  have getb : ∀ (b : Nat) (y : Box), (st.aft sel L L').bs[b]? = some y → (∃ i z, sel[i]? = some b ∧ L'[i]? = some z ∧ y = renB (sg sel st.bs.length) z) ∨ (∃ z, b < st.bs.length ∧ b ∉ sel ∧ st.bs[b]? = some z ∧ y = killPB (moved sel L L') z) ∨
      (∃ z, st.bs.length ≤ b ∧ L'[b - st.bs.length + sel.length]? = some z ∧ y = renB (sg sel st.bs.length) z) := fun b y hy => by
    simp only [St.aft] at hy
    have hl : (setAll (st.bs.map (killPB (moved sel L L'))) sel (L'.map (renB (sg sel st.bs.length)))).length = st.bs.length := by rw [setAll_len, List.length_map]
    obtain ⟨g1, g2⟩ := setAll_get sel (L'.map (renB (sg sel st.bs.length))) (st.bs.map (killPB (moved sel L L'))) b hn (fun b hb => by simpa using hlt b hb) (by simp; omega)
    rcases Nat.lt_or_ge b st.bs.length with h1 | h1
    · rw [List.getElem?_append_left (by omega)] at hy
      by_cases hs : b ∈ sel
      · obtain ⟨i, hi, _⟩ := idx b hs
        rw [g1 i hi, List.getElem?_map] at hy
        cases hz : L'[i]? with
        | none => simp [hz] at hy
        | some z =>
          simp only [hz, Option.map_some, Option.some.injEq] at hy
          exact .inl ⟨i, z, hi, hz, hy.symm⟩
      · rw [g2 hs, List.getElem?_map] at hy
        cases hz : st.bs[b]? with
        | none => simp [hz] at hy
        | some z =>
          simp only [hz, Option.map_some, Option.some.injEq] at hy
          exact .inr (.inl ⟨z, h1, hs, rfl, hy.symm⟩)
    · rw [List.getElem?_append_right (by omega), hl, List.getElem?_map, List.getElem?_drop] at hy
      rw [show b - st.bs.length + sel.length = sel.length + (b - st.bs.length) by omega]
      cases hz : L'[sel.length + (b - st.bs.length)]? with
      | none => simp [hz] at hy
      | some z =>
        simp only [hz, Option.map_some, Option.some.injEq] at hy
        exact .inr (.inr ⟨z, h1, rfl, hy.symm⟩)
  have boxren : ∀ (i b : Nat) (z : Box), m' b = mc i → BoxR M' mc w' i z → BoxR M' m' w' b (renB (sg sel st.bs.length) z) := fun i b z hb hz => by
    cases z with
    | dead => trivial
    | var cs =>
      obtain ⟨k, Cs, T, h3, h4, h5⟩ := hz
      exact ⟨k, Cs, T, hb.trans h3, h4, RAs.back m_sg _ _ h5⟩
    | vec sz bt l =>
      obtain ⟨g0, g1, g2, g3⟩ := hz
      refine ⟨g0, g1, g2, ?_⟩
      rw [hb]
      exact g3
    | mp es =>
      obtain ⟨k, F, c, h3, h4⟩ := hz
      exact ⟨k, F, c, hb.trans h3, h4⟩
    | own sz bt cs =>
      obtain ⟨g0, g1, g2, g3⟩ := hz
      refine ⟨g0, g1, by simpa only [renL_len] using g2, ?_⟩
      rw [hb]
      rcases g3 with ⟨h4, h5⟩ | ⟨q, Cs, T, h4, h5, h6, h7⟩
      · exact .inl ⟨h4, by rw [h5]; rfl⟩
      · refine .inr ⟨q, Cs, T, h4, h5, by simpa only [renL_len] using h6, ?_⟩
        rw [renL_len]
        exact RAs.back m_sg _ _ h7
  refine ⟨m', {
    base := h'.base
    fr := ?_
    eLt := h.eLt
    mLow := h'.mLow
    mUp := fun k hk => h'.mUp k (h.mUp k hk)
    mNew := fun k hk => (h'.mNew k hk).elim (h.mNew k) fun hw => .inr (Nat.le_trans h.fr.size hw)
    mLt := h'.mLt
    mNo := ?_
    mIn := ?_
    inj := ?_
    oldv := ?_
    oldr := ?_
    new := ?_
    len := ?_
    box := ?_
    env := ?_
    wide := h.wide
    defers := h.defers }, fun x u hx => RA.back m_sg x u hx⟩
  · refine ⟨hf.os.trans h.fr.os, hf.tape.trans h.fr.tape, hf.output.trans h.fr.output, Nat.le_trans h.fr.size hf.size, fun i hi he => ?_, fun i D t hi => ?_⟩
    · refine (hf.block i (Nat.lt_of_lt_of_le hi h.fr.size) fun e => ?_).trans (h.fr.block i hi he)
      obtain ⟨b, _, hb⟩ := ES_sel i e
      rcases h.own hb with h1 | h1
      · exact he h1
      · omega
    · obtain ⟨D', h1, h2⟩ := h.fr.keep i D t hi
      obtain ⟨D'', h3, h4⟩ := hf.keep i D' t h1
      exact ⟨D'', h3, h4.trans h2⟩
  · intro b hb
    simp only [St.aft, List.length_append, setAll_len, List.length_map, List.length_drop] at hb
    rw [m_new b (by omega)]
    exact h'.mNo _ (by simp only; omega)
  · intro b k hb
    rcases cases_ b k hb with ⟨i, _, h1⟩ | ⟨_, _, h1⟩ | ⟨_, h1⟩
    · exact h'.mIn i k h1
    · exact h'.mUp k (h.mIn b k h1)
    · exact h'.mIn _ k h1
  · intro b b' k hb hb'
    have cross : ∀ b b', (∃ i, mc i = .at_ k ∧ ∀ c, sel[i]? = some c → c = b) → (b' < st.bs.length ∧ b' ∉ sel ∧ m b' = .at_ k) → False := fun b b' ⟨i, hi, _⟩ ⟨h1, h2, h3⟩ => by
      rcases mc_old i k hi with ⟨c, hc, hck⟩ | hw
      · exact h2 (h.inj b' c k h3 hck ▸ List.mem_of_getElem? hc)
      · have := h.mLt k (h.mIn b' k h3)
        omega
    rcases cases_ b k hb with ⟨i, h1, h1'⟩ | h1 | ⟨h1, h1'⟩ <;> rcases cases_ b' k hb' with ⟨j, h2, h2'⟩ | h2 | ⟨h2, h2'⟩
    · have := h'.inj i j k h1' h2'
      subst this
      rw [h1] at h2
      cases h2
      rfl
    · exact (cross b b' ⟨i, h1', fun c hc => by rw [h1] at hc; cases hc; rfl⟩ h2).elim
    · have e := h'.inj i _ k h1' h2'
      have := (List.getElem?_eq_some_iff.1 h1).1
      omega
    · exact (cross b' b ⟨j, h2', fun c hc => by rw [h2] at hc; cases hc; rfl⟩ h1).elim
    · exact h.inj b b' k h1.2.2 h2.2.2
    · exact (cross b' b ⟨_, h2', fun c hc => by have := (List.getElem?_eq_some_iff.1 hc).1; omega⟩ h1).elim
    · have e := h'.inj _ j k h1' h2'
      have := (List.getElem?_eq_some_iff.1 h2).1
      omega
    · exact (cross b b' ⟨_, h1', fun c hc => by have := (List.getElem?_eq_some_iff.1 hc).1; omega⟩ h2).elim
    · have e := h'.inj _ _ k h1' h2'
      omega
  · intro b cs hb hc
    have hbl : b < st.bs.length := Nat.lt_of_lt_of_le hb h.len
    rcases getb b _ hc with ⟨i, z, hi, hz, e⟩ | ⟨z, _, hs, hz, e⟩ | ⟨z, hz, _⟩
    · have hil : i < L.length := by have := (List.getElem?_eq_some_iff.1 hi).1; omega
      have hzv : isVar z = true := by cases z <;> simp only [renB] at e <;> first | (cases e; done) | rfl
      have hx : L[i]? = some L[i] := List.getElem?_eq_getElem hil
      have hxv := kindsOk_get hk hx hz hzv
      rw [m_sel i b hi]
      have h1 := hL i b hi
      rw [hx, Option.map_some] at h1
      cases hLi : L[i] with
      | var cs0 =>
        rw [hLi] at h1
        have h2 := h.oldv b _ hb h1
        cases z with
        | var zs =>
          have h3 := h'.oldv i zs hil hz
          simp only [sg_lt hi] at h3
          exact h3.trans h2
        | dead => cases hzv
        | vec => cases hzv
        | mp => cases hzv
        | own => cases hzv
      | dead => rw [hLi] at hxv; cases hxv
      | vec => rw [hLi] at hxv; cases hxv
      | mp => rw [hLi] at hxv; cases hxv
      | own => rw [hLi] at hxv; cases hxv
    · rw [m_old b hbl hs]
      cases z <;> simp only [killPB] at e <;> first
        | (cases e; done)
        | exact h.oldv b _ hb hz
    · omega
  · intro b k hb hbk
    have hbl : b < st.bs.length := Nat.lt_of_lt_of_le hb h.len
    rcases cases_ b k hbk with ⟨i, h1, h1'⟩ | ⟨_, _, h1⟩ | ⟨h1, _⟩
    · rcases mc_old i k h1' with ⟨c, hc, hck⟩ | hw
      · rw [h1] at hc
        cases hc
        exact h.oldr b k hb hck
      · exact .inr (Nat.le_trans h.fr.size hw)
    · exact h.oldr b k hb h1
    · omega
  · intro b k hb hbk
    rcases cases_ b k hbk with ⟨i, h1, h1'⟩ | ⟨_, _, h1⟩ | ⟨_, h1'⟩
    · rcases mc_old i k h1' with ⟨c, hc, hck⟩ | hw
      · rw [h1] at hc
        cases hc
        exact h.new b k hb hck
      · exact Nat.le_trans h.fr.size hw
    · exact h.new b k hb h1
    · rcases mc_old _ k h1' with ⟨c, hc, hck⟩ | hw
      · have := (List.getElem?_eq_some_iff.1 hc).1
        omega
      · exact Nat.le_trans h.fr.size hw
  · have := h.len
    simp only [St.aft, List.length_append, setAll_len, List.length_map]
    omega
  · intro b y hy
    rcases getb b y hy with ⟨i, z, hi, hz, rfl⟩ | ⟨z, hbl, hs, hz, rfl⟩ | ⟨z, hbl, hz, rfl⟩
    · exact boxren i b z (m_sel i b hi) (h'.box i z hz)
    · have h1 := (h.box b z hz).mono hf ES_M hM fun k hk => far b k hs hk
      cases z with
      | dead => trivial
      | var cs =>
        obtain ⟨k, Cs, T, h3, h4, h5⟩ := h1
        exact ⟨k, Cs, T, (m_old b hbl hs).trans h3, h4, RAs.killP kill _ _ h5⟩
      | vec sz bt l =>
        obtain ⟨g0, g1, g2, g3⟩ := h1
        refine ⟨g0, g1, g2, ?_⟩
        rw [m_old b hbl hs]
        exact g3
      | mp es =>
        obtain ⟨k, F, c, h3, h4⟩ := h1
        exact ⟨k, F, c, (m_old b hbl hs).trans h3, h4⟩
      | own sz bt cs =>
        obtain ⟨g0, g1, g2, g3⟩ := h1
        refine ⟨g0, g1, by simpa only [killPL_len] using g2, ?_⟩
        rw [m_old b hbl hs]
        rcases g3 with ⟨h4, h5⟩ | ⟨q, Cs, T, h4, h5, h6, h7⟩
        · exact .inl ⟨h4, by rw [h5]; rfl⟩
        · refine .inr ⟨q, Cs, T, h4, h5, by simpa only [killPL_len] using h6, ?_⟩
          rw [killPL_len]
          exact RAs.killP kill _ _ h7
    · exact boxren _ b z (m_new b hbl) (h'.box _ z hz)
  · intro t x hx
    obtain ⟨y, h1, rfl⟩ := lk_killPE hx
    exact RA.killP kill _ _ (RA.mono hf ES_M hM y _ (h.env t y h1))

/-- A call that is handed some boxes. -/
theorem A_callB {Q : Ax → St → Prop} {st : St} {ops : Array Oper} {o : Oper} {rest : List Oper} {fo : Operand} {args : Array Operand} {ts : Array TypeId} {f : FuncId} {caps xs : List AV} (sel : List Nat) {cargs : List AV} {L : List Box} {R : Res → List Box → Prop} (hcall : ACalls P W0 f cargs L R)
    (hg : o.guard = none) (ho : o.op = .call ⟨.value fo, args, ts⟩) (hf : evo (lk st.env) fo = some (.fn f caps)) (ha : evl (lk st.env) args.toList = some xs) (hc : callable P f = true) (hd : dOk st.N o.dst = true)
    (hn : sel.Nodup) (hlen : L.length = sel.length) (hL : ∀ (i b : Nat), sel[i]? = some b → st.bs[b]? = (L[i]?).map (renB (sg sel st.bs.length))) (hargs : renL (sg sel st.bs.length) cargs = xs ++ caps)
    (h : ∀ r L', R r L' → kindsOk L L' = true ∧ match r with | .ret x => AOps P W0 n ops rest Q ((st.aft sel L L').put o.dst (renA (sg sel st.bs.length) x)) | .panic x => Q (.panic (renA (sg sel st.bs.length) x)) (st.aft sel L L')) : AOps P W0 n ops (o :: rest) Q st := by
  intro E M m a w hE hC
  refine wpList_plain hg fun K hK => ?_
  obtain ⟨us, h1, h2⟩ := run_call (P := P) hC ho hf ha hc
  unfold Oper.wp
  rw [h1, Oper.upon_enter]
  refine (hcall M _ w us (hC.calleeB hn hlen hL) (RAs.ren (σ := sg sel st.bs.length) (fun b _ => rfl) _ _ (by rw [hargs]; exact h2))).mono ?_
  rintro e w' ⟨r, L', M', m', hR, hres, hC'⟩
  obtain ⟨hk, hr⟩ := h r L' hR
  obtain ⟨m'', hC2, hx⟩ := hC.aftB hn hlen hL hC' hk
  cases r with
  | ret x =>
    cases e with
    | returned u => exact hK _ _ (hr E M' m'' _ _ hE (hC2.value (dOk_iff hd) (hx x u hres)))
    | panicked c => exact hres.elim
    | outgrown => exact hres.elim
  | panic x =>
    cases e with
    | returned u => exact hres.elim
    | panicked c =>
      obtain ⟨u, rfl, h3⟩ := hres
      exact ⟨M', m'', _, .panic _, hC2, hr, u, rfl, hx x u h3⟩
    | outgrown => exact hres.elim
end
end Go.Proofs.YtbgfiflnfndckaaDoor.Lift

/- The lift, twelfth part: quiet regions with their guards' temporaries given; what the simplifier need not look at. No conditions: words and their laws. -/
set_option linter.unusedVariables false
set_option linter.unusedSimpArgs false
namespace Go.Proofs.YtbgfiflnfndckaaDoor.Lift
open Go Go.RowKit

section
variable {P : Program} {W0 : World} {n : Nat}

@[congr] theorem runTo_congr {l : List Oper} {st st' : St} {K : List Oper → St → Prop} (h : st = st') : runTo P l st K = runTo P l st' K := by rw [h]
@[congr] theorem AOps_congr {ops : Array Oper} {l : List Oper} {Q : Ax → St → Prop} {st st' : St} (h : st = st') : AOps P W0 n ops l Q st = AOps P W0 n ops l Q st' := by rw [h]
@[congr] theorem ACode_congr {c : Code} {Q : Ax → St → Prop} {st st' : St} (h : st = st') : ACode P W0 n c Q st = ACode P W0 n c Q st' := by rw [h]
@[congr] theorem Thn_congr {y : St → Prop} {Q : Ax → St → Prop} {ax : Ax} {st st' : St} (h : st = st') : Thn y Q ax st = Thn y Q ax st' := by rw [h]
@[congr] theorem InB_congr {id : Nat} {Q : Ax → St → Prop} {ax : Ax} {st st' : St} (h : st = st') : InB id Q ax st = InB id Q ax st' := by rw [h]

/-- The temporaries that operations' guards are in. -/
def gsl (ops : Array Oper) (l : List Oper) : List (Option (Option Nat × Bool)) := l.map fun o => o.guard.map fun g => ((ops[g.1]?).bind (·.dst), g.2)
def Code.gs : Code → List (List (Option (Option Nat × Bool)))
  | .region _ ops _ => [gsl ops ops.toList]
  | .seq a b => Code.gs a ++ Code.gs b
  | .cond _ a b => Code.gs a ++ Code.gs b
  | .block _ a => Code.gs a
  | .loop a => Code.gs a
  | _ => []
/-- What an operation gives that turns nothing; a slice built, as data. -/
def opW (P : Program) (e : Nat → Option AV) (bs : List Box) (op : Op) : Option AV := match op with | .buildSlice _ _ _ => bsD P e op | _ => opV P e bs op
theorem opW_Q1 {bs : List Box} {e : Nat → Option AV} {o : Oper} {x : AV} (h : opW P e bs o.op = some x) : Q1 P W0 bs e o x := by
  unfold opW at h
  split at h
  · exact .data x h
  · exact .op x h
def stepG (P : Program) (bs : List Box) (env : List (List (Option AV))) (op : Op) : Option (Option Nat × Bool) → Option AV
  | none => opW P (lk env) bs op
  | some (some t, want) => match lk env t with
    | some (.d (.v (.bool b))) => (opW P (resE (if want then b else !b) (lk env)) bs op).map (.opt (if want then b else !b))
    | _ => none
  | some (none, _) => none
def runG (P : Program) (bs : List Box) (K : List Oper → List (Option (Option Nat × Bool)) → List (List (Option AV)) → Prop) : List Oper → List (Option (Option Nat × Bool)) → List (List (Option AV)) → Prop
  | [], gs, env => K [] gs env
  | o :: l, [], env => K (o :: l) [] env
  | o :: l, g :: gs, env => onSome (stepG P bs env o.op g) (fun x => runG P bs K l gs (putL o.dst x env)) (K (o :: l) (g :: gs) env)
def aqg (P : Program) (W0 : World) (bs : List Box) (ops : Array Oper) (K : List (List (Option AV)) → Prop) (l : List Oper) (gs : List (Option (Option Nat × Bool))) (env : List (List (Option AV))) : Prop := gsl ops l = gs → aqs P W0 bs ops K l env
@[congr] theorem runG_congr {bs : List Box} {K : List Oper → List (Option (Option Nat × Bool)) → List (List (Option AV)) → Prop} {l : List Oper} {gs : List (Option (Option Nat × Bool))} {env env' : List (List (Option AV))} (h : env = env') : runG P bs K l gs env = runG P bs K l gs env' := by rw [h]
@[congr] theorem aqg_congr {bs : List Box} {ops : Array Oper} {K : List (List (Option AV)) → Prop} {l : List Oper} {gs : List (Option (Option Nat × Bool))} {env env' : List (List (Option AV))} (h : env = env') : aqg P W0 bs ops K l gs env = aqg P W0 bs ops K l gs env' := by rw [h]

theorem stepG_Yl {bs : List Box} {ops : Array Oper} {env : List (List (Option AV))} {o : Oper} {g : Option (Option Nat × Bool)} {x : AV} (hg : o.guard.map (fun g => ((ops[g.1]?).bind (·.dst), g.2)) = g) (h : stepG P bs env o.op g = some x) : Yl P W0 bs ops (lk env) o x := by
  unfold Yl
  subst hg
  cases hg : o.guard with
  | none =>
    simp only [hg, Option.map_none, stepG] at h ⊢
    exact opW_Q1 h
  | some g =>
    obtain ⟨j, want⟩ := g
    simp only [hg, Option.map_some] at h ⊢
    cases hd : (ops[j]?).bind (·.dst) with
    | none => rw [hd] at h; cases h
    | some t =>
      rw [hd] at h
      simp only [stepG] at h
      split at h
      · rename_i b hb
        simp only [Option.map_eq_some_iff] at h
        obtain ⟨y, h1, rfl⟩ := h
        exact ⟨t, b, y, rfl, hb, rfl, fun _ => opW_Q1 h1⟩
      · cases h
theorem aqg_run {bs : List Box} {ops : Array Oper} {K : List (List (Option AV)) → Prop} : ∀ {l : List Oper} {gs : List (Option (Option Nat × Bool))} {env : List (List (Option AV))}, runG P bs (aqg P W0 bs ops K) l gs env → aqg P W0 bs ops K l gs env
  | [], gs, env, h => h
  | o :: l, [], env, h => h
  | o :: l, g :: gs, env, h => by
    simp only [runG] at h
    cases hs : stepG P bs env o.op g with
    | none =>
      rw [hs] at h
      exact h
    | some x =>
      rw [hs] at h
      intro hg
      simp only [gsl, List.map_cons, List.cons.injEq] at hg
      exact ⟨x, stepG_Yl hg.1 hs, aqg_run h hg.2⟩
theorem aqg_nil {bs : List Box} {ops : Array Oper} {K : List (List (Option AV)) → Prop} {gs : List (Option (Option Nat × Bool))} {env : List (List (Option AV))} (h : K env) : aqg P W0 bs ops K [] gs env := fun _ => h
theorem A_quietG {Q : Ax → St → Prop} {st : St} {id : Nat} {l : List Oper} {gs : List (Option (Option Nat × Bool))} (hm : P.follows .mixedOrders = true) (hB : Region.lexB .any l.toArray = true) (hg : gsl l.toArray l = gs) (hd : l.all (fun o => dOk st.N o.dst) = true)
    (h : aqg P W0 st.bs l.toArray (fun env => Q .normal ⟨st.N, env, st.bs⟩) l gs st.env) : ACode P W0 n (.region id l.toArray true) Q st := A_quiet hm hB hd (h hg)
theorem A_calmG {Q : Ax → St → Prop} {st : St} {id : Nat} {l : List Oper} {gs : List (Option (Option Nat × Bool))} (hg : gsl l.toArray l = gs) (hd : l.all (fun o => dOk st.N o.dst) = true)
    (h : aqg P W0 st.bs l.toArray (fun env => Q .normal ⟨st.N, env, st.bs⟩) l gs st.env) : ACode P W0 n (.region id l.toArray false) Q st := A_calm hd (h hg)
/-- A call of a pure function. -/
theorem aqg_call {bs : List Box} {ops : Array Oper} {K : List (List (Option AV)) → Prop} {o : Oper} {l : List Oper} {gs : List (Option (Option Nat × Bool))} {env : List (List (Option AV))} {fo : Operand} {args : Array Operand} {ts : Array TypeId} {f : FuncId} {caps xs : List AV} {y : AV}
    (hr : APure P W0 f (xs ++ caps) fun r => r = .ret y) (ho : o.op = .call ⟨.value fo, args, ts⟩) (hf : evo (lk env) fo = some (.fn f caps)) (ha : evl (lk env) args.toList = some xs) (hc : callable P f = true)
    (hn : noNames (xs ++ caps) = true) (hy : noName y = true) (h : aqg P W0 bs ops K l gs (putL o.dst y env)) : aqg P W0 bs ops K (o :: l) (none :: gs) env := by
  intro hg
  simp only [gsl, List.map_cons, List.cons.injEq, Option.map_eq_none_iff] at hg
  refine ⟨y, ?_, h hg.2⟩
  unfold Yl
  rw [hg.1]
  exact .call fo args ts f caps xs y ho hf ha hc hn hr hy
/-- The same where a guard holds. -/
theorem aqg_callg {bs : List Box} {ops : Array Oper} {K : List (List (Option AV)) → Prop} {o : Oper} {l : List Oper} {gs : List (Option (Option Nat × Bool))} {env : List (List (Option AV))} {fo : Operand} {args : Array Operand} {ts : Array TypeId} {f : FuncId} {caps xs : List AV} {y : AV} {t : Nat} {want b : Bool}
    (hr : (if want then b else !b) = true → APure P W0 f (xs ++ caps) fun r => r = .ret y) (hb : lk env t = some (.d (.v (.bool b)))) (ho : o.op = .call ⟨.value fo, args, ts⟩) (hf : evo (resE (if want then b else !b) (lk env)) fo = some (.fn f caps)) (ha : evl (resE (if want then b else !b) (lk env)) args.toList = some xs) (hc : callable P f = true)
    (hn : noNames (xs ++ caps) = true) (hy : noName y = true) (h : aqg P W0 bs ops K l gs (putL o.dst (.opt (if want then b else !b) y) env)) : aqg P W0 bs ops K (o :: l) (some (some t, want) :: gs) env := by
  intro hg
  simp only [gsl, List.map_cons, List.cons.injEq, Option.map_eq_some_iff, Prod.mk.injEq] at hg
  obtain ⟨⟨⟨j, w⟩, h1, h2, h3⟩, h4⟩ := hg
  refine ⟨_, ?_, h h4⟩
  unfold Yl
  rw [h1]
  cases h3
  exact ⟨t, b, y, h2, hb, rfl, fun hh => .call fo args ts f caps xs y ho hf ha hc hn (hr hh) hy⟩
theorem aqg_callg0 {bs : List Box} {ops : Array Oper} {K : List (List (Option AV)) → Prop} {o : Oper} {l : List Oper} {gs : List (Option (Option Nat × Bool))} {env : List (List (Option AV))} {fo : Operand} {args : Array Operand} {ts : Array TypeId} {f : FuncId} {xs : List AV} {y : AV} {t : Nat} {want b : Bool}
    (hr : (if want then b else !b) = true → APure P W0 f xs fun r => r = .ret y) (hb : lk env t = some (.d (.v (.bool b)))) (ho : o.op = .call ⟨.value fo, args, ts⟩)
    (hf : (if want then b else !b) = true → evo (resE (if want then b else !b) (lk env)) fo = some (.fn f []) ∧ evl (resE (if want then b else !b) (lk env)) args.toList = some xs) (hc : callable P f = true)
    (hn : noNames xs = true) (hy : noName y = true) (h : aqg P W0 bs ops K l gs (putL o.dst (.opt (if want then b else !b) y) env)) : aqg P W0 bs ops K (o :: l) (some (some t, want) :: gs) env := by
  intro hg
  simp only [gsl, List.map_cons, List.cons.injEq, Option.map_eq_some_iff, Prod.mk.injEq] at hg
  obtain ⟨⟨⟨j, w⟩, h1, h2, h3⟩, h4⟩ := hg
  refine ⟨_, ?_, h h4⟩
  unfold Yl
  rw [h1]
  cases h3
  exact ⟨t, b, y, h2, hb, rfl, fun hh => .call fo args ts f [] xs y ho (hf hh).1 (hf hh).2 hc (by rw [List.append_nil]; exact hn) (by rw [List.append_nil]; exact hr hh) hy⟩

/-- Rows in data are no longer than memory has room for. -/
inductive DB : D → Prop
  | v (x : Value) : DB (.v x)
  | e : DB .e
  | any : DB .any
  | rows (sz bt : Nat) (l : List (List D)) (h : l.length * bt ≤ 140737488355328) (hs : ∀ row ∈ l, ∀ d ∈ row, DB d) : DB (.rows sz bt l)
theorem RD.db {M : Nat → Prop} {w : World} {d : D} {u : Value} (h : RD M w d u) : DB d := by
  induction h with
  | v x h => exact .v x
  | e A => exact .e
  | any u h => exact .any
  | rows sz bt l A c U hbt hb hc hA hU ih =>
    refine .rows sz bt l hb fun row hr d hd => ?_
    obtain ⟨i, hi⟩ := List.getElem?_of_mem hr
    obtain ⟨j, hj⟩ := List.getElem?_of_mem hd
    exact ih i row j d hi hj
def AB : AV → Prop
  | .d x => DB x
  | .agg l => ∀ d, AV.d d ∈ l → DB d
  | _ => True
theorem RAs.db {M : Nat → Prop} {m : Nat → Pl} {w : World} : ∀ {l : List AV} {us : List Value}, RAs M m w l us → ∀ d, AV.d d ∈ l → DB d
  | [], [], _, _, h => by cases h
  | x :: l, u :: us, h, d, hd => by
    simp only [RAs] at h
    rcases List.mem_cons.1 hd with e | e
    · subst e
      have := h.1
      simp only [RA] at this
      exact this.db
    · exact RAs.db h.2 d e
  | [], _ :: _, h, _, _ => by simp only [RAs] at h
  | _ :: _, [], h, _, _ => by simp only [RAs] at h
theorem RA.ab {M : Nat → Prop} {m : Nat → Pl} {w : World} {x : AV} {u : Value} (h : RA M m w x u) : AB x := by
  cases x <;> simp only [AB]
  · simp only [RA] at h
    exact h.db
  · simp only [RA] at h
    obtain ⟨us, _, h2⟩ := h
    exact fun d hd => h2.db d hd
theorem RAs.ab {M : Nat → Prop} {m : Nat → Pl} {w : World} : ∀ {l : List AV} {us : List Value}, RAs M m w l us → ∀ x ∈ l, AB x
  | [], [], _, _, h => by cases h
  | x :: l, u :: us, h, y, hd => by
    simp only [RAs] at h
    rcases List.mem_cons.1 hd with e | e
    · subst e
      exact h.1.ab
    · exact RAs.ab h.2 y e
  | [], _ :: _, h, _, _ => by simp only [RAs] at h
  | _ :: _, [], h, _, _ => by simp only [RAs] at h
/-- What is known of what is handed. -/
theorem ACalls.known {f : FuncId} {args : List AV} {L : List Box} {R : Res → List Box → Prop} (h : (∀ x ∈ args, AB x) → ACalls P W0 f args L R) : ACalls P W0 f args L R :=
  fun M m w us hc ha => h ha.ab M m w us hc ha
theorem APure.known {f : FuncId} {args : List AV} {R : Res → Prop} (h : (∀ x ∈ args, AB x) → APure P W0 f args R) : APure P W0 f args R := ACalls.known h

/- Not by rfl, so that congruences have a proof to take. -/
theorem stepG_n (bs : List Box) (env : List (List (Option AV))) (op : Op) : stepG P bs env op none = opW P (lk env) bs op := (Eq.refl _).trans rfl
theorem stepG_s (bs : List Box) (env : List (List (Option AV))) (op : Op) (t : Nat) (want : Bool) : stepG P bs env op (some (some t, want)) = match lk env t with
    | some (.d (.v (.bool b))) => (opW P (resE (if want then b else !b) (lk env)) bs op).map (.opt (if want then b else !b))
    | _ => none := (Eq.refl _).trans rfl
theorem putL_s (t : Nat) (x : AV) (env : List (List (Option AV))) : putL (some t) x env = putE env t x := (Eq.refl _).trans rfl
theorem putL_n (x : AV) (env : List (List (Option AV))) : putL none x env = env := (Eq.refl _).trans rfl
theorem put_s (st : St) (t : Nat) (x : AV) : st.put (some t) x = ⟨st.N, putE st.env t x, st.bs⟩ := (Eq.refl _).trans rfl
theorem put_n (st : St) (x : AV) : st.put none x = st := (Eq.refl _).trans rfl
theorem stepT_ap (st : St) (o : Oper) : stepT P st o = match o.guard with | none => opR P (lk st.env) st.bs o.op | some _ => none := (Eq.refl _).trans rfl
theorem resE_ap (g : Bool) (e : Nat → Option AV) (t : Nat) : resE g e t = (e t).map (resA g) := rfl
end
end Go.Proofs.YtbgfiflnfndckaaDoor.Lift

/- The lift, thirteenth part: a row of one's own that is lent; functions that hand back rows. No conditions: words and their laws. -/
set_option linter.unusedVariables false
set_option linter.unusedSimpArgs false
set_option linter.unusedSectionVars false
namespace Go.Proofs.YtbgfiflnfndckaaDoor.Lift
open Go Go.RowKit

section
variable {P : Program} {W0 : World} {n : Nat}

/-- A part of a row of one's own, as data. -/
theorem vec_data {E : En} {M : Nat → Prop} {m : Nat → Pl} {st : St} {a : Act} {w : World} (h : C W0 E M m st a w) {b sz bt : Nat} {l : List (List D)} (hb : st.bs[b]? = some (.vec sz bt l)) : ∀ lo n u, lo + n ≤ l.length → RA M m w (.sl b sz lo n) u → RD (fun k => M k ∧ m b ≠ .at_ k) w (.rows sz bt ((l.drop lo).take n)) u := by
  obtain ⟨hsz, hbt, hb47, hbox⟩ := h.box b _ hb
  intro lo n u hle hr
  have hlen : ((l.drop lo).take n).length = n := by simp; omega
  have hbn : ((l.drop lo).take n).length * bt ≤ 140737488355328 := Nat.le_trans (Nat.mul_le_mul_right _ (by omega)) hb47
  have get : ∀ (i : Nat) (row : List D), ((l.drop lo).take n)[i]? = some row → l[lo + i]? = some row := fun i row hi => by
    rw [List.getElem?_take] at hi
    split at hi
    · rwa [List.getElem?_drop] at hi
    · cases hi
  simp only [RA] at hr
  rcases hr with ⟨rfl, rfl, _, A, rfl⟩ | ⟨k, cap, C1, T1, h1, rfl, h2, h3, h4⟩
  · have := RD.rows (M := fun k => M k ∧ m b ≠ .at_ k) (w := w) sz bt [] A 0 (fun _ _ => default) hbt (by simp) (by simp) (fun i row h => by simp at h) (fun i row j d h => by simp at h)
    simpa using this
  · rcases hbox with ⟨h5, _⟩ | ⟨k', C2, T2, h5, h6, h7, h8⟩
    · rw [h1] at h5
      cases h5
    · rw [h1] at h5
      cases h5
      have := RD.rows (M := fun i => M i ∧ m b ≠ .at_ i) (w := w) sz bt ((l.drop lo).take n) (some ⟨k, lo * sz, none⟩) cap (fun i j => C2.getD ((lo + i) * sz + j) default) hbt hbn (by omega) (fun i row hi => ?_) (fun i row j d hi hj => ?_)
      · rw [hlen] at this
        exact this
      · obtain ⟨g1, g2⟩ := h8 _ row (get i row hi)
        refine ⟨g1, k, lo * sz, rfl, fun j hj => ⟨fun hk => hk.2 h1, ?_⟩⟩
        obtain ⟨v, g3, _⟩ := g2 j row[j] (List.getElem?_eq_getElem (by omega))
        rw [cell_of_row w k _ C2 T2 (0, 0) h6, show lo * sz + i * sz + j = (lo + i) * sz + j by rw [Nat.add_mul], g3]
        simp [Array.getD_eq_getD_getElem?, g3]
      · obtain ⟨g1, g2⟩ := h8 _ row (get i row hi)
        obtain ⟨v, g3, g4⟩ := g2 j d hj
        have : C2.getD ((lo + i) * sz + j) default = v := by simp [Array.getD_eq_getD_getElem?, g3]
        simp only [this]
        exact g4.mono (Fr.refl (fun _ => False) w) (fun _ _ x => x.elim) (fun k _ hk => hk.1)

/-- A pure function may look at a row of one's own, if it answers no rows. -/
theorem A_lend {Q : Ax → St → Prop} {st : St} {ops : Array Oper} {o : Oper} {rest : List Oper} {fo : Operand} {args : Array Operand} {ts : Array TypeId} {f : FuncId} {caps xs cargs : List AV} {R : Res → Prop} (b : Nat) {sz bt : Nat} {l : List (List D)} (hcall : APure P W0 f cargs R) (hb : st.bs[b]? = some (.vec sz bt l))
    (hg : o.guard = none) (ho : o.op = .call ⟨.value fo, args, ts⟩) (hf : evo (lk st.env) fo = some (.fn f caps)) (ha : evl (lk st.env) args.toList = some xs) (hc : callable P f = true) (hd : dOk st.N o.dst = true) (hz : fzL b sz bt l (xs ++ caps) = cargs) (hn : noNames cargs = true)
    (h : ∀ r, R r → ∃ v, (r = .ret (.d (.v v)) ∧ AOps P W0 n ops rest Q (st.put o.dst (.d (.v v)))) ∨ (r = .panic (.d (.v v)) ∧ Q (.panic (.d (.v v))) st)) : AOps P W0 n ops (o :: rest) Q st := by
  intro E M m a w hE hC
  refine wpList_plain hg fun K hK => ?_
  obtain ⟨us, h1, h2⟩ := run_call (P := P) hC ho hf ha hc
  unfold Oper.wp
  rw [h1, Oper.upon_enter]
  have hM : ∀ k, (M k ∧ m b ≠ .at_ k) → M k := fun k hk => hk.1
  have h3 : RAs (fun k => M k ∧ m b ≠ .at_ k) m w cargs us.toList := by
    rw [← hz]
    exact RAs.fz (fun _ _ => rfl) hM (vec_data hC hb) _ _ h2
  have c0 : C W0 ⟨w, fun k => M k ∧ m b ≠ .at_ k, fun _ => .no, 0⟩ (fun k => M k ∧ m b ≠ .at_ k) (fun _ => .no) ⟨0, [], []⟩ nobody w := by
    have := hC.callee
    exact { this with eLt := fun k hk => this.eLt k hk.1, mLow := fun k hk => this.mLow k hk.1, mUp := fun k hk => hk, mNew := fun k hk => .inl hk, mLt := fun k hk => this.mLt k hk.1, mNo := this.mNo, mIn := fun b k hb => (by cases hb), oldv := this.oldv, oldr := this.oldr, box := fun b x hb => (by simp at hb), env := fun t x hx => (by simp [lk_nil] at hx) }
  refine (hcall _ (fun _ => .no) w us c0 (RAs.remap (p := fun _ => false) (fun b hb => by cases hb) _ _ hn h3)).mono ?_
  rintro e w' ⟨r, L', M', m', ⟨hR, rfl⟩, hres, hC'⟩
  have hC1 : C W0 ⟨w, M, fun _ => .no, 0⟩ (fun k => M' k ∨ m b = .at_ k) m' ⟨0, [], []⟩ nobody w' :=
    { hC' with
      eLt := hC.mLt
      mLow := fun k hk => hk.elim (hC'.mLow k) fun e => hC.mLow k (hC.mIn b k e)
      mUp := fun k hk => by
        by_cases e : m b = .at_ k
        · exact .inr e
        · exact .inl (hC'.mUp k ⟨hk, e⟩)
      mNew := fun k hk => hk.elim (fun x => (hC'.mNew k x).elim (fun y => .inl y.1) .inr) fun e => .inl (hC.mIn b k e)
      mLt := fun k hk => hk.elim (hC'.mLt k) fun e => Nat.lt_of_lt_of_le (hC.mLt k (hC.mIn b k e)) hC'.fr.size
      mNo := hC'.mNo
      mIn := fun b k hb => .inl (hC'.mIn b k hb)
      oldv := fun b cs hb => absurd hb (Nat.not_lt_zero _)
      oldr := fun b k hb => absurd hb (Nat.not_lt_zero _)
      box := fun b x hb => (by simp at hb)
      env := fun t x hx => (by simp [lk_nil] at hx) }
  have hC2 := hC.after hC1
  have one : ∀ (v : Value) (u : Value), RA M' m' w' (.d (.v v)) u → RA (fun k => M' k ∨ m b = .at_ k) m w' (.d (.v v)) u := fun v u hu => by
    simp only [RA] at hu ⊢
    cases hu with
    | v _ hx => exact .v _ hx
  obtain ⟨v, ⟨rfl, h5⟩ | ⟨rfl, h5⟩⟩ := h r hR
  · cases e with
    | returned u => exact hK _ _ (h5 E _ m _ _ hE (hC2.value (dOk_iff hd) (one v u hres)))
    | panicked c => exact hres.elim
    | outgrown => exact hres.elim
  · cases e with
    | returned u => exact hres.elim
    | panicked c =>
      obtain ⟨u, rfl, h3⟩ := hres
      exact ⟨_, m, st, .panic _, hC2, h5, u, rfl, one v u h3⟩
    | outgrown => exact hres.elim

/-- A function is done; its first boxes stay. -/
theorem fin_mk {st : St} {x x' : AV} {L' : List Box} (hb : ∃ ex, st.bs = L' ++ ex) (hl : n ≤ L'.length) (h1 : x'.names (fun b => decide (b < L'.length)) = true) (h2 : L'.all (boxBelow L'.length) = true) (hle : Le x x') : Fin W0 n st x L' x' := by
  intro E M m a w u hE h hx
  have h3 : C W0 E M m ⟨1, ofL (mkEnv 0 [x]), st.bs⟩ ⟨#[u] ++ Array.replicate (1 - 1) undef, []⟩ w := h.frame (args := [x]) (us := #[u]) (N := 1) (by simp only [RAs, and_true]; exact hx) (by simp)
  obtain ⟨M', m', h4⟩ := Sb.mk (W0 := W0) (n := n) (st := ⟨1, ofL (mkEnv 0 [x]), st.bs⟩) (N := 1) (env := [(0, x')]) (bs := L') rfl ⟨⟨x, rfl, hle⟩, trivial⟩ hb hl (by simp only [envBelow, List.all_cons, List.all_nil, Bool.and_true]; exact h1) h2 E M m _ w hE h3
  exact ⟨M', m', h4.bare, by simpa using h4.env 0 x' rfl⟩
/-- A function that was handed no box hands back a row of its own. -/
theorem fin_own {st : St} {x : AV} (b : Nat) {sz bt lo k : Nat} {l : List (List D)} (hb : st.bs[b]? = some (.vec sz bt l)) (hx : x = .sl b sz lo k) : Fin W0 0 st x [.vec sz bt l] (.sl 0 sz lo k) := by
  subst hx
  intro E M m a w u hE h hx
  refine ⟨M, fun b' => if b' = 0 then m b else .no, { h.bare with mNo := ?_, mIn := ?_, inj := ?_, oldv := ?_, oldr := ?_, new := ?_, len := ?_, box := ?_, env := ?_ }, ?_⟩
  · intro b' hb'
    simp only [List.length_cons, List.length_nil] at hb'
    exact if_neg (by omega)
  · intro b' k hk
    split at hk
    · exact h.mIn b k hk
    · cases hk
  · intro b1 b2 k h1 h2
    split at h1
    · split at h2
      · omega
      · cases h2
    · cases h1
  · intro b' cs hb'
    omega
  · intro b' k hb'
    omega
  · intro b' k _ hk
    split at hk
    · exact h.new b k (by omega) hk
    · cases hk
  · omega
  · intro b' y hy
    match b', hy with
    | 0, hy =>
      simp only [List.getElem?_cons_zero, Option.some.injEq] at hy
      subst hy
      have := h.box b _ hb
      simp only [BoxR, if_true] at this ⊢
      exact this
  · exact fun t x hx => (by simp [lk_nil] at hx)
  · simp only [RA, if_true] at hx ⊢
    exact hx
end
end Go.Proofs.YtbgfiflnfndckaaDoor.Lift

/- The lift, fourteenth part: drawn regions whose last operations turn something. No conditions: words and their laws. -/
set_option linter.unusedVariables false
set_option linter.unusedSimpArgs false
set_option linter.unusedSectionVars false
set_option linter.unnecessarySimpa false
namespace Go.Proofs.YtbgfiflnfndckaaDoor.Lift
open Go Go.RowKit

/-- What can be listed without an operation, in the order of the text. -/
def grS (md : Region.Mode) (i : Nat) : List Oper → List Bool → List Bool
  | [], S => S
  | o :: l, S => grS md i l (S ++ [S.length != i && o.after.all fun e => !Region.binds md e || S.getD e.on false])
def backF (md : Region.Mode) : List Oper → Nat → Bool
  | [], _ => true
  | o :: l, k => (o.after.all fun e => !Region.binds md e || decide (e.on < k)) && backF md l (k + 1)
def qtf (k : Nat) (qs : List Nat) (i : Nat) : Bool := decide (i < k) || qs.contains i
def chkF (md : Region.Mode) (l : List Oper) (k : Nat) (qs : List Nat) (i : Nat) : Bool := (List.range l.length).all fun j => qtf k qs j || !(grS md i l []).getD j false
def drF (md : Region.Mode) (l : List Oper) (k : Nat) (qs : List Nat) : Nat → Nat → Array Bool → Bool
  | 0, _, _ => true
  | c + 1, i, listed => (Region.ready md l.toArray listed).contains i && Region.free md l.toArray listed i && chkF md l k qs i && drF md l k qs c (i + 1) (listed.setIfInBounds i true)
def setN : Nat → Nat → Array Bool → Array Bool
  | 0, _, L => L
  | c + 1, i, L => setN c (i + 1) (L.setIfInBounds i true)
def drB (l : List Oper) (k : Nat) (qs : List Nat) : Bool := backF .any l 0 && drF .any l k qs k 0 (Array.replicate l.length false)

theorem grS_keep {md : Region.Mode} {i : Nat} : ∀ (l : List Oper) (S : List Bool) (j : Nat), j < S.length → (grS md i l S).getD j false = S.getD j false
  | [], _, _, _ => rfl
  | o :: l, S, j, h => by
    rw [grS, grS_keep l _ j (by simp; omega)]
    simp only [List.getD_eq_getElem?_getD]
    rw [List.getElem?_append_left h]
theorem grS_at {md : Region.Mode} {i : Nat} : ∀ (l : List Oper) (S : List Bool) (j : Nat) (o : Oper), backF md l S.length = true → l[j]? = some o →
    (grS md i l S).getD (S.length + j) false = (S.length + j != i && o.after.all fun e => !Region.binds md e || (grS md i l S).getD e.on false)
  | [], S, j, o, _, h => by simp at h
  | o' :: l, S, 0, o, hb, h => by
    simp only [List.getElem?_cons_zero, Option.some.injEq] at h
    subst h
    simp only [backF, Bool.and_eq_true] at hb
    rw [grS, grS_keep l _ _ (by simp)]
    simp only [List.getD_eq_getElem?_getD, Nat.add_zero]
    rw [List.getElem?_append_right (Nat.le_refl _)]
    simp only [Nat.sub_self, List.getElem?_cons_zero, Option.getD_some]
    congr 1
    rw [Bool.eq_iff_iff, Array.all_eq_true_iff_forall_mem, Array.all_eq_true_iff_forall_mem]
    have hk : ∀ e ∈ o'.after, Region.binds md e = true → (grS md i l (S ++ [S.length != i && o'.after.all fun e => !Region.binds md e || S[e.on]?.getD false]))[e.on]?.getD false = S[e.on]?.getD false := fun e he hbd => by
      have h1 := Array.all_eq_true_iff_forall_mem.1 hb.1 e he
      simp only [hbd, Bool.not_true, Bool.false_or, decide_eq_true_eq] at h1
      have := grS_keep (md := md) (i := i) l (S ++ [S.length != i && o'.after.all fun e => !Region.binds md e || S[e.on]?.getD false]) e.on (by simp; omega)
      simp only [List.getD_eq_getElem?_getD] at this
      rw [this, List.getElem?_append_left h1]
    constructor
    · intro h e he
      have := h e he
      cases hbd : Region.binds md e
      · rfl
      · rw [hbd] at this
        rw [hk e he hbd]
        exact this
    · intro h e he
      have := h e he
      cases hbd : Region.binds md e
      · rfl
      · rw [hbd] at this
        rw [hk e he hbd] at this
        exact this
  | o' :: l, S, j + 1, o, hb, h => by
    simp only [backF, Bool.and_eq_true] at hb
    have := grS_at (md := md) (i := i) l (S ++ [S.length != i && o'.after.all fun e => !Region.binds md e || S.getD e.on false]) j o (by simpa using hb.2) (by simpa using h)
    rw [grS]
    rw [show S.length + (j + 1) = (S ++ [S.length != i && o'.after.all fun e => !Region.binds md e || S.getD e.on false]).length + j by simp; omega]
    exact this

/-- Listed only behind what it waits for. -/
def DC (md : Region.Mode) (ops : Array Oper) (listed : Array Bool) : Prop := ∀ (j : Nat) (o : Oper), ops[j]? = some o → listed.getD j false = true → ∀ e ∈ o.after, Region.binds md e = true → listed.getD e.on false = true
theorem DC.set {md : Region.Mode} {ops : Array Oper} {listed : Array Bool} (h : DC md ops listed) {i : Nat} (hi : i ∈ Region.ready md ops listed) : DC md ops (listed.setIfInBounds i true) := by
  intro j o ho hj e he hb
  by_cases hij : i = j
  · subst hij
    obtain ⟨_, o', ho', hall⟩ := mem_ready.1 hi
    rw [ho] at ho'
    cases ho'
    exact getD_set_true (hall e he hb)
  · rw [getD_set_ne false hij] at hj
    exact getD_set_true (h j o ho hj e he hb)
theorem back_spec {md : Region.Mode} : ∀ (l : List Oper) (k j : Nat) (o : Oper), backF md l k = true → l[j]? = some o → ∀ e ∈ o.after, Region.binds md e = true → e.on < k + j
  | [], _, _, _, _, h => by simp at h
  | o' :: l, k, 0, o, hb, h => by
    simp only [List.getElem?_cons_zero, Option.some.injEq] at h
    subst h
    simp only [backF, Bool.and_eq_true] at hb
    intro e he hbd
    have h1 := Array.all_eq_true_iff_forall_mem.1 hb.1 e he
    simpa [hbd] using h1
  | o' :: l, k, j + 1, o, hb, h => by
    simp only [backF, Bool.and_eq_true] at hb
    intro e he hbd
    have := back_spec l (k + 1) j o hb.2 (by simpa using h) e he hbd
    omega
theorem grS_all {md : Region.Mode} {l : List Oper} {i : Nat} (hb : backF md l 0 = true) {listed : Array Bool} (hs : listed.size = l.length) (hdc : DC md l.toArray listed) (hi : listed.getD i false = false) : ∀ j, listed.getD j false = true → (grS md i l []).getD j false = true := by
  intro j
  induction j using Nat.strongRecOn with
  | _ j ih =>
    intro hj
    have hlt : j < l.length := by
      rcases Nat.lt_or_ge j listed.size with h | h
      · omega
      · simp [Array.getElem?_eq_none h] at hj
    have ho : l[j]? = some l[j] := List.getElem?_eq_getElem hlt
    have := grS_at (md := md) (i := i) l [] j l[j] hb ho
    simp only [List.length_nil, Nat.zero_add] at this
    rw [this, Bool.and_eq_true]
    refine ⟨?_, Array.all_eq_true_iff_forall_mem.2 fun e he => ?_⟩
    · simp only [bne_iff_ne, ne_eq]
      rintro rfl
      rw [hi] at hj
      cases hj
    · cases hbd : Region.binds md e
      · rfl
      · have h1 := back_spec l 0 j l[j] hb ho e he hbd
        have h2 := hdc j l[j] (by simpa using ho) hj e he hbd
        rw [ih e.on (by omega) h2]
        rfl
theorem chk_spec {md : Region.Mode} {l : List Oper} {k : Nat} {qs : List Nat} {i : Nat} (hb : backF md l 0 = true) (hq : qtf k qs i = true) (hc : chkF md l k qs i = true) {listed : Array Bool} (hs : listed.size = l.length) (hdc : DC md l.toArray listed) (hi : listed.getD i false = false) : ∀ j ∈ Region.ready md l.toArray listed, qtf k qs j = true := by
  intro j hj
  obtain ⟨h0, o, ho, hall⟩ := mem_ready.1 hj
  have ho' : l[j]? = some o := by simpa using ho
  have hlt : j < l.length := (List.getElem?_eq_some_iff.1 ho').1
  have h1 := List.all_eq_true.1 hc j (List.mem_range.2 hlt)
  rw [Bool.or_eq_true] at h1
  by_cases hj' : qtf k qs j = true
  · exact hj'
  exfalso
  have h2 := h1.resolve_left hj'
  have h3 := grS_at (md := md) (i := i) l [] j o hb ho'
  simp only [List.length_nil, Nat.zero_add] at h3
  rw [h3] at h2
  have h4 : (o.after.all fun e => !Region.binds md e || (grS md i l []).getD e.on false) = true := Array.all_eq_true_iff_forall_mem.2 fun e he => by
    cases hbd : Region.binds md e
    · rfl
    · rw [grS_all hb hs hdc hi e.on (hall e he hbd)]
      rfl
  rw [h4, Bool.and_true] at h2
  simp only [Bool.not_eq_true', bne_eq_false_iff_eq] at h2
  subst h2
  exact hj' hq

section
variable {P : Program} {W0 : World} {n : Nat}

/-- An operation that may turn something, and cannot end the call. -/
def gO (P : Program) (W0 : World) (n N : Nat) (ops : Array Oper) (o : Oper) (K : List Box → (Nat → Option AV) → Prop) (bs : List Box) (e : Nat → Option AV) : Prop :=
  ∀ E M m a w (Q : Exit → Act → World → Prop), E.n = n → CE W0 E M m N bs e a w → if Region.wanted o (yielded ops a.tmps) then o.wp P a w (fun a' w' => ∃ M' m' bs' e', CE W0 E M' m' N bs' e' a' w' ∧ K bs' e') Q else ∃ M' m' bs' e', CE W0 E M' m' N bs' e' (a.put o.dst undef) w ∧ K bs' e'
def anyS (P : Program) (W0 : World) (n N : Nat) (md : Region.Mode) (ops : Array Oper) (qt : Nat → Bool) (Q : List Box → (Nat → Option AV) → Prop) : Nat → Array Bool → List Box → (Nat → Option AV) → Prop
  | 0, listed, bs, e => Region.ready md ops listed = [] ∧ Q bs e
  | fuel + 1, listed, bs, e => (Region.ready md ops listed = [] → Q bs e) ∧ ∀ i ∈ Region.ready md ops listed, ∃ o, ops[i]? = some o ∧
      if qt i = true then ∃ x, Yl P W0 bs ops e o x ∧ anyS P W0 n N md ops qt Q fuel (listed.setIfInBounds i true) bs (upd e o.dst x)
      else gO P W0 n N ops o (fun bs' e' => anyS P W0 n N md ops qt Q fuel (listed.setIfInBounds i true) bs' e') bs e

theorem wpAny_ofS {E : En} {N : Nat} {md : Region.Mode} {ops : Array Oper} {qt : Nat → Bool} {Q : List Box → (Nat → Option AV) → Prop} {Q' : Exit → Act → World → Prop} (hE : E.n = n) (hd : ∀ (i : Nat) (o : Oper), ops[i]? = some o → dOk N o.dst = true) (hQ : ∀ M m bs e a w, CE W0 E M m N bs e a w → Q bs e → Q' .normal a w) :
    ∀ (fuel : Nat) (listed : Array Bool) (M : Nat → Prop) (m : Nat → Pl) (bs : List Box) (e : Nat → Option AV) (a : Act) (w : World), CE W0 E M m N bs e a w → anyS P W0 n N md ops qt Q fuel listed bs e → wpAny P md ops Q' fuel listed a w
  | 0, _, M, m, bs, e, a, w, hw, h => ⟨h.1, hQ M m bs e a w hw h.2⟩
  | fuel + 1, listed, M, m, bs, e, a, w, hw, h => ⟨fun h0 => hQ M m bs e a w hw (h.1 h0), fun i hi => by
      obtain ⟨o, ho, h1⟩ := h.2 i hi
      unfold wpOp
      simp only [ho]
      by_cases hq : qt i = true
      · rw [if_pos hq] at h1
        obtain ⟨x, hy, hk⟩ := h1
        have := Yl_sound (K := wpAny P md ops Q' fuel (listed.setIfInBounds i true)) (Q := Q') hw (hd i o ho) hy fun M' a' w' hc => wpAny_ofS hE hd hQ fuel _ M' m bs _ a' w' hc hk
        split
        · rename_i hwt
          rw [if_pos hwt] at this
          exact .inl this
        · rename_i hwt
          rw [if_neg hwt] at this
          exact this
      · rw [if_neg hq] at h1
        have := h1 E M m a w Q' hE hw
        split
        · rename_i hwt
          rw [if_pos hwt] at this
          exact .inl (Oper.wp_mono (fun a' w' ⟨M', m', bs', e', hc, hk⟩ => wpAny_ofS hE hd hQ fuel _ M' m' bs' e' a' w' hc hk) this)
        · rename_i hwt
          rw [if_neg hwt] at this
          obtain ⟨M', m', bs', e', hc, hk⟩ := this
          exact wpAny_ofS hE hd hQ fuel _ M' m' bs' e' _ w hc hk⟩

theorem anyS_first {N : Nat} {md : Region.Mode} {ops : Array Oper} {qt : Nat → Bool} {Q : List Box → (Nat → Option AV) → Prop} {bs : List Box} {i : Nat} {oi : Oper} {x : AV} (hi : ops[i]? = some oi) (hqi : qt i = true)
    (hT : ∀ listed : Array Bool, listed.size = ops.size → DC md ops listed → listed.getD i false = false → ∀ j ∈ Region.ready md ops listed, qt j = true) :
    ∀ (fuel : Nat) (listed : Array Bool) (e : Nat → Option AV), listed.size = ops.size → DC md ops listed →
      (∀ j oj, ops[j]? = some oj → j ≠ i → listed.getD j true = false → (∀ e ∈ oj.after, Region.binds md e = true → e.on ≠ i) → oi.apart ops oj = true) →
      i ∈ Region.ready md ops listed → Yl P W0 bs ops e oi x →
      anyS P W0 n N md ops qt Q fuel (listed.setIfInBounds i true) bs (upd e oi.dst x) → anyS P W0 n N md ops qt Q (fuel + 1) listed bs e := by
  intro fuel
  have own : ∀ (fuel : Nat) (listed : Array Bool) (e : Nat → Option AV), Yl P W0 bs ops e oi x → anyS P W0 n N md ops qt Q fuel (listed.setIfInBounds i true) bs (upd e oi.dst x) → ∃ o, ops[i]? = some o ∧
      if qt i = true then ∃ x, Yl P W0 bs ops e o x ∧ anyS P W0 n N md ops qt Q fuel (listed.setIfInBounds i true) bs (upd e o.dst x)
      else gO P W0 n N ops o (fun bs' e' => anyS P W0 n N md ops qt Q fuel (listed.setIfInBounds i true) bs' e') bs e := fun fuel listed e hy hk => by
    refine ⟨oi, hi, ?_⟩
    rw [if_pos hqi]
    exact ⟨x, hy, hk⟩
  induction fuel with
  | zero =>
    intro listed e hs hdc _ hr hy H
    refine ⟨fun h => (by rw [h] at hr; cases hr), fun j hj => ?_⟩
    by_cases hji : j = i
    · subst hji; exact own _ _ _ hy H
    · have := ready_mono hj hji
      rw [H.1] at this
      cases this
  | succ fuel ih =>
    intro listed e hs hdc hfree hr hy H
    refine ⟨fun h => (by rw [h] at hr; cases hr), fun j hj => ?_⟩
    by_cases hji : j = i
    · subst hji; exact own _ _ _ hy H
    · have hun : listed.getD i false = false := by
        have h0 := (mem_ready.1 hr).1
        rcases Nat.lt_or_ge i listed.size with h' | h'
        · simp [h'] at h0 ⊢; exact h0
        · simp [Array.getElem?_eq_none h']
      have hqj := hT listed hs hdc hun j hj
      obtain ⟨oj, hoj, h1⟩ := H.2 j (ready_mono hj hji)
      rw [if_pos hqj] at h1
      obtain ⟨hjun, oj', hoj', hall⟩ := mem_ready.1 hj
      rw [hoj] at hoj'
      cases hoj'
      have hnot : ∀ e ∈ oj.after, Region.binds md e = true → e.on ≠ i := fun e he hb heq => by
        have h1 := hall e he hb
        rw [heq, hun] at h1
        cases h1
      obtain ⟨p1, p2, p3⟩ := Oper.apart_spec (hfree j oj hoj hji hjun hnot)
      have hfree' : ∀ k ok, ops[k]? = some ok → k ≠ i → (listed.setIfInBounds j true).getD k true = false →
          (∀ e ∈ ok.after, Region.binds md e = true → e.on ≠ i) → oi.apart ops ok = true := fun k ok hk hki hun hno => by
        refine hfree k ok hk hki ?_ hno
        by_cases hjk : j = k
        · subst hjk; exact hjun
        · rw [getD_set_ne true hjk] at hun; exact hun
      obtain ⟨y, hy1, hy2⟩ := h1
      refine ⟨oj, hoj, ?_⟩
      rw [if_pos hqj]
      refine ⟨y, (Yl_upd p1).1 hy1, ih (listed.setIfInBounds j true) _ (by simpa using hs) (hdc.set hj) hfree' (ready_mono hr (Ne.symm hji)) ((Yl_upd p3).2 hy) ?_⟩
      rw [Array.setIfInBounds_comm _ _ hji, ← upd_comm e x y p2]
      exact hy2

theorem anyS_lex {N : Nat} {md : Region.Mode} {l : List Oper} {k : Nat} {qs : List Nat} {Q : List Box → (Nat → Option AV) → Prop} {bs : List Box} {fuel : Nat} (hb : backF md l 0 = true) : ∀ (l1 : List Oper) (i : Nat) (listed : Array Bool) (env : List (List (Option AV))), (∀ j : Nat, j < l1.length → l1[j]? = l[i + j]?) → i + l1.length ≤ k → listed.size = l.length → DC md l.toArray listed →
    drF md l k qs l1.length i listed = true → aqs P W0 bs l.toArray (fun env => anyS P W0 n N md l.toArray (qtf k qs) Q fuel (setN l1.length i listed) bs (lk env)) l1 env → anyS P W0 n N md l.toArray (qtf k qs) Q (l1.length + fuel) listed bs (lk env)
  | [], i, listed, env, _, _, _, _, _, h => by
    simp only [List.length_nil, Nat.zero_add]
    exact h
  | o :: l1, i, listed, env, hl, hk, hs, hdc, hB, h => by
    have h0 : l.toArray[i]? = some o := by
      have := hl 0 (by simp)
      simpa using this.symm
    simp only [List.length_cons, drF, Bool.and_eq_true] at hB
    obtain ⟨⟨⟨hr, hf⟩, hc⟩, hB'⟩ := hB
    obtain ⟨x, hy, hkk⟩ := h
    have hqi : qtf k qs i = true := by
      simp only [List.length_cons] at hk
      simp only [qtf, Bool.or_eq_true, decide_eq_true_eq]
      left
      omega
    have hmem : i ∈ Region.ready md l.toArray listed := by simpa using hr
    have := anyS_first (P := P) (W0 := W0) (n := n) (N := N) (Q := Q) (bs := bs) h0 hqi (fun listed hs hdc hun => chk_spec hb hqi hc (by simpa using hs) hdc hun) (l1.length + fuel) listed (lk env) (by simpa using hs) hdc (Region.free_spec h0 hf) hmem hy ?_
    · simp only [List.length_cons]
      rw [show l1.length + 1 + fuel = l1.length + fuel + 1 by omega]
      exact this
    rw [← lk_putL]
    exact anyS_lex hb l1 (i + 1) _ _ (fun j hj => by have := hl (j + 1) (by simp; omega); simpa [Nat.add_assoc, Nat.add_comm 1 j] using this) (by simp only [List.length_cons] at hk; omega) (by simpa using hs) (hdc.set hmem) hB' hkk

/-- What is left of a drawn region. -/
def TL (P : Program) (W0 : World) (n N : Nat) (ops : Array Oper) (qt : Nat → Bool) (Q : St → Prop) (fuel : Nat) (listed : Array Bool) (bs : List Box) (env : List (List (Option AV))) : Prop :=
  anyS P W0 n N .any ops qt (fun bs e => ∃ env', lk env' = e ∧ Q ⟨N, env', bs⟩) fuel listed bs (lk env)
@[congr] theorem TL_congr {N : Nat} {ops : Array Oper} {qt : Nat → Bool} {Q : St → Prop} {fuel : Nat} {listed : Array Bool} {bs bs' : List Box} {env env' : List (List (Option AV))} (h : env = env') (h' : bs = bs') : TL P W0 n N ops qt Q fuel listed bs env = TL P W0 n N ops qt Q fuel listed bs' env' := by rw [h, h']

theorem A_drawn {Q : Ax → St → Prop} {st : St} {id : Nat} {l l1 : List Oper} {gs : List (Option (Option Nat × Bool))} (k : Nat) (qs : List Nat) (hm : P.follows .mixedOrders = true) (h1 : l.take k = l1) (hB : drB l k qs = true) (hg : gsl l.toArray l1 = gs) (hd : l.all (fun o => dOk st.N o.dst) = true) (hk : k ≤ l.length)
    (h : aqg P W0 st.bs l.toArray (fun env => TL P W0 n st.N l.toArray (qtf k qs) (Q .normal) (l.length - k) (setN k 0 (Array.replicate l.length false)) st.bs env) l1 gs st.env) : ACode P W0 n (.region id l.toArray true) Q st := by
  intro E M m a w hn hC
  have hd' : ∀ (i : Nat) (o : Oper), l.toArray[i]? = some o → dOk st.N o.dst = true := fun i o ho => List.all_eq_true.1 hd o (List.mem_of_getElem? (by simpa using ho))
  simp only [drB, Bool.and_eq_true] at hB
  have hl1 : l1.length = k := by rw [← h1, List.length_take]; omega
  refine wp_region_any hm (wpAny_ofS (P := P) (W0 := W0) (n := n) (qt := qtf k qs) (Q := fun bs e => ∃ env', lk env' = e ∧ Q .normal ⟨st.N, env', bs⟩) hn hd' (fun M m bs e a w hc ⟨env', he, hq⟩ => ⟨M, m, ⟨st.N, env', bs⟩, .normal, CE.to (by rw [he]; exact hc), hq, trivial⟩) _ _ M m st.bs (lk st.env) a _ (CE.of hC.drew) ?_)
  have := anyS_lex (P := P) (W0 := W0) (n := n) (N := st.N) (md := .any) (l := l) (k := k) (qs := qs) (bs := st.bs) (fuel := l.length - k) (Q := fun bs e => ∃ env', lk env' = e ∧ Q .normal ⟨st.N, env', bs⟩) hB.1 l1 0 (Array.replicate l.length false) st.env (fun j hj => by rw [← h1, List.getElem?_take, if_pos (by omega), Nat.zero_add]) (by omega) (by simp) (fun j o _ hj => by simp [Array.getD_eq_getD_getElem?, Array.getElem?_replicate] at hj; split at hj <;> simp at hj) (by rw [hl1]; exact hB.2) (by rw [hl1]; exact h hg)
  rw [hl1] at this
  simpa [show k + (l.length - k) = l.length by omega] using this
theorem T_nil {N : Nat} {ops : Array Oper} {qt : Nat → Bool} {Q : St → Prop} {fuel : Nat} {listed : Array Bool} {bs : List Box} {env : List (List (Option AV))} (hr : Region.ready .any ops listed = []) (h : Q ⟨N, env, bs⟩) : TL P W0 n N ops qt Q fuel listed bs env := by
  cases fuel with
  | zero => exact ⟨hr, env, rfl, h⟩
  | succ k => exact ⟨fun _ => ⟨env, rfl, h⟩, fun i hi => by rw [hr] at hi; cases hi⟩
theorem wp_exits {o : Oper} {a : Act} {w : World} {K : Act → World → Prop} {Q Q' : Exit → Act → World → Prop} (h : ∀ e a w, e ≠ .normal → Q e a w → Q' e a w) (hh : o.wp P a w K Q) : o.wp P a w K Q' := by
  unfold Oper.wp at *
  generalize (execOp a.eval o).run P w = r at *
  cases r with
  | ok n w' =>
    cases n <;> simp only [Oper.upon] at hh ⊢ <;>
      first
        | exact hh
        | exact h _ _ _ (by simp) hh
        | exact Calls.mono hh (fun e w'' he => by cases e <;> first | exact he | exact (let ⟨a, w, h'⟩ := he; ⟨a, w, h _ _ _ (by simp) h'⟩) | exact h _ _ _ (by simp) he)
  | halt x w' => cases x <;> simp only [Oper.upon] at hh ⊢ <;> first | exact hh | exact h _ _ _ (by simp) hh
theorem gO_of {N : Nat} {ops : Array Oper} {o : Oper} {bs : List Box} {env : List (List (Option AV))} {K : List Box → (Nat → Option AV) → Prop} (hg : o.guard = none) (h : AOps P W0 n ops [o] (fun ax st' => ax = .normal ∧ st'.N = N ∧ K st'.bs (lk st'.env)) ⟨N, env, bs⟩) : gO P W0 n N ops o K bs (lk env) := by
  intro E M m a w Q hn hc
  have := h E M m a w hn hc.to
  have hw : Region.wanted o (yielded ops a.tmps) = true := by simp [Region.wanted, hg]
  unfold wpList at this
  rw [if_pos hw] at this ⊢
  have no : ∀ e a w, e ≠ .normal → ¬ LQ W0 E (fun ax st' => ax = .normal ∧ st'.N = N ∧ K st'.bs (lk st'.env)) e a w := by
    rintro e a w he ⟨M, m, st, ax, _, ⟨rfl, _⟩, h3⟩
    cases e <;> first | exact he rfl | exact h3.elim
  rcases this with h1 | ⟨_, a, w, h1⟩
  · refine wp_exits (fun e a w he hq => (no e a w he hq).elim) (Oper.wp_mono ?_ h1)
    rintro a' w' ⟨M', m', st', ax, h2, ⟨rfl, rfl, h4⟩, _⟩
    exact ⟨M', m', st'.bs, lk st'.env, CE.of h2, h4⟩
  · exact (no _ a w (by simp) h1).elim
theorem T_one {N : Nat} {ops : Array Oper} {qt : Nat → Bool} {Q : St → Prop} {fuel : Nat} {listed : Array Bool} {bs : List Box} {env : List (List (Option AV))} (i : Nat) (o : Oper) (hr : Region.ready .any ops listed = [i]) (ho : ops[i]? = some o) (hq : qt i = false) (hg : o.guard = none)
    (h : AOps P W0 n ops [o] (fun ax st' => ax = .normal ∧ st'.N = N ∧ TL P W0 n N ops qt Q fuel (listed.setIfInBounds i true) st'.bs st'.env) ⟨N, env, bs⟩) : TL P W0 n N ops qt Q (fuel + 1) listed bs env := by
  refine ⟨fun h0 => (by rw [hr] at h0; cases h0), fun j hj => ?_⟩
  rw [hr, List.mem_singleton] at hj
  subst hj
  refine ⟨o, ho, ?_⟩
  rw [if_neg (by rw [hq]; simp)]
  exact gO_of hg h
end
end Go.Proofs.YtbgfiflnfndckaaDoor.Lift

/- The lift, fifteenth part: a variable that becomes data; slices held against nil, slices of no elements, slices cleared. No conditions: words and their laws. -/
set_option linter.unusedVariables false
set_option linter.unusedSimpArgs false
set_option linter.unusedSectionVars false
namespace Go.Proofs.YtbgfiflnfndckaaDoor.Lift
open Go Go.RowKit

mutual
/-- A variable becomes data. -/
def fvA (b : Nat) (ds : List D) : AV → AV
  | .ptr b' j => if b' = b then .dp (ds.drop j) else .ptr b' j
  | .ep b' sz' i j => if b' = b then .junk else .ep b' sz' i j
  | .sl b' sz' lo n => if b' = b then .junk else .sl b' sz' lo n
  | .fn f x => .fn f (fvL b ds x)
  | .agg x => .agg (fvL b ds x)
  | .tup x => .tup (fvL b ds x)
  | .opt g x => .opt g (fvA b ds x)
  | .mref b' => if b' = b then .junk else .mref b'
  | x => x
def fvL (b : Nat) (ds : List D) : List AV → List AV
  | [] => []
  | x :: xs => fvA b ds x :: fvL b ds xs
end
def fvE (b : Nat) (ds : List D) (e : List (List (Option AV))) : List (List (Option AV)) := mapE (fvA b ds) e
def fvB (b : Nat) (ds : List D) : Box → Box
  | .var cs => .var (fvL b ds cs)
  | .own sz' bt' cs => .own sz' bt' (fvL b ds cs)
  | x => x
theorem fvL_len (b : Nat) (ds : List D) : ∀ l : List AV, (fvL b ds l).length = l.length
  | [] => rfl
  | x :: l => by simp only [fvL, List.length_cons, fvL_len b ds l]

section
variable {M M' : Nat → Prop} {m m' : Nat → Pl} {w : World} {b : Nat} {ds : List D} (hm : ∀ b', b' ≠ b → m' b' = m b') (hM : ∀ k, M' k → M k) (hsl : ∀ (j : Nat) (u : Value), (∃ k, m b = .at_ k ∧ u = .pointer (some ⟨k, j, none⟩)) → ∃ g o, u = .pointer (some ⟨g, o, none⟩) ∧ PD M' w g o (ds.drop j))
include hm hM hsl
mutual
theorem RA.fv : ∀ (x : AV) (u : Value), RA M m w x u → RA M' m' w (fvA b ds x) u
  | .d x, u, h => by
    simp only [fvA, RA] at h ⊢
    exact h.mono (Fr.refl (fun _ => False) w) (fun _ _ x => x.elim) (fun k _ hk => hM k hk)
  | .dp ds', u, h => by
    simp only [fvA, RA] at h ⊢
    obtain ⟨g, o, h1, h2⟩ := h
    exact ⟨g, o, h1, h2.mono (Fr.refl (fun _ => False) w) (fun _ _ x => x.elim) (fun k _ hk => hM k hk)⟩
  | .ptr b' j, u, h => by
    simp only [fvA]
    split
    · rename_i e
      subst e
      simp only [RA] at h ⊢
      exact hsl j u h
    · rename_i e
      simp only [RA] at h ⊢
      rwa [hm b' e]
  | .ep b' sz' i j, u, h => by
    simp only [fvA]
    split
    · simp only [RA]
    · rename_i e
      simp only [RA] at h ⊢
      rwa [hm b' e]
  | .sl b' sz' lo n, u, h => by
    simp only [fvA]
    split
    · simp only [RA]
    · rename_i e
      simp only [RA] at h ⊢
      rwa [hm b' e]
  | .fn f x, u, h => by
    simp only [fvA, RA] at h ⊢
    obtain ⟨us, h1, h2⟩ := h
    exact ⟨us, h1, RAs.fv _ _ h2⟩
  | .agg x, u, h => by
    simp only [fvA, RA] at h ⊢
    obtain ⟨us, h1, h2⟩ := h
    exact ⟨us, h1, RAs.fv _ _ h2⟩
  | .tup x, u, h => by
    simp only [fvA, RA] at h ⊢
    obtain ⟨us, h1, h2⟩ := h
    exact ⟨us, h1, RAs.fv _ _ h2⟩
  | .opt g x, u, h => by
    simp only [fvA, RA] at h ⊢
    exact fun hg => RA.fv x u (h hg)
  | .mref b', u, h => by
    simp only [fvA]
    split
    · simp only [RA]
    · rename_i e
      simp only [RA] at h ⊢
      rwa [hm b' e]
  | .junk, u, h => by simp only [fvA, RA]
theorem RAs.fv : ∀ (x : List AV) (us : List Value), RAs M m w x us → RAs M' m' w (fvL b ds x) us
  | [], [], h => by simp only [fvL, RAs]
  | x :: xs, u :: us, h => by
    simp only [fvL, RAs] at h ⊢
    exact ⟨RA.fv x u h.1, RAs.fv xs us h.2⟩
  | [], _ :: _, h => by simp only [RAs] at h
  | _ :: _, [], h => by simp only [RAs] at h
end
end
theorem lk_fvE {b : Nat} {ds : List D} {x : List (List (Option AV))} {t : Nat} {y : AV} (h : lk (fvE b ds x) t = some y) : ∃ z, lk x t = some z ∧ y = fvA b ds z := by
  rw [fvE, lk_mapE, Option.map_eq_some_iff] at h
  obtain ⟨z, h1, h2⟩ := h
  exact ⟨z, h1, h2.symm⟩

section
variable {P : Program} {W0 : World} {n : Nat}

theorem Sb.freezeV {st : St} (b : Nat) {cs : List AV} {ds : List D} (hb : st.bs[b]? = some (.var cs)) (hds : toDs cs = some ds) (hn : n ≤ b) : Sb W0 n st ⟨st.N, fvE b ds st.env, (st.bs.map (fvB b ds)).set b .dead⟩ := by
  intro E M m a w hE h
  have hblt : b < st.bs.length := (List.getElem?_eq_some_iff.1 hb).1
  have hbox := h.box b _ hb
  simp only [BoxR] at hbox
  have hm : ∀ b', b' ≠ b → mAdd m b .no b' = m b' := fun b' e => if_neg e
  have hmb : mAdd m b .no b = .no := if_pos rfl
  have hMM : ∀ k, (M k ∧ m b ≠ .at_ k) → M k := fun k hk => hk.1
  have at_ : ∀ b' k, mAdd m b .no b' = .at_ k → b' ≠ b ∧ m b' = .at_ k := fun b' k hk => by
    by_cases e : b' = b
    · subst e
      rw [hmb] at hk
      cases hk
    · rw [hm b' e] at hk
      exact ⟨e, hk⟩
  have hsl : ∀ (j : Nat) (u : Value), (∃ k, m b = .at_ k ∧ u = .pointer (some ⟨k, j, none⟩)) → ∃ g o, u = .pointer (some ⟨g, o, none⟩) ∧ PD (fun k => M k ∧ m b ≠ .at_ k) w g o (ds.drop j) := by
    rintro j u ⟨k, h1, rfl⟩
    obtain ⟨k', C2, T2, h5, h6, h7⟩ := hbox
    rw [h1] at h5
    cases h5
    refine ⟨k, j, rfl, fun i d hi => ?_⟩
    rw [List.getElem?_drop] at hi
    have h8 : cs[j + i]? = some (.d d) := by rw [toDs_eq hds, List.getElem?_map, hi]; rfl
    obtain ⟨u, h9, h10⟩ := h7.get h8
    simp only [RA] at h10
    refine ⟨u, fun hk => hk.2 h1, ?_, h10.mono (Fr.refl (fun _ => False) w) (fun _ _ x => x.elim) (fun k _ hk => hk.1)⟩
    rw [cell_of_row w k _ C2 T2 (0, 0) h6]
    simpa using h9
  have getb : ∀ (b' : Nat) (y : Box), ((st.bs.map (fvB b ds)).set b .dead)[b']? = some y → (b' = b ∧ y = .dead) ∨ ∃ z, b' ≠ b ∧ st.bs[b']? = some z ∧ y = fvB b ds z := by
    intro b' y hy
    by_cases e : b' = b
    · subst e
      rw [List.getElem?_set_self (by simpa using hblt)] at hy
      cases hy
      exact .inl ⟨rfl, rfl⟩
    · rw [List.getElem?_set_ne (Ne.symm e), List.getElem?_map] at hy
      cases hx : st.bs[b']? with
      | none => simp [hx] at hy
      | some z =>
        simp only [hx, Option.map_some, Option.some.injEq] at hy
        exact .inr ⟨z, e, rfl, hy.symm⟩
  refine ⟨fun k => M k ∧ m b ≠ .at_ k, mAdd m b .no, { h with mLow := fun k hk => h.mLow k hk.1, mUp := ?_, mNew := fun k hk => h.mNew k hk.1, mLt := fun k hk => h.mLt k hk.1, mNo := ?_, mIn := ?_, inj := ?_, oldv := ?_, oldr := fun b' k hb' hk => h.oldr b' k hb' (at_ b' k hk).2, new := fun b' k hb' hk => h.new b' k hb' (at_ b' k hk).2, len := by simpa using h.len, box := ?_, env := ?_ }⟩
  · intro k hk
    refine ⟨h.mUp k hk, fun e => ?_⟩
    have h1 := h.new b k (by omega) e
    have h2 := h.eLt k hk
    omega
  · intro b' hb'
    simp at hb'
    rw [hm b' (by omega)]
    exact h.mNo b' hb'
  · intro b' k hk
    obtain ⟨e, h1⟩ := at_ b' k hk
    exact ⟨h.mIn b' k h1, fun e2 => e (h.inj b' b k h1 e2)⟩
  · intro b1 b2 k h1 h2
    exact h.inj b1 b2 k (at_ b1 k h1).2 (at_ b2 k h2).2
  · intro b' cs hb' hc
    rcases getb b' _ hc with ⟨_, h1⟩ | ⟨z, e, h1, h2⟩
    · cases h1
    · rw [hm b' e]
      cases z <;> simp only [fvB] at h2 <;> first
        | (cases h2; done)
        | exact h.oldv b' _ hb' h1
  · intro b' y hy
    rcases getb b' y hy with ⟨_, rfl⟩ | ⟨z, e, h1, rfl⟩
    · trivial
    · have hz := h.box b' z h1
      cases z with
      | dead => trivial
      | var cs =>
        obtain ⟨q, C, T, h1, h2, h3⟩ := hz
        exact ⟨q, C, T, (hm b' e).trans h1, h2, RAs.fv hm hMM hsl _ _ h3⟩
      | vec sz' bt' l' =>
        have hz' := BoxR.mono (M' := fun k => M k ∧ m b ≠ .at_ k) hz (Fr.refl (fun _ => False) w) (fun _ _ x => x.elim) (fun k _ hk => hk.1) (fun _ _ x => x)
        obtain ⟨g0, g1, g2, g3⟩ := hz'
        refine ⟨g0, g1, g2, ?_⟩
        rcases g3 with ⟨h4, h5⟩ | ⟨q, C, T, h4, h5⟩
        · exact .inl ⟨(hm b' e).trans h4, h5⟩
        · exact .inr ⟨q, C, T, (hm b' e).trans h4, h5⟩
      | mp es =>
        obtain ⟨q, F, c, h1, h2⟩ := hz
        exact ⟨q, F, c, (hm b' e).trans h1, h2⟩
      | own sz' bt' cs =>
        obtain ⟨g0, g1, g2, g3⟩ := hz
        refine ⟨g0, g1, by simpa only [fvL_len] using g2, ?_⟩
        rcases g3 with ⟨h4, h5⟩ | ⟨q, C, T, h4, h5, h6, h7⟩
        · exact .inl ⟨(hm b' e).trans h4, by rw [h5]; rfl⟩
        · refine .inr ⟨q, C, T, (hm b' e).trans h4, h5, by simpa only [fvL_len] using h6, ?_⟩
          rw [fvL_len]
          exact RAs.fv hm hMM hsl _ _ h7
  · intro t y hy
    obtain ⟨z, h1, rfl⟩ := lk_fvE hy
    exact RA.fv hm hMM hsl z _ (h.env t z h1)

theorem run_eqIn_slice {T e : TypeId} {w : World} (hu : P.underlying T = some (.slice e)) {d : Nat} {A : Option Addr} {k c : Nat} : (Op.equalIn (d + 1) T (.slice A k c) (.slice none 0 0)).run P w = .ok A.isNone w := by
  cases A <;> simp [Op.equalIn, run_underlying hu]
/-- A slice held against nil: if it has elements, it isn't nil. -/
theorem A_eqnil {Q : Ax → St → Prop} {st : St} {ops : Array Oper} {o : Oper} {rest : List Oper} {s : Operand} {T U e : TypeId} {x : D} (hg : o.guard = none) (ho : o.op = .binOp .eql T s (.const (.slice none 0 0)) U) (he : elT P T = some e) (h1 : evo (lk st.env) s = some (.d x)) (hx : x = .e ∨ ∃ sz bt l, x = .rows sz bt l) (hd : dOk st.N o.dst = true)
    (h : ∀ b : Bool, (∀ sz bt l, x = .rows sz bt l → l ≠ [] → b = false) → AOps P W0 n ops rest Q (st.put o.dst (.d (.v (.bool b))))) : AOps P W0 n ops (o :: rest) Q st := by
  intro E M m a w hE hC
  refine wpList_plain hg fun K hK => ?_
  have hs := evo_sound hC.env h1
  simp only [RA] at hs
  have key : ∃ A c k, a.eval s = .slice A k c ∧ (∀ sz bt l, x = .rows sz bt l → l ≠ [] → A.isNone = false) := by
    rcases hx with rfl | ⟨sz, bt, l, rfl⟩
    · cases hv : a.eval s <;> rw [hv] at hs <;> cases hs
      exact ⟨_, _, _, rfl, fun _ _ _ h => by cases h⟩
    · cases hv : a.eval s <;> rw [hv] at hs <;> cases hs
      rename_i A c U' hbt hb hc hA hU
      refine ⟨_, _, _, rfl, fun sz' bt' l' hl hne => ?_⟩
      cases hl
      cases l with
      | nil => exact absurd rfl hne
      | cons row l =>
        obtain ⟨_, g, o', h2, _⟩ := hA 0 row rfl
        rw [h2]
        rfl
  obtain ⟨A, c, k, hv, hb⟩ := key
  have hu := elT_iff he
  have hrun : (execOp a.eval o).run P w = .ok (.value (.bool A.isNone)) w := by
    have e2 : a.eval (.const (.slice none 0 0)) = .slice none 0 0 := rfl
    simp only [execOp, ho, hv, e2]
    have hb : (binOp .eql T (.slice A k c) (.slice none 0 0)).run P w = .ok (.bool A.isNone) w := by
      show (do pure (.bool (← Op.equalIn (9999 + 1) T (.slice A k c) (.slice none 0 0))) : Sem Value).run P w = _
      simp only [Sem.run_bind, run_eqIn_slice hu, Result.andThen_ok, Sem.run_pure]
    have hgd : eqGuard .eql T s (.const (.slice none 0 0)) (.slice A k c) (.slice none 0 0) = pure () := rfl
    simp only [hgd, Sem.run_bind, Sem.run_pure, Result.andThen_ok, hb]
  unfold Oper.wp
  rw [hrun]
  exact hK _ _ (h A.isNone hb E M m _ _ hE (hC.value (dOk_iff hd) (RA.v_mk rfl)))
/-- A slice literal without elements. -/
theorem A_nilslice {Q : Ax → St → Prop} {st : St} {ops : Array Oper} {o : Oper} {rest : List Oper} {T e sz : Nat} (hg : o.guard = none) (ho : o.op = .buildSlice T 0 #[]) (he : elT P T = some e) (hs : szT P e = some sz) (hd : dOk st.N o.dst = true)
    (h : AOps P W0 n ops rest Q (st.put o.dst (.d .e))) : AOps P W0 n ops (o :: rest) Q st := by
  intro E M m a w hE hC
  refine wpList_plain hg fun K hK => ?_
  have hu := elT_iff he
  have hrun : (execOp a.eval o).run P w = .ok (.value (.slice (some ⟨w.heap.size, 0, none⟩) 0 0)) (w.alloc (.cells #[] e)) := by
    have h0 : Array.range 0 = #[] := Array.eq_empty_of_size_eq_zero (by simp)
    simp [execOp, ho, Instr.buildSlice, run_underlying hu, run_szT hs, newRow, Instr.fill, h0]
  unfold Oper.wp
  rw [hrun]
  have hf : Fr (fun _ => False) w (w.alloc (.cells #[] e)) := Fr.alloc _ _
  have hC' := hC.chg (M' := M) hf (hC.base.trans hf) (fun _ h => h) (fun _ h => .inl h) (fun k hk => Nat.lt_of_lt_of_le (hC.mLt k hk) hf.size)
  exact hK _ _ (h E M m _ _ hE (hC'.value (dOk_iff hd) (by simp only [RA]; exact .e _)))
end
end Go.Proofs.YtbgfiflnfndckaaDoor.Lift

/- The lift, sixteenth part: slices cleared. No conditions: words and their laws. -/
set_option linter.unusedVariables false
set_option linter.unusedSimpArgs false
set_option linter.unusedSectionVars false
namespace Go.Proofs.YtbgfiflnfndckaaDoor.Lift
open Go Go.RowKit

section
variable {P : Program} {W0 : World} {n : Nat}

theorem zero_one {z : Value} {k : Nat} (h : z.cells.toList.all (·.oneCell') = true) : ∀ v ∈ (Builtin.zeroCells z.cells k).toList, v.oneCell' = true := by
  intro v hv
  simp only [Builtin.zeroCells, Array.toList_map, List.mem_map] at hv
  obtain ⟨i, hi, rfl⟩ := hv
  have hi' : i < k * z.cells.size := by simpa using hi
  have hpos : 0 < z.cells.size := Nat.pos_of_ne_zero fun e => by rw [e, Nat.mul_zero] at hi'; omega
  have hlt : i % z.cells.size < z.cells.size := Nat.mod_lt _ hpos
  refine List.all_eq_true.1 h _ ?_
  simp [hlt]

/-- The end of a row of one's own is cleared: of what was there nothing is known. -/
theorem A_clear {Q : Ax → St → Prop} {st : St} {ops : Array Oper} {o : Oper} {rest : List Oper} {s : Operand} {T e sz bt b lo k : Nat} {l : List (List D)} {z : List Value} (hg : o.guard = none) (ho : o.op = .call ⟨.builtin .clear, #[s], #[T]⟩) (hdst : o.dst = none) (he : elT P T = some e) (hs : szT P e = some sz) (hz : zrT P e = some z) (hzl : z.length = sz) (hz1 : z.all (·.oneCell') = true)
    (h1 : evo (lk st.env) s = some (.sl b sz lo k)) (hb : st.bs[b]? = some (.vec sz bt l)) (hlo : lo ≤ l.length)
    (h : AOps P W0 n ops rest Q ⟨st.N, st.env, st.bs.set b (.vec sz bt (l.take lo))⟩) : AOps P W0 n ops (o :: rest) Q st := by
  intro E M m a w hE hC
  refine wpList_plain hg fun K hK => ?_
  have hu := elT_iff he
  obtain ⟨hsz, hbt0, hb47, hbox⟩ := hC.box b _ hb
  have hs1 := evo_sound hC.env h1
  unfold zrT at hz
  cases hi : P.info? e with
  | none => simp [hi] at hz
  | some it =>
  simp only [hi, Option.bind_some, Option.map_eq_some_iff] at hz
  obtain ⟨zv, hzr, hzv⟩ := hz
  have hzs : zv.cells.size = sz := by rw [← Array.length_toList, hzv]; exact hzl
  have hex : ∀ v w', (Builtin.clear_ #[T] o.type #[a.eval s]).run P w = .ok v w' → (execOp a.eval o).run P w = .ok (.value v) w' := fun v w' hr => by
    simp only [execOp, ho, resolve, invoke, builtin, Sem.run_bind, Sem.run_pure, Result.andThen_ok, List.map_toArray, List.map_cons, List.map_nil, hr]
  have fin : ∀ (w' : World), (Builtin.clear_ #[T] o.type #[a.eval s]).run P w = .ok (.tuple #[]) w' → C W0 E M m ⟨st.N, st.env, st.bs.set b (.vec sz bt (l.take lo))⟩ a w' → o.wp P a w K (LQ W0 E Q) := fun w' hr hC' => by
    unfold Oper.wp
    rw [hex _ _ hr]
    refine hK _ _ (h E M m _ _ hE ?_)
    rw [hdst]
    exact hC'
  simp only [RA] at hs1
  rcases hs1 with ⟨rfl, rfl, hv, A, hse⟩ | ⟨q, cap, Cs, T', hmk, hse, hkc, hw, hfit⟩
  · have hl0 : l = [] := by
      rcases hbox with ⟨_, h2⟩ | ⟨q, _, _, h2, _⟩
      · exact h2
      · rw [hv] at h2
        cases h2
    subst hl0
    refine fin w ?_ ?_
    · rw [hse]
      cases A <;> simp [Builtin.clear_, run_underlying hu]
    · have : st.bs.set b (.vec sz bt (([] : List (List D)).take 0)) = st.bs := by
        obtain ⟨g1, g2⟩ := List.getElem?_eq_some_iff.1 hb
        rw [List.take_nil, ← g2]
        exact List.set_getElem_self g1
      rw [this]
      exact hC
  · have hrows : l.length * sz ≤ Cs.size ∧ ∀ i row, l[i]? = some row → row.length = sz ∧ ∀ j d, row[j]? = some d → ∃ u, Cs[i * sz + j]? = some u ∧ RD M w d u := by
      rcases hbox with ⟨h2, _⟩ | ⟨q', C2, T2, h2, h3, h4⟩
      · rw [hmk] at h2
        cases h2
      · rw [hmk] at h2
        cases h2
        rw [hw] at h3
        cases h3
        exact h4
    have close : ∀ Cn : Array Value, Cn.size = Cs.size → (∀ j, j < lo * sz → Cn[j]? = Cs[j]?) → C W0 E M m ⟨st.N, st.env, st.bs.set b (.vec sz bt (l.take lo))⟩ a (w.setRow q Cn) := fun Cn hsn hcn => by
      refine hC.setBox hb (fun cs hcs => by cases hcs) hmk hw hsn fun hf => ?_
      have hll : (l.take lo).length = lo := by simp; omega
      have hle : lo * sz ≤ l.length * sz := Nat.mul_le_mul_right _ hlo
      refine ⟨hsz, hbt0, Nat.le_trans (Nat.mul_le_mul_right _ (by omega)) hb47, .inr ⟨q, Cn, T', hmk, setRow_heap w q Cs Cn T' (0, 0) hw, by rw [hll]; omega, fun i row hi => ?_⟩⟩
      rw [List.getElem?_take] at hi
      split at hi
      · rename_i hilo
        obtain ⟨g1, g2⟩ := hrows.2 i row hi
        refine ⟨g1, fun j d hj => ?_⟩
        obtain ⟨u, g3, g4⟩ := g2 j d hj
        have hjs : j < sz := by rw [← g1]; exact (List.getElem?_eq_some_iff.1 hj).1
        have h6 : (i + 1) * sz ≤ lo * sz := Nat.mul_le_mul_right _ hilo
        rw [Nat.add_mul] at h6
        exact ⟨u, by rw [hcn _ (by omega)]; exact g3, g4.mono hf (fun i _ e => e ▸ hC.mIn b q hmk) (fun i _ x => x)⟩
      · cases hi
    by_cases hk0 : k = 0
    · subst hk0
      have hself : w.setRow q Cs = w := setRow_self w q Cs T' (0, 0) hw
      refine fin w ?_ (by have := close Cs rfl (fun _ _ => rfl); rwa [hself] at this)
      rw [hse]
      simp [Builtin.clear_, run_underlying hu]
    · obtain ⟨k, rfl⟩ := Nat.exists_eq_succ_of_ne_zero hk0
      have hfit' : lo * sz + (k + 1) * sz ≤ Cs.size := by
        have : (lo + (k + 1)) * sz ≤ (lo + cap) * sz := Nat.mul_le_mul_right _ (by omega)
        rw [Nat.add_mul] at this
        omega
      have hlen : (Builtin.zeroCells zv.cells (k + 1)).toList.length = (k + 1) * sz := by rw [Array.length_toList, size_zeroCells, hzs]
      have hst := run_storeCells_at P q (lo * sz) T' (Builtin.zeroCells zv.cells (k + 1)).toList 0 Cs w hw (by rw [hlen]; simpa using hfit') (zero_one (by rw [hzv]; exact hz1))
      refine fin (w.setRow q (Cs.toList.take (lo * sz + 0) ++ (Builtin.zeroCells zv.cells (k + 1)).toList ++ Cs.toList.drop (lo * sz + 0 + (Builtin.zeroCells zv.cells (k + 1)).toList.length)).toArray) ?_ (close _ ?_ ?_)
      · rw [hse]
        simp [Builtin.clear_, run_underlying hu, zeroValue, typeInfo, hi, hzr] at hst ⊢
        simp [hst]
      · simp [hlen]
        omega
      · intro j hj
        simp only [List.getElem?_toArray, Nat.add_zero]
        rw [List.append_assoc, List.getElem?_append_left (by simp; omega), List.getElem?_take, if_pos hj]
        simp
end
end Go.Proofs.YtbgfiflnfndckaaDoor.Lift

/- The lift: appends of whatever there is, bytes and texts, rows whose cells may name others. No conditions: words and their laws. -/
set_option linter.unusedVariables false
set_option linter.unusedSimpArgs false
namespace Go.Proofs.YtbgfiflnfndckaaDoor.Lift
open Go Go.RowKit

section
variable {P : Program}

theorem run_append_roomS (w : World) (t tx ty e : TypeId) {sz : Nat} (ht : P.underlying t = some (.slice e)) (hi : szT P e = some sz)
    (g sLen sCap : Nat) (cur : Array Value) (T : TypeId) (hg : w.heap[g]? = some (.cells cur T (0, 0)))
    {xe : Value} {m : Nat} {U : List Value} (hx : Src P sz tx xe m U w) (hroom : sLen + m ≤ sCap) (hfit : sLen * sz + U.length ≤ cur.size) :
    (Builtin.append_ #[t, tx] ty #[.slice (some ⟨g, 0, none⟩) sLen sCap, xe]).run P w = .ok (.slice (some ⟨g, 0, none⟩) (sLen + m) sCap) (w.setRow g (over cur.toList (sLen * sz) U).toArray) := by
  unfold szT at hi
  cases hq : P.info? e with
  | none => simp [hq] at hi
  | some i =>
    simp [hq] at hi
    subst hi
    have hst := run_storeCells_at P g (sLen * i.size) T U 0 cur w hg (by simpa using hfit) hx.one
    simp only [Nat.add_zero] at hst
    rcases hx.kind with ⟨e', hk⟩ | hk <;> simp [Builtin.append_, run_underlying ht, run_underlying hk, sizeOf, typeInfo, hq, hx.len, hroom, hx.cells, Addr.add_lit, hst, over]

/-- An append, in a world. -/
theorem append_run (w : World) {T tx e sz bt : Nat} {z : List Value} (he : elT P T = some e) (hs : szT P e = some sz) (hbt : btT P e = some bt) (hz : zrT P e = some z) (hzl : z.length = sz) (hbt0 : 0 < bt) (ty : TypeId)
    {se xe : Value} {k : Nat} {olds : List Value} {p : Nat → Prop}
    (hse : (∃ bA, se = .slice bA 0 0 ∧ k = 0 ∧ olds = []) ∨ ∃ q cap Cs T', p q ∧ se = .slice (some ⟨q, 0, none⟩) k cap ∧ k ≤ cap ∧ w.heap[q]? = some (Obj.cells Cs T' (0, 0)) ∧ cap * sz ≤ Cs.size ∧ olds = Cs.toList.take (k * sz))
    {n2 : Nat} {U : List Value} (hx : Src P sz tx xe n2 U w) (hbound : (k + n2) * bt ≤ 140737488355328) :
    (k = 0 ∧ n2 = 0 ∧ (∃ bA, se = .slice bA 0 0) ∧ (Builtin.append_ #[T, tx] ty #[se, xe]).run P w = .ok se w) ∨
    ∃ w' q Cn T' cap, (Builtin.append_ #[T, tx] ty #[se, xe]).run P w = .ok (.slice (some ⟨q, 0, none⟩) (k + n2) cap) w' ∧ k + n2 ≤ cap ∧ cap * sz ≤ Cn.size ∧ w'.heap[q]? = some (Obj.cells Cn T' (0, 0)) ∧
      ((p q ∧ Fr (fun i => i = q) w w') ∨ (w.heap.size ≤ q ∧ Fr (fun _ => False) w w')) ∧ ∃ r, Cn.toList = olds ++ U ++ r := by
  have hu := elT_iff he
  unfold btT at hbt
  unfold zrT at hz
  cases hi : P.info? e with
  | none => simp [hi] at hbt
  | some it =>
  simp only [hi, Option.map_some, Option.some.injEq] at hbt
  simp only [hi, Option.bind_some, Option.map_eq_some_iff] at hz
  obtain ⟨zv, hzr, hzv⟩ := hz
  have hits : it.size = sz := by simpa [szT, hi] using hs
  have hzs : zv.cells.size = sz := by rw [← Array.length_toList, hzv]; exact hzl
  have hsum : ((k + n2 : Nat) : Int) ≤ 9223372036854775807 := by
    have : k + n2 ≤ (k + n2) * bt := Nat.le_mul_of_pos_right _ hbt0
    omega
  have hb48 : (k + n2) * it.bytes ≤ 140737488355328 := by rw [hbt]; omega
  have hx' : Src P it.size tx xe n2 U w := by rw [hits]; exact hx
  have hUl : U.length = n2 * sz := hx.newsLen
  have grow : ∀ (bA : Option Addr) (cap0 : Nat), se = .slice bA k cap0 → olds.length = k * sz → (Builtin.firstCells it.size k (.slice bA k cap0)).run P w.drew = .ok olds.toArray w.drew → cap0 < k + n2 →
      ∃ w' q Cn T' cap, (Builtin.append_ #[T, tx] ty #[se, xe]).run P w = .ok (.slice (some ⟨q, 0, none⟩) (k + n2) cap) w' ∧ k + n2 ≤ cap ∧ cap * sz ≤ Cn.size ∧ w'.heap[q]? = some (Obj.cells Cn T' (0, 0)) ∧
        ((p q ∧ Fr (fun i => i = q) w w') ∨ (w.heap.size ≤ q ∧ Fr (fun _ => False) w w')) ∧ ∃ r, Cn.toList = olds ++ U ++ r := by
    intro bA cap0 hse hol hold hcap
    have hge := grownCap_ge w (k + n2) cap0 e
    have hr := run_append_grow_src (P := P) w T tx ty e it zv hu hi hzr bA k cap0 olds hold xe n2 U hx' hcap hsum (growslice_fits hcap hb48)
    subst hse
    refine ⟨_, _, _, _, _, hr, hge, ?_, heap_alloc_new w.drew _, .inr ⟨Nat.le_refl _, (Fr.drew w).trans (Fr.alloc _ _)⟩, (Builtin.zeroCells zv.cells (grownCap w (k + n2) cap0 e - (k + n2))).toList, by simp only [Array.toList_append]⟩
    simp only [Array.size_append, List.size_toArray, List.length_append, size_zeroCells, hzs, hol, hUl, ← Nat.add_mul]
    refine Nat.le_of_eq ?_
    congr 1
    omega
  rcases hse with ⟨bA, rfl, rfl, rfl⟩ | ⟨q, cap, Cs, T', hp, rfl, hlc, hw, hfit, rfl⟩
  · by_cases hne : n2 = 0
    · subst hne
      have hU0 : U = [] := List.eq_nil_of_length_eq_zero (by simpa using hUl)
      subst hU0
      refine .inl ⟨rfl, rfl, ⟨bA, rfl⟩, ?_⟩
      rcases hx.kind with ⟨e', hk⟩ | hk <;> cases bA <;> simp [Builtin.append_, run_underlying hu, run_underlying hk, sizeOf, typeInfo, hi, hx'.len, hx'.cells, storeCells]
    · refine .inr (grow bA 0 rfl (by simp) ?_ (by omega))
      cases bA with
      | none => exact run_firstCells_none (P := P) w.drew it.size 0 0 0
      | some xa => exact run_firstCells_some (P := P) w.drew it.size 0 xa 0 0 [] (by simp) (fun j v hj => by simp at hj)
  · refine .inr ?_
    have hks : k * sz ≤ Cs.size := Nat.le_trans (Nat.mul_le_mul_right _ hlc) hfit
    by_cases hroom : k + n2 ≤ cap
    · have hroom' : (k + n2) * sz ≤ Cs.size := Nat.le_trans (Nat.mul_le_mul_right _ hroom) hfit
      rw [Nat.add_mul] at hroom'
      have hr := run_append_roomS (P := P) w T tx ty e hu hs q k cap Cs T' hw hx hroom (by rw [hUl]; exact hroom')
      have hol : (over Cs.toList (k * sz) U).length = Cs.size := by rw [over_len _ _ _ (by rw [hUl]; simpa using hroom'), Array.length_toList]
      refine ⟨_, _, _, T', _, hr, hroom, by simp [hol]; exact hfit, setRow_heap w q Cs _ T' (0, 0) hw, .inl ⟨hp, Fr.setRow w q Cs _ T' hw rfl (by simpa using hol)⟩, Cs.toList.drop (k * sz + U.length), by simp only [over]⟩
    · refine grow (some ⟨q, 0, none⟩) cap rfl (by simp; omega) ?_ (by omega)
      exact run_firstCells_some (P := P) w.drew it.size k ⟨q, 0, none⟩ k cap (Cs.toList.take (k * sz)) (by rw [hits]; simp; omega) (fun j v hj => by
        rw [Addr.add_lit, Nat.zero_add]
        have h2 : w.drew.cell? ⟨q, j, none⟩ = w.cell? ⟨q, j, none⟩ := by simp
        rw [h2, cell_of_row w q j Cs T' (0, 0) hw]
        rw [List.getElem?_take] at hj
        split at hj
        · simpa using hj
        · cases hj)
end

section
variable {P : Program} {W0 : World} {n : Nat}

theorem take_app {α : Type} {x y : List α} {k : Nat} (h : x.length = k) : (x ++ y).take k = x := by subst h; simp
/-- A text's bytes, as rows. -/
def bytesD (s : ByteArray) : List (List D) := s.data.toList.map fun b => [D.v (.int .u8 b.toNat)]
theorem bytesD_len (s : ByteArray) : (bytesD s).length = s.size := by
  unfold bytesD
  rw [List.length_map, Array.length_toList]
  rfl
theorem bytesD_get (s : ByteArray) (i : Nat) : (bytesD s)[i]? = (s.data[i]?).map fun b => [D.v (.int .u8 b.toNat)] := by
  simp [bytesD]
theorem bytesD_append (s t : ByteArray) : bytesD (s ++ t) = bytesD s ++ bytesD t := by
  unfold bytesD
  rw [← List.map_append]
  congr 1

/-- Rows that lie in cells. -/
def RowsR (M : Nat → Prop) (w : World) (sz : Nat) (l : List (List D)) (U : List Value) : Prop := ∀ (i : Nat) (row : List D), l[i]? = some row → row.length = sz ∧ ∀ (j : Nat) (d : D), row[j]? = some d → ∃ v, U[i * sz + j]? = some v ∧ RD M w d v
theorem src_rows {E : En} {M : Nat → Prop} {m : Nat → Pl} {st : St} {a : Act} {w : World} (h : C W0 E M m st a w) {T e sz bt : Nat} (he : elT P T = some e) (hsz : 0 < sz) {x : Operand} {X : AV} {l2 : List (List D)} (h2 : evo (lk st.env) x = some X) (hX : apR st.bs sz bt X = some l2) :
    ∃ U, Src P sz T (a.eval x) l2.length U w ∧ RowsR M w sz l2 U := by
  obtain ⟨A, c, U, hxe, hUl, hU1, hUA, hUr⟩ := apR_sound h (evo_sound h.env h2) hsz hX
  refine ⟨U, ?_, hUr⟩
  rw [hxe]
  have hu := elT_iff he
  by_cases hne : l2 = []
  · subst hne
    have hU0 : U = [] := List.eq_nil_of_length_eq_zero (by simpa using hUl)
    subst hU0
    cases A with
    | none => exact Src.ofNil w hu c
    | some xa => exact Src.ofSlice w hu xa 0 c [] (by simp) (fun j u hj => by simp at hj) (by simp)
  · obtain ⟨g, o', rfl, hc⟩ := hUA hne
    exact Src.ofSlice w hu _ _ c U hUl (fun j u hj => by rw [Addr.add_lit]; exact hc j u hj) hU1
theorem src_text {E : En} {M : Nat → Prop} {m : Nat → Pl} {st : St} {a : Act} {w : World} (h : C W0 E M m st a w) {tx : Nat} (hs : isStr P tx = true) {x : Operand} {s : ByteArray} (h2 : evo (lk st.env) x = some (.d (.v (.string s)))) :
    ∃ U, Src P 1 tx (a.eval x) (bytesD s).length U w ∧ RowsR M w 1 (bytesD s) U := by
  have hx := (evo_sound h.env h2).v_inv.1
  rw [hx, bytesD_len]
  refine ⟨byteCells s, Src.ofString w (isStr_iff hs) s, fun i row hi => ?_⟩
  rw [bytesD_get, Option.map_eq_some_iff] at hi
  obtain ⟨b, h3, rfl⟩ := hi
  refine ⟨rfl, fun j d hj => ?_⟩
  match j, hj with
  | 0, hj =>
    cases hj
    exact ⟨.int .u8 b.toNat, by simp [byteCells, h3], .v _ rfl⟩
  | j + 1, hj => simp at hj
theorem RowsR.mono {M M' : Nat → Prop} {w w' : World} {sz : Nat} {l : List (List D)} {U U' : List Value} (h : RowsR M w sz l U) (off : Nat) (hU : ∀ (q : Nat) (v : Value), U[q]? = some v → U'[off + q]? = some v) (hr : ∀ (d : D) (v : Value), RD M w d v → RD M' w' d v) :
    ∀ (i : Nat) (row : List D), l[i]? = some row → row.length = sz ∧ ∀ (j : Nat) (d : D), row[j]? = some d → ∃ v, U'[off + (i * sz + j)]? = some v ∧ RD M' w' d v := fun i row hi => by
  obtain ⟨h1, h2⟩ := h i row hi
  refine ⟨h1, fun j d hj => ?_⟩
  obtain ⟨v, h3, h4⟩ := h2 j d hj
  exact ⟨v, hU _ _ h3, hr d v h4⟩

/-- An append of whatever there is to a row of one's own. -/
theorem A_appendG {Q : Ax → St → Prop} {st : St} {ops : Array Oper} {o : Oper} {rest : List Oper} {s x : Operand} {T tx e sz bt b k : Nat} {l l2 : List (List D)} {z : List Value} (hg : o.guard = none) (ho : o.op = .call ⟨.builtin .append, #[s, x], #[T, tx]⟩) (he : elT P T = some e) (hs : szT P e = some sz) (hbt : btT P e = some bt) (hz : zrT P e = some z) (hzl : z.length = sz)
    (h1 : evo (lk st.env) s = some (.sl b sz 0 k)) (hk : k = l.length) (hb : st.bs[b]? = some (.vec sz bt l)) (hsrc : ∀ E M m a w, C W0 E M m st a w → ∃ U, Src P sz tx (a.eval x) l2.length U w ∧ RowsR M w sz l2 U) (hd : dOk st.N o.dst = true) (hbound : (l.length + l2.length) * bt ≤ 140737488355328)
    (h : AOps P W0 n ops rest Q ((⟨st.N, killE b st.env, (st.bs.map (killB b)).set b (.vec sz bt (l ++ l2))⟩ : St).put o.dst (.sl b sz 0 (l ++ l2).length))) : AOps P W0 n ops (o :: rest) Q st := by
  subst hk
  intro E M m a w hE hC
  refine wpList_plain hg fun K hK => ?_
  obtain ⟨hsz, hbt0, hb47, hbox⟩ := hC.box b _ hb
  have hs1 := evo_sound hC.env h1
  obtain ⟨U, hsU, hrU⟩ := hsrc E M m a w hC
  have hex : ∀ v w', (Builtin.append_ #[T, tx] o.type #[a.eval s, a.eval x]).run P w = .ok v w' → (execOp a.eval o).run P w = .ok (.value v) w' := fun v w' hr => by
    simp only [execOp, ho, resolve, invoke, builtin, Sem.run_bind, Sem.run_pure, Result.andThen_ok, List.map_toArray, List.map_cons, List.map_nil, hr]
  simp only [RA] at hs1
  -- the row as it lies
  obtain ⟨olds, hse, hol, hrows⟩ : ∃ olds, ((∃ bA, a.eval s = .slice bA 0 0 ∧ l.length = 0 ∧ olds = []) ∨ ∃ q cap Cs T', m b = .at_ q ∧ a.eval s = .slice (some ⟨q, 0, none⟩) l.length cap ∧ l.length ≤ cap ∧ w.heap[q]? = some (Obj.cells Cs T' (0, 0)) ∧ cap * sz ≤ Cs.size ∧ olds = Cs.toList.take (l.length * sz)) ∧ olds.length = l.length * sz ∧ RowsR M w sz l olds := by
    rcases hbox with ⟨hmv, hl0⟩ | ⟨q, Cs, T', hmk, hw, hlen, hrows⟩
    · subst hl0
      rcases hs1 with ⟨_, _, _, bA, hse⟩ | ⟨q, cap, C1, T1, h3, _⟩
      · exact ⟨[], .inl ⟨bA, hse, rfl, rfl⟩, by simp, fun i row hi => by simp at hi⟩
      · rw [hmv] at h3
        cases h3
    · rcases hs1 with ⟨_, _, h3, _⟩ | ⟨q', cap, C1, T1, h3, hse, hlc, hw1, hfit⟩
      · rw [hmk] at h3
        cases h3
      · rw [hmk] at h3
        cases h3
        rw [hw] at hw1
        cases hw1
        simp only [Nat.zero_mul, Nat.zero_add] at hse hfit
        refine ⟨_, .inr ⟨q, cap, Cs, T', hmk, hse, hlc, hw, hfit, rfl⟩, by simp; omega, fun i row hi => ?_⟩
        obtain ⟨g1, g2⟩ := hrows i row hi
        refine ⟨g1, fun j d hj => ?_⟩
        obtain ⟨u, g3, g4⟩ := g2 j d hj
        have hi' : i < l.length := (List.getElem?_eq_some_iff.1 hi).1
        have hj' : j < sz := by rw [← g1]; exact (List.getElem?_eq_some_iff.1 hj).1
        have : (i + 1) * sz ≤ l.length * sz := Nat.mul_le_mul_right _ hi'
        rw [Nat.add_mul] at this
        exact ⟨u, by rw [List.getElem?_take, if_pos (by omega)]; simpa using g3, g4⟩
  rcases append_run w he hs hbt hz hzl hbt0 o.type hse hsU hbound with ⟨h0, h2, ⟨bA, hbA⟩, hr⟩ | ⟨w', q, Cn, T', cap, hr, hcap, hfit, hw, hcase, r, hCl⟩
  · have hl0 : l = [] := List.eq_nil_of_length_eq_zero h0
    have hl2 : l2 = [] := List.eq_nil_of_length_eq_zero h2
    subst hl0 hl2
    have hC' := hC.killed hb
    unfold Oper.wp
    rw [hex _ _ hr]
    refine hK _ _ (h E _ _ _ _ hE (hC'.value (dOk_iff hd) ?_))
    simpa only [RA, List.append_nil, List.length_nil, List.nil_append] using hs1
  · have hf : Fr (fun i => i = q) w w' := by
      rcases hcase with ⟨_, h1⟩ | ⟨_, h1⟩
      · exact h1
      · exact Fr.weak h1 fun _ _ x => x.elim
    have hq : q < w.heap.size → M q := fun hlt => by
      rcases hcase with ⟨h1, _⟩ | ⟨h1, _⟩
      · exact hC.mIn b q h1
      · omega
    have newRD : ∀ (d : D) (u : Value), RD M w d u → RD (fun i => M i ∨ i = q) w' d u := fun d u hr =>
      hr.mono hf (fun i hi e => e ▸ hq (e ▸ hi)) (fun i hi hx => hx.elim id fun e => e ▸ hq (e ▸ hi))
    have hR : ∀ (i : Nat) (row : List D), (l ++ l2)[i]? = some row → row.length = sz ∧ ∀ (j : Nat) (d : D), row[j]? = some d → ∃ u, Cn.toList[i * sz + j]? = some u ∧ RD (fun i => M i ∨ i = q) w' d u := by
      refine rows_append (fun i row hi => ?_) (fun i row hi => ?_)
      · have := RowsR.mono hrows 0 (U' := Cn.toList) (fun q v hv => by rw [hCl, List.append_assoc, Nat.zero_add, List.getElem?_append_left (List.getElem?_eq_some_iff.1 hv).1]; exact hv) newRD i row hi
        simpa using this
      · have := RowsR.mono hrU (l.length * sz) (U' := Cn.toList) (fun q v hv => by rw [hCl, List.append_assoc, List.getElem?_append_right (by omega), hol, Nat.add_sub_cancel_left, List.getElem?_append_left (List.getElem?_eq_some_iff.1 hv).1]; exact hv) newRD i row hi
        refine ⟨this.1, fun j d hj => ?_⟩
        obtain ⟨v, h3, h4⟩ := this.2 j d hj
        exact ⟨v, by rw [Nat.add_mul, Nat.add_assoc]; exact h3, h4⟩
    have hle : (l ++ l2).length * sz ≤ Cn.size := Nat.le_trans (Nat.mul_le_mul_right _ (by rw [List.length_append]; exact hcap)) hfit
    have hC' := hC.regrow hb hw hsz hbt0 (by rw [List.length_append]; exact hbound) hle hcase (fun i row hi => by simpa using hR i row hi)
    unfold Oper.wp
    rw [hex _ _ hr]
    refine hK _ _ (h E _ _ _ _ hE (hC'.value (dOk_iff hd) ?_))
    simp only [RA]
    exact .inr ⟨q, cap, Cn, T', if_pos rfl, by simp, by rw [List.length_append]; exact hcap, hw, by simpa using hfit⟩

theorem killL_append (b : Nat) : ∀ l l' : List AV, killL b (l ++ l') = killL b l ++ killL b l'
  | [], _ => by simp only [killL, List.nil_append]
  | x :: l, l' => by simp only [List.cons_append, killL, killL_append b l l']
theorem killL_d (b : Nat) : ∀ l : List D, killL b (l.map .d) = l.map .d
  | [] => by simp only [killL, List.map_nil]
  | x :: l => by simp only [List.map_cons, killL, killA, killL_d b l]
/-- Rows one behind another. -/
theorem flat_len {α : Type} {sz : Nat} : ∀ {l : List (List α)}, (∀ row ∈ l, row.length = sz) → l.flatten.length = l.length * sz
  | [], _ => by simp
  | r :: l, h => by
    rw [List.flatten_cons, List.length_append, flat_len (fun row hr => h row (List.mem_cons_of_mem _ hr)), h r (List.mem_cons_self ..), List.length_cons, Nat.add_mul]
    omega
theorem flat_get {α : Type} {sz : Nat} : ∀ {l : List (List α)}, (∀ row ∈ l, row.length = sz) → ∀ (i j : Nat), j < sz → l.flatten[i * sz + j]? = (l[i]?).bind (·[j]?)
  | [], _, i, j, _ => by simp
  | r :: l, h, 0, j, hj => by
    rw [List.flatten_cons, Nat.zero_mul, Nat.zero_add, List.getElem?_append_left (by rw [h r (List.mem_cons_self ..)]; exact hj)]
    simp
  | r :: l, h, i + 1, j, hj => by
    have hr := h r (List.mem_cons_self ..)
    rw [List.flatten_cons, List.getElem?_append_right (by rw [hr, Nat.add_mul]; omega), hr, show (i + 1) * sz + j - sz = i * sz + j by rw [Nat.add_mul]; omega, flat_get (fun row hr => h row (List.mem_cons_of_mem _ hr)) i j hj]
    simp
theorem RowsR.ras {M : Nat → Prop} {m : Nat → Pl} {w : World} {sz : Nat} {l : List (List D)} {U : List Value} (hsz : 0 < sz) (h : RowsR M w sz l U) (hU : U.length = l.length * sz) : RAs M m w (l.flatten.map .d) U := by
  have hrow : ∀ row ∈ l, row.length = sz := fun row hr => by
    obtain ⟨i, hi⟩ := List.getElem?_of_mem hr
    exact (h i row hi).1
  refine RAs.mk (by rw [List.length_map, flat_len hrow, hU]) fun q x u hx hu => ?_
  have hq : q = q / sz * sz + q % sz := by rw [Nat.mul_comm]; exact (Nat.div_add_mod q sz).symm
  rw [List.getElem?_map, hq, flat_get hrow _ _ (Nat.mod_lt _ hsz), Option.map_eq_some_iff] at hx
  obtain ⟨d, hd, rfl⟩ := hx
  obtain ⟨row, h1, h2⟩ := Option.bind_eq_some_iff.1 hd
  obtain ⟨v, h3, h4⟩ := (h _ row h1).2 _ d h2
  rw [← hq, hu] at h3
  cases h3
  simp only [RA]
  exact h4

/-- An append of data to a row of one's own whose cells may name others. -/
theorem A_appendO {Q : Ax → St → Prop} {st : St} {ops : Array Oper} {o : Oper} {rest : List Oper} {s x : Operand} {T tx e sz bt b k : Nat} {cs : List AV} {l2 : List (List D)} {z : List Value} (hg : o.guard = none) (ho : o.op = .call ⟨.builtin .append, #[s, x], #[T, tx]⟩) (he : elT P T = some e) (hs : szT P e = some sz) (hbt : btT P e = some bt) (hz : zrT P e = some z) (hzl : z.length = sz)
    (h1 : evo (lk st.env) s = some (.sl b sz 0 k)) (hk : cs.length = k * sz) (hb : st.bs[b]? = some (.own sz bt cs)) (hsrc : ∀ E M m a w, C W0 E M m st a w → ∃ U, Src P sz tx (a.eval x) l2.length U w ∧ RowsR M w sz l2 U) (hd : dOk st.N o.dst = true) (hbound : (k + l2.length) * bt ≤ 140737488355328)
    (h : AOps P W0 n ops rest Q ((⟨st.N, killE b st.env, (st.bs.map (killB b)).set b (.own sz bt (killL b cs ++ l2.flatten.map .d))⟩ : St).put o.dst (.sl b sz 0 (k + l2.length)))) : AOps P W0 n ops (o :: rest) Q st := by
  intro E M m a w hE hC
  refine wpList_plain hg fun K hK => ?_
  obtain ⟨hsz, hbt0, hb47, hbox⟩ := hC.box b _ hb
  have hs1 := evo_sound hC.env h1
  obtain ⟨U, hsU, hrU⟩ := hsrc E M m a w hC
  have hex : ∀ v w', (Builtin.append_ #[T, tx] o.type #[a.eval s, a.eval x]).run P w = .ok v w' → (execOp a.eval o).run P w = .ok (.value v) w' := fun v w' hr => by
    simp only [execOp, ho, resolve, invoke, builtin, Sem.run_bind, Sem.run_pure, Result.andThen_ok, List.map_toArray, List.map_cons, List.map_nil, hr]
  have hrow2 : ∀ row ∈ l2, row.length = sz := fun row hr => by
    obtain ⟨i, hi⟩ := List.getElem?_of_mem hr
    exact (hrU i row hi).1
  simp only [RA] at hs1
  obtain ⟨olds, hse, hol, hras⟩ : ∃ olds, ((∃ bA, a.eval s = .slice bA 0 0 ∧ k = 0 ∧ olds = []) ∨ ∃ q cap Cs T', m b = .at_ q ∧ a.eval s = .slice (some ⟨q, 0, none⟩) k cap ∧ k ≤ cap ∧ w.heap[q]? = some (Obj.cells Cs T' (0, 0)) ∧ cap * sz ≤ Cs.size ∧ olds = Cs.toList.take (k * sz)) ∧ olds.length = k * sz ∧ RAs M m w cs olds := by
    rcases hbox with ⟨hmv, hl0⟩ | ⟨q, Cs, T', hmk, hw, hlen, hrows⟩
    · subst hl0
      rcases hs1 with ⟨h0, _, _, bA, hse⟩ | ⟨q, cap, C1, T1, h3, _⟩
      · subst h0
        exact ⟨[], .inl ⟨bA, hse, rfl, rfl⟩, by simp, by simp only [RAs]⟩
      · rw [hmv] at h3
        cases h3
    · rcases hs1 with ⟨_, _, h3, _⟩ | ⟨q', cap, C1, T1, h3, hse, hlc, hw1, hfit⟩
      · rw [hmk] at h3
        cases h3
      · rw [hmk] at h3
        cases h3
        rw [hw] at hw1
        cases hw1
        simp only [Nat.zero_mul, Nat.zero_add] at hse hfit
        exact ⟨_, .inr ⟨q, cap, Cs, T', hmk, hse, hlc, hw, hfit, rfl⟩, by simp; omega, by rw [← hk]; exact hrows⟩
  rcases append_run w he hs hbt hz hzl hbt0 o.type hse hsU hbound with ⟨h0, h2, ⟨bA, hbA⟩, hr⟩ | ⟨w', q, Cn, T', cap, hr, hcap, hfit, hw, hcase, r, hCl⟩
  · have hl2 : l2 = [] := List.eq_nil_of_length_eq_zero h2
    have hc0 : cs = [] := List.eq_nil_of_length_eq_zero (by rw [hk, h0, Nat.zero_mul])
    subst hl2 hc0 h0
    have hC' := hC.killedG hb (fun cs e => by cases e)
    unfold Oper.wp
    rw [hex _ _ hr]
    refine hK _ _ (h E _ _ _ _ hE (hC'.value (dOk_iff hd) ?_))
    simpa only [RA, List.length_nil] using hs1
  · have hf : Fr (fun i => i = q) w w' := by
      rcases hcase with ⟨_, h1⟩ | ⟨_, h1⟩
      · exact h1
      · exact Fr.weak h1 fun _ _ x => x.elim
    have hC' := hC.regrowG (y := .own sz bt (killL b cs ++ l2.flatten.map .d)) hb hw (fun _ e => by cases e) hcase fun hm hf hE hM => by
      have hlen : (killL b cs ++ l2.flatten.map AV.d).length = (k + l2.length) * sz := by rw [List.length_append, killL_len, List.length_map, flat_len hrow2, hk, Nat.add_mul]
      refine ⟨hsz, hbt0, ⟨k + l2.length, hlen, hbound⟩, .inr ⟨q, Cn, T', if_pos rfl, hw, by rw [hlen]; exact Nat.le_trans (Nat.mul_le_mul_right _ hcap) hfit, ?_⟩⟩
      have hUl : U.length = l2.length * sz := hsU.newsLen
      rw [hlen, hCl, take_app (by rw [List.length_append, hol, hUl, Nat.add_mul])]
      refine RAs.append (RAs.kill hm _ _ (RAs.mono hf hE hM _ _ hras)) ?_
      exact RAs.grow (m := fun _ => .no) (fun b hb => absurd rfl hb) (RAs.mono hf hE hM _ _ (hrU.ras hsz hUl))
    unfold Oper.wp
    rw [hex _ _ hr]
    refine hK _ _ (h E _ _ _ _ hE (hC'.value (dOk_iff hd) ?_))
    simp only [RA]
    exact .inr ⟨q, cap, Cn, T', if_pos rfl, by simp, hcap, hw, by simpa using hfit⟩
end
end Go.Proofs.YtbgfiflnfndckaaDoor.Lift

/- The lift: rows of one kind as rows of the other; looking at them; bytes as texts and back. No conditions: words and their laws. -/
set_option linter.unusedVariables false
set_option linter.unusedSimpArgs false
namespace Go.Proofs.YtbgfiflnfndckaaDoor.Lift
open Go Go.RowKit

section
variable {P : Program} {W0 : World} {n : Nat}

theorem C.rebox {E : En} {M : Nat → Prop} {m : Nat → Pl} {st : St} {a : Act} {w : World} (h : C W0 E M m st a w) {b : Nat} {x y : Box} (hb : st.bs[b]? = some x) (hyv : ∀ cs, y ≠ .var cs) (hy : BoxR M m w b y) : C W0 E M m ⟨st.N, st.env, st.bs.set b y⟩ a w := by
  have hblt : b < st.bs.length := (List.getElem?_eq_some_iff.1 hb).1
  refine { h with mNo := by simpa using h.mNo, oldv := ?_, len := by simpa using h.len, box := ?_ }
  · intro b' cs hb' hc
    simp only at hc
    by_cases e : b' = b
    · subst e
      rw [List.getElem?_set_self hblt] at hc
      exact absurd (Option.some.inj hc) (hyv cs)
    · rw [List.getElem?_set_ne (Ne.symm e)] at hc
      exact h.oldv b' cs hb' hc
  · intro b' z hz
    simp only at hz
    by_cases e : b' = b
    · subst e
      rw [List.getElem?_set_self hblt] at hz
      cases hz
      exact hy
    · rw [List.getElem?_set_ne (Ne.symm e)] at hz
      exact h.box b' z hz

theorem Sb.toOwn {st : St} (b : Nat) {sz bt : Nat} {l : List (List D)} (hb : st.bs[b]? = some (.vec sz bt l)) : Sb W0 n st ⟨st.N, st.env, st.bs.set b (.own sz bt (l.flatten.map .d))⟩ := by
  intro E M m a w hE h
  obtain ⟨hsz, hbt, hb47, hbox⟩ := h.box b _ hb
  refine ⟨M, m, h.rebox hb (fun cs e => by cases e) ?_⟩
  rcases hbox with ⟨h1, h2⟩ | ⟨k, C, T, h1, h2, h3, h4⟩
  · subst h2
    exact ⟨hsz, hbt, ⟨0, by simp, by simp⟩, .inl ⟨h1, by simp⟩⟩
  · have hrow : ∀ row ∈ l, row.length = sz := fun row hr => by
      obtain ⟨i, hi⟩ := List.getElem?_of_mem hr
      exact (h4 i row hi).1
    have hfl : (l.flatten.map AV.d).length = l.length * sz := by rw [List.length_map, flat_len hrow]
    refine ⟨hsz, hbt, ⟨l.length, hfl, hb47⟩, .inr ⟨k, C, T, h1, h2, by rw [hfl]; exact h3, ?_⟩⟩
    rw [hfl]
    have hR : RowsR M w sz l (C.toList.take (l.length * sz)) := fun i row hi => by
      obtain ⟨g1, g2⟩ := h4 i row hi
      refine ⟨g1, fun j d hj => ?_⟩
      obtain ⟨u, g3, g4⟩ := g2 j d hj
      have hi' : i < l.length := (List.getElem?_eq_some_iff.1 hi).1
      have hj' : j < sz := by rw [← g1]; exact (List.getElem?_eq_some_iff.1 hj).1
      have : (i + 1) * sz ≤ l.length * sz := Nat.mul_le_mul_right _ hi'
      rw [Nat.add_mul] at this
      exact ⟨u, by rw [List.getElem?_take, if_pos (by omega)]; simpa using g3, g4⟩
    exact hR.ras hsz (by simp; omega)

theorem Sb.ofOwn {st : St} (b : Nat) {sz bt : Nat} {l : List (List D)} (hrow : ∀ row ∈ l, row.length = sz) (hb : st.bs[b]? = some (.own sz bt (l.flatten.map .d))) : Sb W0 n st ⟨st.N, st.env, st.bs.set b (.vec sz bt l)⟩ := by
  intro E M m a w hE h
  obtain ⟨hsz, hbt, ⟨q, hq, hqb⟩, hbox⟩ := h.box b _ hb
  have hfl : (l.flatten.map AV.d).length = l.length * sz := by rw [List.length_map, flat_len hrow]
  have hql : q = l.length := Nat.eq_of_mul_eq_mul_right hsz (hq.symm.trans hfl)
  subst hql
  refine ⟨M, m, h.rebox hb (fun cs e => by cases e) ⟨hsz, hbt, hqb, ?_⟩⟩
  rcases hbox with ⟨h1, h2⟩ | ⟨k, C, T, h1, h2, h3, h4⟩
  · refine .inl ⟨h1, ?_⟩
    rw [h2] at hfl
    have : l.length * sz = 0 := by simpa using hfl.symm
    rcases Nat.mul_eq_zero.1 this with h5 | h5
    · exact List.eq_nil_of_length_eq_zero h5
    · omega
  · refine .inr ⟨k, C, T, h1, h2, by rw [← hfl]; exact h3, fun i row hi => ?_⟩
    have hr := hrow row (List.mem_of_getElem? hi)
    refine ⟨hr, fun j d hj => ?_⟩
    have hj' : j < sz := by rw [← hr]; exact (List.getElem?_eq_some_iff.1 hj).1
    obtain ⟨u, h5, h6⟩ := h4.get (i := i * sz + j) (x := .d d) (by rw [List.getElem?_map, flat_get hrow i j hj', hi, Option.bind_some, hj]; rfl)
    rw [List.getElem?_take] at h5
    split at h5
    · simp only [RA] at h6
      exact ⟨u, by simpa using h5, h6⟩
    · cases h5

/-- A part of such a row, looked at: what is no data is anything. -/
theorem own_data {E : En} {M : Nat → Prop} {m : Nat → Pl} {st : St} {a : Act} {w : World} (h : C W0 E M m st a w) {b sz bt : Nat} {cs : List AV} {l : List (List D)} (hb : st.bs[b]? = some (.own sz bt cs)) (hrow : ∀ row ∈ l, row.length = sz) (hlen : cs.length = l.length * sz)
    (hv : ∀ (i : Nat) (x : AV) (d : D), cs[i]? = some x → l.flatten[i]? = some d → x = .d d ∨ d = .any ∧ x.one = true) : ∀ lo n u, lo + n ≤ l.length → RA M m w (.sl b sz lo n) u → RD (fun k => M k ∧ m b ≠ .at_ k) w (.rows sz bt ((l.drop lo).take n)) u := by
  obtain ⟨hsz, hbt, ⟨q, hq, hqb⟩, hbox⟩ := h.box b _ hb
  have hql : q = l.length := Nat.eq_of_mul_eq_mul_right hsz (hq.symm.trans hlen)
  subst hql
  intro lo n u hle hr
  have hlen' : ((l.drop lo).take n).length = n := by simp; omega
  have hbn : ((l.drop lo).take n).length * bt ≤ 140737488355328 := Nat.le_trans (Nat.mul_le_mul_right _ (by omega)) hqb
  have get : ∀ (i : Nat) (row : List D), ((l.drop lo).take n)[i]? = some row → l[lo + i]? = some row := fun i row hi => by
    rw [List.getElem?_take] at hi
    split at hi
    · rwa [List.getElem?_drop] at hi
    · cases hi
  simp only [RA] at hr
  rcases hr with ⟨rfl, rfl, _, A, rfl⟩ | ⟨k, cap, C1, T1, h1, rfl, h2, h3, h4⟩
  · have := RD.rows (M := fun k => M k ∧ m b ≠ .at_ k) (w := w) sz bt [] A 0 (fun _ _ => default) hbt (by simp) (by simp) (fun i row h => by simp at h) (fun i row j d h => by simp at h)
    simpa using this
  · rcases hbox with ⟨h5, _⟩ | ⟨k', C2, T2, h5, h6, h7, h8⟩
    · rw [h1] at h5
      cases h5
    · rw [h1] at h5
      cases h5
      have cell : ∀ (i : Nat) (row : List D), ((l.drop lo).take n)[i]? = some row → row.length = sz ∧ ∀ (j : Nat) (d : D), row[j]? = some d → ∃ v, C2[(lo + i) * sz + j]? = some v ∧ RD (fun k' => M k' ∧ m b ≠ .at_ k') w d v := fun i row hi => by
        have hi2 := get i row hi
        have hr := hrow row (List.mem_of_getElem? hi2)
        refine ⟨hr, fun j d hj => ?_⟩
        have hj' : j < sz := by rw [← hr]; exact (List.getElem?_eq_some_iff.1 hj).1
        have hil : lo + i < l.length := (List.getElem?_eq_some_iff.1 hi2).1
        have hfit : (lo + i) * sz + j < cs.length := by
          have : (lo + i + 1) * sz ≤ l.length * sz := Nat.mul_le_mul_right _ hil
          rw [Nat.add_mul] at this
          omega
        have hx : cs[(lo + i) * sz + j]? = some cs[(lo + i) * sz + j] := List.getElem?_eq_getElem hfit
        obtain ⟨v, h9, h10⟩ := h8.get hx
        rw [List.getElem?_take, if_pos hfit] at h9
        refine ⟨v, by simpa using h9, ?_⟩
        rcases hv _ _ d hx (by rw [flat_get hrow _ _ hj', hi2, Option.bind_some, hj]) with e | ⟨rfl, e⟩
        · rw [e] at h10
          simp only [RA] at h10
          exact h10.mono (Fr.refl (fun _ => False) w) (fun _ _ x => x.elim) (fun k _ hk => hk.1)
        · exact .any v (RA.one e h10)
      have := RD.rows (M := fun i => M i ∧ m b ≠ .at_ i) (w := w) sz bt ((l.drop lo).take n) (some ⟨k, lo * sz, none⟩) cap (fun i j => C2.getD ((lo + i) * sz + j) default) hbt hbn (by omega) (fun i row hi => ?_) (fun i row j d hi hj => ?_)
      · rw [hlen'] at this
        exact this
      · obtain ⟨g1, g2⟩ := cell i row hi
        refine ⟨g1, k, lo * sz, rfl, fun j hj => ⟨fun hk => hk.2 h1, ?_⟩⟩
        obtain ⟨v, g3, _⟩ := g2 j row[j] (List.getElem?_eq_getElem (by omega))
        rw [cell_of_row w k _ C2 T2 (0, 0) h6, show lo * sz + i * sz + j = (lo + i) * sz + j by rw [Nat.add_mul], g3]
        simp [Array.getD_eq_getD_getElem?, g3]
      · obtain ⟨g1, g2⟩ := cell i row hi
        obtain ⟨v, g3, g4⟩ := g2 j d hj
        have : C2.getD ((lo + i) * sz + j) default = v := by simp [Array.getD_eq_getD_getElem?, g3]
        simp only [this]
        exact g4

theorem foldl_bytes : ∀ (l : List UInt8) (acc : ByteArray), ((l.map fun b => (b.toNat : Int)).foldl (fun r n => r.push (UInt8.ofNat n.toNat)) acc) = ⟨acc.data ++ l.toArray⟩
  | [], acc => by simp
  | b :: l, acc => by
    rw [List.map_cons, List.foldl_cons, foldl_bytes l]
    simp [ByteArray.push]
theorem bytes_text (w : World) {src dst e : TypeId} (he : elT P src = some e) (hu : ikT P e = some .u8) (hd : isStr P dst = true) (s : ByteArray) (A : Option Addr) (cap : Nat)
    (hA : s.size = 0 ∨ ∃ g o, A = some ⟨g, o, none⟩ ∧ ∀ (i : Nat) (b : UInt8), s.data[i]? = some b → w.cell? ⟨g, o + i, none⟩ = some (.int .u8 b.toNat)) : (convert src dst (.slice A s.size cap)).run P w = .ok (.string s) w := by
  have hs := elT_iff he
  have hd' := isStr_iff hd
  have hl : ∀ a : Addr, A = some a → (loadCells a s.size).run P w = .ok ((s.data.toList.map fun b => (b.toNat : Int)).map (Value.int .u8)).toArray w := by
    intro a ha
    have := run_loadCells_list (P := P) w a ((s.data.toList.map fun b => (b.toNat : Int)).map (Value.int .u8)) (fun j v hj => by
      rcases hA with h0 | ⟨g, o, h1, h2⟩
      · have : s.data.toList = [] := List.eq_nil_of_length_eq_zero (by rw [Array.length_toList]; exact h0)
        rw [this] at hj
        simp at hj
      · rw [ha] at h1
        cases h1
        simp only [List.map_map, List.getElem?_map, Option.map_eq_some_iff] at hj
        obtain ⟨b, hb, rfl⟩ := hj
        rw [Addr.add_lit]
        exact h2 j b (by simpa using hb))
    have hlen : ((s.data.toList.map fun b => (b.toNat : Int)).map (Value.int .u8)).length = s.size := by
      rw [List.length_map, List.length_map, Array.length_toList]
      rfl
    rw [hlen] at this
    exact this
  rw [run_convert_bytes_string w src dst e _ s.size cap hs (ikT_iff hu) hd']
  cases A with
  | none =>
    rcases hA with h0 | ⟨g, o, h1, _⟩
    · have : s = ByteArray.empty := by
        obtain ⟨d⟩ := s
        have : d = #[] := Array.eq_empty_of_size_eq_zero h0
        rw [this]
        rfl
      rw [this]
      simp [Conv.bytesToString]
    · cases h1
  | some a =>
    rw [run_bytesToString w a s.size cap _ (hl a rfl), foldl_bytes]
    have e : ByteArray.empty.data ++ s.data.toList.toArray = s.data := by
      simp [ByteArray.empty, ByteArray.emptyWithCapacity]
      rfl
    rw [e]

/-- Bytes as a text. -/
theorem A_tostr {Q : Ax → St → Prop} {st : St} {ops : Array Oper} {o : Oper} {rest : List Oper} {y : Operand} {src dst e bt : Nat} {Y : AV} (s : ByteArray) (hg : o.guard = none) (ho : o.op = .convert src dst y) (he : elT P src = some e) (hu : ikT P e = some .u8) (hs : isStr P dst = true)
    (hy : evo (lk st.env) y = some Y) (hY : apR st.bs 1 bt Y = some (bytesD s)) (hd : dOk st.N o.dst = true) (h : AOps P W0 n ops rest Q (st.put o.dst (.d (.v (.string s))))) : AOps P W0 n ops (o :: rest) Q st := by
  intro E M m a w hE hC
  refine wpList_plain hg fun K hK => ?_
  obtain ⟨A, c, U, hxe, hUl, hU1, hUA, hUr⟩ := apR_sound hC (evo_sound hC.env hy) (by decide) hY
  have hr : (execOp a.eval o).run P w = .ok (.value (.string s)) w := by
    have := bytes_text (P := P) w he hu hs s A c (by
      by_cases h0 : s.size = 0
      · exact .inl h0
      · have hne : bytesD s ≠ [] := fun e => h0 (by rw [← bytesD_len, e]; rfl)
        obtain ⟨g, o', rfl, hc⟩ := hUA hne
        refine .inr ⟨g, o', rfl, fun i b hb => ?_⟩
        obtain ⟨_, h2⟩ := hUr i [.v (.int .u8 b.toNat)] (by rw [bytesD_get, hb]; rfl)
        obtain ⟨v, h3, h4⟩ := h2 0 _ rfl
        cases h4
        exact hc i _ (by simpa using h3))
    rw [bytesD_len] at hxe
    simp only [execOp, ho, hxe, Sem.run_bind, this, Result.andThen_ok, Sem.run_pure]
  unfold Oper.wp
  rw [hr]
  exact hK _ _ (h E _ _ _ _ hE (hC.value (dOk_iff hd) (RA.v_mk rfl)))

/-- A text as bytes. -/
theorem A_tobytes {Q : Ax → St → Prop} {st : St} {ops : Array Oper} {o : Oper} {rest : List Oper} {y : Operand} {src dst e : Nat} (s : ByteArray) (hg : o.guard = none) (ho : o.op = .convert src dst y) (he : elT P dst = some e) (hu : ikT P e = some .u8) (hs : isStr P src = true)
    (hy : evo (lk st.env) y = some (.d (.v (.string s)))) (hsz : s.size ≤ 140737488355328) (hd : dOk st.N o.dst = true) (h : AOps P W0 n ops rest Q (st.put o.dst (.d (.rows 1 1 (bytesD s))))) : AOps P W0 n ops (o :: rest) Q st := by
  intro E M m a w hE hC
  refine wpList_plain hg fun K hK => ?_
  have hv := (evo_sound hC.env hy).v_inv.1
  have hcv := Lib.run_convert_string_bytes (P := P) w src dst e s (isStr_iff hs) (elT_iff he) (ikT_iff hu)
  have hr : (execOp a.eval o).run P w = .ok (.value (.slice (some ⟨w.heap.size, 0, none⟩) s.size (grownCap w s.size 0 e))) (Lib.bytesWorld w e s) := by
    simp only [execOp, ho, hv, Sem.run_bind, hcv, Result.andThen_ok, Sem.run_pure]
  have hf : Fr (fun _ => False) w (Lib.bytesWorld w e s) := by
    refine ⟨rfl, ?_, ?_, by rw [Lib.bytesWorld_size]; omega, fun k hk _ => Lib.bytesWorld_at_old w e s k hk, fun k C T hk => ⟨C, (Lib.bytesWorld_at_old w e s k (Array.getElem?_eq_some_iff.1 hk).1).trans hk, rfl⟩⟩
    · rfl
    · rfl
  have hC' : C W0 E M m st a (Lib.bytesWorld w e s) := hC.chg hf (hC.base.trans hf) (fun _ h => h) (fun _ h => .inl h) (fun k hk => Nat.lt_of_lt_of_le (hC.mLt k hk) hf.size)
  unfold Oper.wp
  rw [hr]
  refine hK _ _ (h E _ _ _ _ hE (hC'.value (dOk_iff hd) ?_))
  have hge := grownCap_ge w s.size 0 e
  have := RD.rows (M := M) (w := Lib.bytesWorld w e s) 1 1 (bytesD s) (some ⟨w.heap.size, 0, none⟩) (grownCap w s.size 0 e) (fun i _ => .int .u8 (s.data.toList.getD i 0).toNat) (by decide) (by rw [bytesD_len]; omega) (by rw [bytesD_len]; exact hge) (fun i row hi => ?_) (fun i row j d hi hj => ?_)
  · simp only [RA]
    rw [bytesD_len] at this
    exact this
  · rw [bytesD_get, Option.map_eq_some_iff] at hi
    obtain ⟨b, hb, rfl⟩ := hi
    have hlt : i < s.size := (Array.getElem?_eq_some_iff.1 hb).1
    refine ⟨rfl, w.heap.size, 0, rfl, fun j hj => ⟨fun hm => absurd (hC.mLt _ hm) (Nat.lt_irrefl _), ?_⟩⟩
    obtain rfl : j = 0 := by omega
    have := Lib.bytesWorld_cell w e s i hlt
    simpa using this
  · rw [bytesD_get, Option.map_eq_some_iff] at hi
    obtain ⟨b, hb, rfl⟩ := hi
    match j, hj with
    | 0, hj =>
      cases hj
      have : s.data.toList.getD i 0 = b := by simp [List.getD, hb]
      rw [this]
      exact .v _ rfl
    | j + 1, hj => simp at hj
end
end Go.Proofs.YtbgfiflnfndckaaDoor.Lift

/- The lift: a variable's slice without room; calls that are handed boxes, told one by one. No conditions: words and their laws. -/
set_option linter.unusedVariables false
set_option linter.unusedSimpArgs false
namespace Go.Proofs.YtbgfiflnfndckaaDoor.Lift
open Go Go.RowKit

section
variable {P : Program} {W0 : World} {n : Nat}

/-- A variable's slice without room is taken for a row of one's own, without elements. -/
theorem Sb.opnC {st : St} {b j sz bt : Nat} {cs : List AV} (hb : st.bs[b]? = some (.var cs)) (h : cs[j]? = some (.d .e)) (hsz : 0 < sz) (hbt : 0 < bt) : Sb W0 n st ⟨st.N, st.env, st.bs.set b (.var (cs.set j (.sl st.bs.length sz 0 0))) ++ [.vec sz bt []]⟩ := by
  intro E M m a w hn hC
  have hblt : b < st.bs.length := (List.getElem?_eq_some_iff.1 hb).1
  have hg : ∀ b, m b ≠ .no → mAdd m st.bs.length .virt b = m b := fun b hb => by
    unfold mAdd
    rw [if_neg]
    intro e
    exact hb (hC.mNo b (by omega))
  have at_ : ∀ b k, mAdd m st.bs.length .virt b = .at_ k → m b = .at_ k := fun b k hb => by
    unfold mAdd at hb
    split at hb
    · cases hb
    · exact hb
  refine ⟨M, mAdd m st.bs.length .virt, { hC with mNo := ?_, mIn := fun b k hb => hC.mIn b k (at_ b k hb), inj := fun b b' k hb hb' => hC.inj b b' k (at_ b k hb) (at_ b' k hb'), oldv := ?_, oldr := fun b k hb hk => hC.oldr b k hb (at_ b k hk), new := fun b k hb hk => hC.new b k hb (at_ b k hk), len := ?_, box := ?_, env := fun t y hy => RA.grow hg (hC.env t y hy) }⟩
  · intro b hb
    simp at hb
    unfold mAdd
    rw [if_neg (by omega)]
    exact hC.mNo b (by omega)
  · intro b' cs' hb' hc
    have := hC.len
    simp only at hc
    rw [List.getElem?_append_left (by simp; omega)] at hc
    have hold : ∃ cs0, st.bs[b']? = some (.var cs0) := by
      by_cases e : b' = b
      · exact ⟨cs, e ▸ hb⟩
      · rw [List.getElem?_set_ne (Ne.symm e)] at hc
        exact ⟨_, hc⟩
    obtain ⟨cs0, h0⟩ := hold
    rw [← hC.oldv b' cs0 hb' h0]
    unfold mAdd
    rw [if_neg (by omega)]
  · have := hC.len
    simp
    omega
  · intro b' y hb'
    by_cases hlt : b' < st.bs.length
    · simp only at hb'
      rw [List.getElem?_append_left (by simpa using hlt)] at hb'
      by_cases e : b' = b
      · subst e
        rw [List.getElem?_set_self hblt] at hb'
        cases hb'
        obtain ⟨k, Cs, T, h1, h2, h3⟩ := hC.box b' _ hb
        refine ⟨k, Cs, T, (hg b' (by simp [h1])).trans h1, h2, RAs.mk (by simpa using h3.length) fun i x u hx hu => ?_⟩
        rw [List.getElem?_set] at hx
        split at hx
        · rename_i e
          subst e
          split at hx
          · cases hx
            obtain ⟨u', h4, h5⟩ := h3.get h
            rw [hu] at h4
            cases h4
            simp only [RA] at h5 ⊢
            refine .inl ⟨trivial, trivial, if_pos rfl, ?_⟩
            cases h5 with
            | e A => exact ⟨A, rfl⟩
          · cases hx
        · obtain ⟨u', h4, h5⟩ := h3.get hx
          rw [hu] at h4
          cases h4
          exact RA.grow hg h5
      · rw [List.getElem?_set_ne (Ne.symm e)] at hb'
        exact (hC.box b' y hb').grow hg
    · have hbe : b' = st.bs.length := by
        have := (List.getElem?_eq_some_iff.1 hb').1
        simp at this
        omega
      subst hbe
      simp at hb'
      subst hb'
      exact ⟨hsz, hbt, by simp, .inl ⟨if_pos rfl, rfl⟩⟩

theorem sg_c0 (b : Nat) (sel : List Nat) (k : Nat) : sg (b :: sel) k 0 = b := rfl
theorem sg_cS (b : Nat) (sel : List Nat) (k i : Nat) : sg (b :: sel) k (i + 1) = sg sel k i := by
  unfold sg
  simp only [List.getElem?_cons_succ, List.length_cons, Nat.add_sub_add_right]
def selOk (bs : List Box) (σ : Nat → Nat) : List Nat → List Box → Prop
  | [], [] => True
  | b :: sel, x :: L => bs[b]? = some (renB σ x) ∧ selOk bs σ sel L
  | _, _ => False
theorem selOk_get {bs : List Box} {σ : Nat → Nat} : ∀ {sel : List Nat} {L : List Box}, selOk bs σ sel L → L.length = sel.length ∧ ∀ (i b : Nat), sel[i]? = some b → bs[b]? = (L[i]?).map (renB σ)
  | [], [], _ => ⟨rfl, fun i b h => by simp at h⟩
  | c :: sel, x :: L, h => by
    obtain ⟨h1, h2⟩ := selOk_get h.2
    refine ⟨by simp [h1], fun i b hi => ?_⟩
    cases i with
    | zero =>
      simp only [List.getElem?_cons_zero, Option.some.injEq] at hi
      subst hi
      exact h.1
    | succ i => exact h2 i b (by simpa using hi)
  | [], _ :: _, h => h.elim
  | _ :: _, [], h => h.elim

/-- A call that is handed some boxes. -/
theorem A_callS {Q : Ax → St → Prop} {st : St} {ops : Array Oper} {o : Oper} {rest : List Oper} {fo : Operand} {args : Array Operand} {ts : Array TypeId} {f : FuncId} {caps xs : List AV} (sel : List Nat) {cargs : List AV} {L : List Box} {R : Res → List Box → Prop} (hcall : ACalls P W0 f cargs L R)
    (hg : o.guard = none) (ho : o.op = .call ⟨.value fo, args, ts⟩) (hf : evo (lk st.env) fo = some (.fn f caps)) (ha : evl (lk st.env) args.toList = some xs) (hc : callable P f = true) (hd : dOk st.N o.dst = true)
    (hn : sel.Nodup) (hL : selOk st.bs (sg sel st.bs.length) sel L) (hargs : renL (sg sel st.bs.length) cargs = xs ++ caps)
    (h : ∀ r L', R r L' → kindsOk L L' = true ∧ match r with | .ret x => AOps P W0 n ops rest Q ((st.aft sel L L').put o.dst (renA (sg sel st.bs.length) x)) | .panic x => Q (.panic (renA (sg sel st.bs.length) x)) (st.aft sel L L')) : AOps P W0 n ops (o :: rest) Q st :=
  A_callB sel hcall hg ho hf ha hc hd hn (selOk_get hL).1 (selOk_get hL).2 hargs h

/-- A function that answers a row of its asker's own answers data. -/
theorem ACalls.frozen {f : FuncId} {args : List AV} {sz bt k : Nat} {l : List (List D)} (hk : k = l.length) (h : ACalls P W0 f args [] (fun r L' => r = .ret (.sl 0 sz 0 k) ∧ L' = [.vec sz bt l])) : APure P W0 f args (· = .ret (.d (.rows sz bt l))) := by
  subst hk
  intro M m w us hc ha
  refine (h M m w us hc ha).mono ?_
  rintro e w' ⟨r, L', M', m', ⟨rfl, rfl⟩, hres, hC⟩
  cases e with
  | returned u =>
    have h3 := hC.frame (args := [.sl 0 sz 0 l.length]) (us := #[u]) (N := 1) (by simp only [RAs, and_true]; exact hres) (by simp)
    obtain ⟨M2, m2, h4⟩ := Sb.freeze (W0 := W0) (n := 0) 0 (sz := sz) (bt := bt) (l := l) rfl (Nat.zero_le _) _ M' m' _ w' rfl h3
    have hx := h4.env 0 (.d (.rows sz bt l)) (by simp [fzE, lk_mapE, mkEnv, lk_ofL, lkA, fzA])
    obtain ⟨M3, m3, h5, h6⟩ := fin_pure (W0 := W0) (x := .d (.rows sz bt l)) (x' := .d (.rows sz bt l)) rfl (Le.refl _) _ M2 m2 _ w' u rfl h4 (by simpa using hx)
    exact ⟨_, [], M3, m3, ⟨rfl, rfl⟩, h6, h5⟩
  | panicked c => exact hres.elim
  | outgrown => exact hres.elim
end
end Go.Proofs.YtbgfiflnfndckaaDoor.Lift

/- The lift: what a row is handed, opened by its type. No conditions: words and their laws. -/
set_option linter.unusedVariables false
set_option linter.unusedSimpArgs false
namespace Go.Proofs.YtbgfiflnfndckaaDoor.Lift
open Go Go.RowKit Go.WideShapes

/-- Cells that are data, as a type says. -/
inductive TyD (P : Program) : TypeId → List D → Prop
  | int (t : TypeId) (k : IntKind) (a : Int) (hu : P.underlying t = some (.int k)) (h : (Lit.int k a).wf = true) : TyD P t [.v (.int k a)]
  | str (t : TypeId) (s : ByteArray) (hu : P.underlying t = some .string) (h : s.size ≤ 140737488351232) : TyD P t [.v (.string s)]
  | bool (t : TypeId) (b : Bool) (hu : P.underlying t = some .bool) : TyD P t [.v (.bool b)]
  | float (t : TypeId) (k : FloatKind) (b : Nat) (hu : P.underlying t = some (.float k)) (h : (Lit.float k b).wf = true) : TyD P t [.v (.float k b)]
  | slice (t e sz bt : Nat) (l : List (List D)) (hu : P.underlying t = some (.slice e)) (hs : P.cellsOf e = sz) (hb : P.bytesOf e = bt) (hl : l.length * bt ≤ 140737488351232) (h : ∀ row ∈ l, TyD P e row) : TyD P t [.rows sz bt l]
  | struct (t : TypeId) (fs : Array Field) (dss : List (List D)) (hu : P.underlying t = some (.struct fs)) (hl : dss.length = fs.size) (h : ∀ (i : Nat) (f : Field) (ds : List D), fs[i]? = some f → dss[i]? = some ds → TyD P f.type ds) : TyD P t dss.flatten

/-- Cells that are data. -/
def Dts (w : World) (ds : List D) (us : List Value) : Prop := ds.length = us.length ∧ ∀ (i : Nat) (d : D) (u : Value), ds[i]? = some d → us[i]? = some u → RD (fun _ => False) w d u
theorem Dts.append {w : World} {a b : List D} {x y : List Value} (h : Dts w a x) (h' : Dts w b y) : Dts w (a ++ b) (x ++ y) := by
  refine ⟨by rw [List.length_append, List.length_append, h.1, h'.1], fun i d u hd hu => ?_⟩
  by_cases hi : i < a.length
  · rw [List.getElem?_append_left hi] at hd
    rw [List.getElem?_append_left (by rw [← h.1]; exact hi)] at hu
    exact h.2 i d u hd hu
  · rw [List.getElem?_append_right (by omega)] at hd
    rw [List.getElem?_append_right (by rw [← h.1]; omega), ← h.1] at hu
    exact h'.2 _ d u hd hu
theorem Dts.one {w : World} {d : D} {u : Value} (h : RD (fun _ => False) w d u) : Dts w [d] [u] :=
  ⟨rfl, fun i d' u' hd hu => match i, hd, hu with | 0, hd, hu => by cases hd; cases hu; exact h⟩
theorem Dts.ras {w : World} {ds : List D} {us : List Value} (h : Dts w ds us) : RAs (fun _ => False) (fun _ => .no) w (ds.map .d) us :=
  RAs.mk (by simpa using h.1) fun i x u hx hu => by
    rw [List.getElem?_map, Option.map_eq_some_iff] at hx
    obtain ⟨d, hd, rfl⟩ := hx
    simp only [RA]
    exact h.2 i d u hd hu
theorem spot_none {w : World} {a : Addr} {v : Value} (h : w.cell? a = some v) : a = ⟨a.block, a.off, none⟩ := by
  obtain ⟨b, o, s⟩ := a
  cases s with
  | none => rfl
  | some k =>
    unfold World.cell? at h
    split at h
    · simp at h
    · cases h
theorem rows_rd {w : World} {A : Option Addr} {sz bt c : Nat} {l : List (List D)} (hsz : 0 < sz) (hbt : 0 < bt) (hb : l.length * bt ≤ 140737488355328) (hc : l.length ≤ c) (Us : Nat → List Value)
    (hrow : ∀ i row, l[i]? = some row → row.length = sz ∧ Dts w row (Us i)) (hA : ∀ i, i < l.length → ∃ a, A = some a ∧ ∀ j u, (Us i)[j]? = some u → w.cell? ((a.add (i * sz)).add j) = some u) : RD (fun _ => False) w (.rows sz bt l) (.slice A l.length c) := by
  refine .rows sz bt l A c (fun i j => (Us i).getD j default) hbt hb hc (fun i row hi => ?_) (fun i row j d hi hj => ?_)
  · have hil : i < l.length := (List.getElem?_eq_some_iff.1 hi).1
    obtain ⟨h1, h2, h3⟩ := hrow i row hi
    refine ⟨h1, ?_⟩
    have h0 : 0 < l.length := by omega
    obtain ⟨a, rfl, hcell⟩ := hA 0 h0
    have hr0 := hrow 0 l[0] (List.getElem?_eq_getElem h0)
    have hu0 : 0 < (Us 0).length := by rw [← hr0.2.1, hr0.1]; exact hsz
    have e0 := hcell 0 _ (List.getElem?_eq_getElem hu0)
    rw [Nat.zero_mul] at e0
    have ea : a = ⟨a.block, a.off, none⟩ := by
      have := spot_none e0
      simpa [Addr.add] using this
    refine ⟨a.block, a.off, by rw [← ea], fun j hj => ⟨fun h => h, ?_⟩⟩
    obtain ⟨a', ha', hcell'⟩ := hA i hil
    cases ha'
    have huj : j < (Us i).length := by rw [← h2, h1]; exact hj
    have := hcell' j _ (List.getElem?_eq_getElem huj)
    rw [ea, Addr.add_lit, Addr.add_lit] at this
    rw [this]
    simp [List.getD, huj]
  · obtain ⟨h1, h2, h3⟩ := hrow i row hi
    have hjl : j < (Us i).length := by rw [← h2]; exact (List.getElem?_eq_some_iff.1 hj).1
    have := h3 j d _ hj (List.getElem?_eq_getElem hjl)
    simpa [List.getD, hjl] using this

/-- Fields that lie one behind another. -/
def contig (P : Program) : List Field → Nat → Nat → Bool
  | [], o, n => o == n
  | f :: fs, o, n => f.offset == o && contig P fs (o + P.cellsOf f.type) n
def tyOk1 (P : Program) (S : List TypeId) (t : TypeId) : Bool := match P.underlying t with
  | some (.int _) | some .string | some .bool | some (.float _) => true
  | some (.slice e) => S.contains e && decide (0 < P.bytesOf e) && decide (0 < P.cellsOf e)
  | some (.struct fs) => fs.toList.all (fun f => S.contains f.type) && contig P fs.toList 0 (P.cellsOf t)
  | _ => false
/-- Types that are made of one another, and of nothing but numbers, texts, slices and structs. -/
def tyOk (P : Program) (S : List TypeId) : Bool := S.all (tyOk1 P S)

section
variable {P : Program} {H : Type} {enc : TypeId × Value → H} {w : World} {base : Nat} {spare : Nat → Bool} {held : Bool}
/-- No more than a machine holds. -/
def Fits (P : Program) (t : TypeId) (d : DataW H) : Prop := ∀ n ∈ DataW.weights P t d, n ≤ 140737488351232
theorem fits_field {t : TypeId} {fs : Array Field} {parts : List (DataW H)} (hu : P.underlying t = some (.struct fs)) (h : Fits P t (.agg parts)) {j : Nat} {u : TypeId} {d : DataW H} (ht : (fs.toList.map (·.type))[j]? = some u) (hd : parts[j]? = some d) : Fits P u d := fun n hn => by
  refine h n ?_
  unfold DataW.weights
  rw [hu]
  exact DataW.weights_mem_each ht hd n hn
theorem fits_all {e : TypeId} : ∀ {l : List (DataW H)} {i : Nat} {d : DataW H}, l[i]? = some d → ∀ n ∈ DataW.weights P e d, n ∈ DataW.weightsAll P e l
  | d0 :: l, 0, d, hd, n, hn => by
    simp only [List.getElem?_cons_zero, Option.some.injEq] at hd
    subst hd
    simp only [DataW.weightsAll, List.mem_append]
    exact .inl hn
  | d0 :: l, i + 1, d, hd, n, hn => by
    simp only [List.getElem?_cons_succ] at hd
    simp only [DataW.weightsAll, List.mem_append]
    exact .inr (fits_all hd n hn)
  | [], _, _, hd, _, _ => by simp at hd
theorem fits_elem {t e : TypeId} {elems sp : List (DataW H)} (hu : P.underlying t = some (.slice e)) (h : Fits P t (.slice elems sp)) {i : Nat} {d : DataW H} (hd : elems[i]? = some d) : Fits P e d := fun n hn => by
  refine h n ?_
  unfold DataW.weights
  rw [hu]
  simp only [List.mem_cons, List.mem_append]
  exact .inr (.inl (fits_all hd n hn))
theorem fits_len {t e : TypeId} {elems sp : List (DataW H)} (hu : P.underlying t = some (.slice e)) (h : Fits P t (.slice elems sp)) : elems.length * P.bytesOf e ≤ 140737488351232 := by
  have := h ((elems.length + sp.length) * P.bytesOf e) (by unfold DataW.weights; rw [hu]; simp)
  exact Nat.le_trans (Nat.mul_le_mul_right _ (Nat.le_add_right _ _)) this
theorem fits_of {ts : List TypeId} {ds : List (DataW H)} (h : (DataW.weightsEach P ts ds).all (· ≤ reachBytes) = true) {j : Nat} {t : TypeId} {d : DataW H} (ht : ts[j]? = some t) (hd : ds[j]? = some d) : Fits P t d := fun n hn => by
  have h9 := List.all_eq_true.1 h n (DataW.weights_mem_each ht hd n hn)
  exact of_decide_eq_true h9
theorem dts_flat {cs : List Value} : ∀ (fs : List Field) (o : Nat) (F : List (List D)), contig P fs o cs.length = true → F.length = fs.length → (∀ (i : Nat) (f : Field) (ds : List D), fs[i]? = some f → F[i]? = some ds → Dts w ds ((cs.drop f.offset).take (P.cellsOf f.type))) → Dts w F.flatten (cs.drop o)
  | [], o, F, h, hl, _ => by
    have h1 : F = [] := List.eq_nil_of_length_eq_zero hl
    have h2 : o = cs.length := by simpa [contig] using h
    subst h1 h2
    rw [List.drop_length]
    exact ⟨rfl, fun i d u hd => by simp at hd⟩
  | f :: fs, o, [], h, hl, _ => by simp at hl
  | f :: fs, o, d :: F, h, hl, hF => by
    simp only [contig, Bool.and_eq_true, beq_iff_eq] at h
    have h1 := hF 0 f d rfl rfl
    have h2 := dts_flat fs _ F h.2 (by simpa using hl) fun i f' ds hf hd => hF (i + 1) f' ds (by simpa using hf) (by simpa using hd)
    have := h1.append h2
    rw [h.1] at this
    rw [List.flatten_cons]
    have e : cs.drop o = (cs.drop o).take (P.cellsOf f.type) ++ cs.drop (o + P.cellsOf f.type) := by rw [← List.drop_drop, List.take_append_drop]
    rw [e]
    exact this
theorem trod_floatG {t : TypeId} {k : FloatKind} {m : Nat} {cs : List Value} {y : DataW H × List MemPlace} (ht : P.underlying t = some (.float k)) (h : DataW.trod enc P w base spare held m t cs = some y) :
    ∃ b, cs = [.float k b] ∧ y = (.lit (.float k b), []) ∧ (Lit.float k b).wf = true := by
  cases m with
  | zero => simp [DataW.trod] at h
  | succ n =>
    unfold DataW.trod at h
    rw [ht] at h
    split at h <;> simp_all
theorem open_ty {S : List TypeId} (hS : tyOk P S = true) : ∀ (fuel : Nat) (t : TypeId) (cs : List Value) (y : DataW H × List MemPlace), t ∈ S → DataW.trod enc P w base spare held fuel t cs = some y → Fits P t y.1 → ∃ ds, TyD P t ds ∧ Dts w ds cs
  | 0, t, cs, y, _, h, _ => by simp [DataW.trod] at h
  | fuel + 1, t, cs, y, ht, h, hf => by
    have h1 := List.all_eq_true.1 hS t ht
    unfold tyOk1 at h1
    cases hu : P.underlying t with
    | none => rw [hu] at h1; cases h1
    | some u =>
      rw [hu] at h1
      cases u with
      | int k =>
        obtain ⟨n, rfl, _, hw⟩ := DataW.trod_int hu h
        exact ⟨_, .int t k n hu hw, Dts.one (.v _ rfl)⟩
      | string =>
        obtain ⟨s, rfl, rfl, _⟩ := DataW.trod_string hu h
        refine ⟨_, .str t s hu ?_, Dts.one (.v _ rfl)⟩
        have := hf s.data.toList.length (by unfold DataW.weights; simp)
        rwa [Array.length_toList] at this
      | bool =>
        obtain ⟨b, rfl, _⟩ := DataW.trod_bool hu h
        exact ⟨_, .bool t b hu, Dts.one (.v _ rfl)⟩
      | float k =>
        obtain ⟨b, rfl, _, hw⟩ := trod_floatG hu h
        exact ⟨_, .float t k b hu hw, Dts.one (.v _ rfl)⟩
      | slice e =>
        simp only [Bool.and_eq_true, decide_eq_true_eq, List.contains_iff_mem] at h1
        obtain ⟨⟨he, hbt⟩, hsz⟩ := h1
        rcases DataW.trod_slice hu h with ⟨rfl, _⟩ | ⟨a, len, cap, elems, rest, n, hn, rfl, rfl, hb, hle, hcap, hlen, hel, _, _⟩
        · exact ⟨_, .slice t e _ _ [] hu rfl rfl (by simp) (fun row hr => by cases hr), Dts.one (RD.nil (.e none) _ _ hbt)⟩
        · have hl := fits_len hu hf
          rw [List.length_map, hlen] at hl
          have each : ∀ i, ∃ p : List Value × List D, i < len → TyD P e p.2 ∧ Dts w p.2 p.1 ∧ p.1.length = P.cellsOf e ∧ ∀ j u, p.1[j]? = some u → w.cell? ((a.add (i * P.cellsOf e)).add j) = some u := fun i => by
            by_cases hi : i < len
            · have h7 := hel i hi
              have hie : i < elems.length := by omega
              rw [List.getElem?_eq_getElem hie, Option.bind_eq_some_iff] at h7
              obtain ⟨cs', h8, h9⟩ := h7
              obtain rfl : fuel = n := by omega
              obtain ⟨ds, hd1, hd2⟩ := open_ty hS fuel e cs' _ he h9 (fits_elem hu hf (i := i) (by rw [List.getElem?_map, List.getElem?_eq_getElem hie]; rfl))
              obtain ⟨_, hlc, hc⟩ := World.cells?_some h8
              refine ⟨(cs', ds), fun _ => ⟨hd1, hd2, hlc, fun j u hj => ?_⟩⟩
              have hlt : j < cs'.length := (List.getElem?_eq_some_iff.1 hj).1
              rw [hc j (by omega), hj]
            · exact ⟨([], []), fun h => absurd h hi⟩
          obtain ⟨F, hF⟩ := Classical.skolem.1 each
          have hlr : ((List.range len).map fun i => (F i).2).length = len := by simp
          have hget : ∀ i row, ((List.range len).map fun i => (F i).2)[i]? = some row → i < len ∧ row = (F i).2 := fun i row hr => by
            have hi : i < len := by
              have := (List.getElem?_eq_some_iff.1 hr).1
              simpa using this
            rw [List.getElem?_map, List.getElem?_range hi] at hr
            exact ⟨hi, by simpa using hr.symm⟩
          refine ⟨[.rows (P.cellsOf e) (P.bytesOf e) ((List.range len).map fun i => (F i).2)], .slice t e _ _ _ hu rfl rfl (by rw [hlr]; exact hl) (fun row hr => ?_), Dts.one ?_⟩
          · obtain ⟨i, hi⟩ := List.getElem?_of_mem hr
            obtain ⟨h3, rfl⟩ := hget i row hi
            exact (hF i h3).1
          · have := rows_rd (w := w) (A := some a) (sz := P.cellsOf e) (bt := P.bytesOf e) (c := cap) (l := (List.range len).map fun i => (F i).2) hsz hbt (by rw [hlr]; omega) (by rw [hlr]; exact hle) (fun i => (F i).1) (fun i row hi => ?_) (fun i hi => ⟨a, rfl, (hF i (by rw [hlr] at hi; exact hi)).2.2.2⟩)
            · rw [hlr] at this
              exact this
            · obtain ⟨h3, rfl⟩ := hget i row hi
              obtain ⟨_, g2, g3, _⟩ := hF i h3
              exact ⟨g2.1.trans g3, g2⟩
      | struct fs =>
        simp only [Bool.and_eq_true] at h1
        obtain ⟨h1, h2⟩ := h1
        obtain ⟨xs, n, hn, rfl, hl, hlen, hfd⟩ := DataW.trod_struct hu h
        obtain rfl : fuel = n := by omega
        have each : ∀ i : Nat, ∃ ds : List D, ∀ f : Field, fs[i]? = some f → TyD P f.type ds ∧ Dts w ds ((cs.drop f.offset).take (P.cellsOf f.type)) := fun i => by
          cases hfi : fs[i]? with
          | none => exact ⟨[], fun f hf => by cases hf⟩
          | some f =>
            have hi : i < fs.size := (Array.getElem?_eq_some_iff.1 hfi).1
            have h3 := hfd i f hfi
            rw [List.getElem?_eq_getElem (by omega)] at h3
            have hmem : f ∈ fs.toList := List.mem_of_getElem? (by simpa using hfi)
            have h4 := List.all_eq_true.1 h1 f hmem
            obtain ⟨ds, g1, g2⟩ := open_ty hS fuel f.type _ _ (by simpa using h4) h3 (fits_field hu hf (j := i) (by simp [hfi]) (by rw [List.getElem?_map, List.getElem?_eq_getElem (by omega)]; rfl))
            exact ⟨ds, fun f' hf' => by cases hf'; exact ⟨g1, g2⟩⟩
        obtain ⟨F, hF⟩ := Classical.skolem.1 each
        have hget : ∀ i ds, ((List.range fs.size).map F)[i]? = some ds → ds = F i := fun i ds hr => by
          have hi : i < fs.size := by
            have := (List.getElem?_eq_some_iff.1 hr).1
            simpa using this
          rw [List.getElem?_map, List.getElem?_range hi] at hr
          simpa using hr.symm
        refine ⟨((List.range fs.size).map F).flatten, .struct t fs _ hu (by simp) (fun i f ds hfi hd => ?_), ?_⟩
        · rw [hget i ds hd]
          exact (hF i f hfi).1
        · have := dts_flat (w := w) (P := P) (cs := cs) fs.toList 0 ((List.range fs.size).map F) (by rw [hl]; exact h2) (by simp) fun i f ds hfi hd => by
            rw [hget i ds hd]
            exact (hF i f (by simpa using hfi)).2
          simpa using this
      | _ => cases h1
end

/-- Cells that are data, one type behind another. -/
inductive TyDs (P : Program) : List TypeId → List D → Prop
  | nil : TyDs P [] []
  | cons (t : TypeId) (ts : List TypeId) (ds r : List D) (h : TyD P t ds) (h' : TyDs P ts r) : TyDs P (t :: ts) (ds ++ r)
theorem TyDs.cons_inv {P : Program} {t : TypeId} {ts : List TypeId} {l : List D} (h : TyDs P (t :: ts) l) : ∃ ds r, l = ds ++ r ∧ TyD P t ds ∧ TyDs P ts r := by
  cases h with
  | cons _ _ ds r h h' => exact ⟨ds, r, rfl, h, h'⟩
theorem TyDs.nil_inv {P : Program} {l : List D} (h : TyDs P [] l) : l = [] := by
  cases h
  rfl
theorem TyDs.mk {P : Program} : ∀ (fs : List Field) (dss : List (List D)), dss.length = fs.length → (∀ (i : Nat) (f : Field) (ds : List D), fs[i]? = some f → dss[i]? = some ds → TyD P f.type ds) → TyDs P (fs.map (·.type)) dss.flatten
  | [], [], _, _ => .nil
  | f :: fs, d :: dss, hl, h => .cons _ _ _ _ (h 0 f d rfl rfl) (TyDs.mk fs dss (by simpa using hl) fun i f' ds hf hd => h (i + 1) f' ds (by simpa using hf) (by simpa using hd))
  | [], _ :: _, hl, _ => by simp at hl
  | _ :: _, [], hl, _ => by simp at hl
theorem TyD.struct_inv {P : Program} {t : TypeId} {fs : Array Field} {ds : List D} (hu : P.underlying t = some (.struct fs)) (h : TyD P t ds) : TyDs P (fs.toList.map (·.type)) ds := by
  cases h with
  | struct _ fs' dss hu' hl h =>
    rw [hu] at hu'
    cases hu'
    exact TyDs.mk fs.toList dss (by simpa using hl) fun i f ds hf hd => h i f ds (by simpa using hf) hd
  | int _ _ _ hu' => rw [hu] at hu'; cases hu'
  | str _ _ hu' => rw [hu] at hu'; cases hu'
  | bool _ _ hu' => rw [hu] at hu'; cases hu'
  | float _ _ _ hu' => rw [hu] at hu'; cases hu'
  | slice _ _ _ _ _ hu' => rw [hu] at hu'; cases hu'
theorem TyD.slice_inv {P : Program} {t e : TypeId} {ds : List D} (hu : P.underlying t = some (.slice e)) (h : TyD P t ds) : ∃ l, ds = [.rows (P.cellsOf e) (P.bytesOf e) l] ∧ l.length * P.bytesOf e ≤ 140737488351232 ∧ ∀ row ∈ l, TyD P e row := by
  cases h with
  | slice _ _ _ _ l hu' hs hb hl h =>
    rw [hu] at hu'
    cases hu'
    subst hs hb
    exact ⟨l, rfl, hl, h⟩
  | int _ _ _ hu' => rw [hu] at hu'; cases hu'
  | str _ _ hu' => rw [hu] at hu'; cases hu'
  | bool _ _ hu' => rw [hu] at hu'; cases hu'
  | float _ _ _ hu' => rw [hu] at hu'; cases hu'
  | struct _ _ _ hu' => rw [hu] at hu'; cases hu'
theorem TyD.int_inv {P : Program} {t : TypeId} {k : IntKind} {ds : List D} (hu : P.underlying t = some (.int k)) (h : TyD P t ds) : ∃ a, ds = [.v (.int k a)] ∧ k.min ≤ a ∧ a ≤ k.max := by
  cases h with
  | int _ k' a hu' h =>
    rw [hu] at hu'
    cases hu'
    exact ⟨a, rfl, by simpa [Lit.wf] using h⟩
  | slice _ _ _ _ _ hu' => rw [hu] at hu'; cases hu'
  | str _ _ hu' => rw [hu] at hu'; cases hu'
  | bool _ _ hu' => rw [hu] at hu'; cases hu'
  | float _ _ _ hu' => rw [hu] at hu'; cases hu'
  | struct _ _ _ hu' => rw [hu] at hu'; cases hu'
theorem TyD.str_inv {P : Program} {t : TypeId} {ds : List D} (hu : P.underlying t = some .string) (h : TyD P t ds) : ∃ s : ByteArray, ds = [.v (.string s)] ∧ s.size ≤ 140737488351232 := by
  cases h with
  | str _ s hu' h => exact ⟨s, rfl, h⟩
  | int _ _ _ hu' => rw [hu] at hu'; cases hu'
  | slice _ _ _ _ _ hu' => rw [hu] at hu'; cases hu'
  | bool _ _ hu' => rw [hu] at hu'; cases hu'
  | float _ _ _ hu' => rw [hu] at hu'; cases hu'
  | struct _ _ _ hu' => rw [hu] at hu'; cases hu'
theorem TyD.bool_inv {P : Program} {t : TypeId} {ds : List D} (hu : P.underlying t = some .bool) (h : TyD P t ds) : ∃ b, ds = [.v (.bool b)] := by
  cases h with
  | bool _ b hu' => exact ⟨b, rfl⟩
  | int _ _ _ hu' => rw [hu] at hu'; cases hu'
  | slice _ _ _ _ _ hu' => rw [hu] at hu'; cases hu'
  | str _ _ hu' => rw [hu] at hu'; cases hu'
  | float _ _ _ hu' => rw [hu] at hu'; cases hu'
  | struct _ _ _ hu' => rw [hu] at hu'; cases hu'
theorem TyD.float_inv {P : Program} {t : TypeId} {k : FloatKind} {ds : List D} (hu : P.underlying t = some (.float k)) (h : TyD P t ds) : ∃ b, ds = [.v (.float k b)] ∧ (Lit.float k b).wf = true := by
  cases h with
  | float _ k' b hu' h =>
    rw [hu] at hu'
    cases hu'
    exact ⟨b, rfl, h⟩
  | int _ _ _ hu' => rw [hu] at hu'; cases hu'
  | slice _ _ _ _ _ hu' => rw [hu] at hu'; cases hu'
  | str _ _ hu' => rw [hu] at hu'; cases hu'
  | bool _ _ hu' => rw [hu] at hu'; cases hu'
  | struct _ _ _ hu' => rw [hu] at hu'; cases hu'
theorem range_i64 {a : Int} (h : IntKind.i64.min ≤ a ∧ a ≤ IntKind.i64.max) : -9223372036854775808 ≤ a ∧ a ≤ 9223372036854775807 := by
  have e1 : IntKind.i64.min = -9223372036854775808 := by decide
  have e2 : IntKind.i64.max = 9223372036854775807 := by decide
  rwa [e1, e2] at h
theorem range_i32 {a : Int} (h : IntKind.i32.min ≤ a ∧ a ≤ IntKind.i32.max) : -2147483648 ≤ a ∧ a ≤ 2147483647 := by
  have e1 : IntKind.i32.min = -2147483648 := by decide
  have e2 : IntKind.i32.max = 2147483647 := by decide
  rwa [e1, e2] at h
theorem range_u64 {a : Int} (h : IntKind.u64.min ≤ a ∧ a ≤ IntKind.u64.max) : ∃ m : Nat, a = m ∧ m < 18446744073709551616 := by
  have e1 : IntKind.u64.min = 0 := by decide
  have e2 : IntKind.u64.max = 18446744073709551615 := by decide
  rw [e1, e2] at h
  exact ⟨a.toNat, by omega, by omega⟩
theorem range_u8 {a : Int} (h : IntKind.u8.min ≤ a ∧ a ≤ IntKind.u8.max) : ∃ m : Nat, a = m ∧ m < 256 := by
  have e1 : IntKind.u8.min = 0 := by decide
  have e2 : IntKind.u8.max = 255 := by decide
  rw [e1, e2] at h
  exact ⟨a.toNat, by omega, by omega⟩
theorem okWide_float {P : Program} {w : World} {r : Reach} {base : Nat} {t : TypeId} {v : Value} {k : FloatKind} (ht : P.underlying t = some (.float k)) (h : Value.okWide P w r base t v) : ∃ b, v = .float k b := by
  simp only [Value.okWide, ht, Cell.okWide] at h
  cases v <;> simp_all [Cell.ok]

section
variable {P : Program} {H : Type} {enc : TypeId × Value → H} {w : World} {base : Nat} {spare : Nat → Bool} {held : Bool} {r : Reach} {b0 : Nat} {t : TypeId} {v : Value} {d : DataW H} {p : List MemPlace} {S : List TypeId}
theorem arg_cells (hS : tyOk P S = true) (ht : t ∈ S) (h : DataW.Trod enc P w base spare held t v d p) (hf : Fits P t d) : ∃ ds, TyD P t ds ∧ Dts w ds v.cells.toList :=
  let ⟨fuel, h⟩ := h
  open_ty hS fuel t _ _ ht h hf
theorem arg_int {k : IntKind} (hS : tyOk P S = true) (ht : t ∈ S) (hu : P.underlying t = some (.int k)) (hv : Value.okWide P w r b0 t v) (h : DataW.Trod enc P w base spare held t v d p) (hf : Fits P t d) : ∃ a, v = .int k a ∧ k.min ≤ a ∧ a ≤ k.max := by
  obtain ⟨a, rfl⟩ := okWide_int hu hv
  obtain ⟨ds, h1, h2, h3⟩ := arg_cells hS ht h hf
  obtain ⟨a', rfl, h4⟩ := h1.int_inv hu
  have := h3 0 _ _ rfl rfl
  cases this
  exact ⟨a, rfl, h4⟩
theorem arg_str (hS : tyOk P S = true) (ht : t ∈ S) (hu : P.underlying t = some .string) (hv : Value.okWide P w r b0 t v) (h : DataW.Trod enc P w base spare held t v d p) (hf : Fits P t d) : ∃ s : ByteArray, v = .string s ∧ s.size ≤ 140737488351232 := by
  obtain ⟨a, rfl⟩ := okWide_string hu hv
  obtain ⟨ds, h1, h2, h3⟩ := arg_cells hS ht h hf
  obtain ⟨a', rfl, h4⟩ := h1.str_inv hu
  have := h3 0 _ _ rfl rfl
  cases this
  exact ⟨a, rfl, h4⟩
theorem arg_float {k : FloatKind} (hS : tyOk P S = true) (ht : t ∈ S) (hu : P.underlying t = some (.float k)) (hv : Value.okWide P w r b0 t v) (h : DataW.Trod enc P w base spare held t v d p) (hf : Fits P t d) : ∃ b, v = .float k b ∧ (Lit.float k b).wf = true := by
  obtain ⟨a, rfl⟩ := okWide_float hu hv
  obtain ⟨ds, h1, h2, h3⟩ := arg_cells hS ht h hf
  obtain ⟨a', rfl, h4⟩ := h1.float_inv hu
  have := h3 0 _ _ rfl rfl
  cases this
  exact ⟨a, rfl, h4⟩
theorem arg_slice {e : TypeId} (hS : tyOk P S = true) (ht : t ∈ S) (hu : P.underlying t = some (.slice e)) (hv : Value.okWide P w r b0 t v) (h : DataW.Trod enc P w base spare held t v d p) (hf : Fits P t d) :
    ∃ l, RD (fun _ => False) w (.rows (P.cellsOf e) (P.bytesOf e) l) v ∧ l.length * P.bytesOf e ≤ 140737488351232 ∧ ∀ row ∈ l, TyD P e row := by
  obtain ⟨A, n, c, rfl⟩ := okWide_slice hu hv
  obtain ⟨ds, h1, h2, h3⟩ := arg_cells hS ht h hf
  obtain ⟨l, rfl, h4⟩ := h1.slice_inv hu
  exact ⟨l, h3 0 _ _ rfl rfl, h4⟩
theorem arg_struct {fs : Array Field} (hS : tyOk P S = true) (ht : t ∈ S) (hu : P.underlying t = some (.struct fs)) (hv : Value.okWide P w r b0 t v) (h : DataW.Trod enc P w base spare held t v d p) (hf : Fits P t d) :
    ∃ ds us, v = .agg us ∧ TyD P t ds ∧ Dts w ds us.toList := by
  obtain ⟨cs, rfl, _⟩ := okWide_struct hu hv
  obtain ⟨ds, h1, h2⟩ := arg_cells hS ht h hf
  exact ⟨ds, cs, rfl, h1, by simpa only [Value.cells] using h2⟩
end
theorem ra_agg {w : World} {ds : List D} {us : Array Value} (h : Dts w ds us.toList) : RA (fun _ => False) (fun _ => .no) w (.agg (ds.map .d)) (.agg us) := by
  simp only [RA]
  exact ⟨us, rfl, h.ras⟩
theorem ra_d {w : World} {d : D} {v : Value} (h : RD (fun _ => False) w d v) : RA (fun _ => False) (fun _ => .no) w (.d d) v := by
  simp only [RA]
  exact h

/-- A call that starts in some world. -/
theorem C.start (w : World) : C w ⟨w, fun _ => False, fun _ => .no, 0⟩ (fun _ => False) (fun _ => .no) ⟨0, [], []⟩ nobody w where
  base := Fr.refl _ _
  fr := Fr.refl _ _
  eLt := fun k h => h.elim
  mLow := fun k h => h.elim
  mUp := fun _ h => h
  mNew := fun _ h => h.elim
  mLt := fun k h => h.elim
  mNo := fun _ _ => rfl
  mIn := fun b k hb => by cases hb
  inj := fun b b' k hb => by cases hb
  oldv := fun b cs hb => absurd hb (Nat.not_lt_zero _)
  oldr := fun b k hb => absurd hb (Nat.not_lt_zero _)
  new := fun b k _ hb => by cases hb
  len := Nat.le_refl _
  box := fun b x hb => by simp at hb
  env := fun t x hx => by simp [lk_nil] at hx
  wide := rfl
  defers := rfl
/-- A pure contract that answers a plain value, of a call that starts in some world. -/
theorem APure.calls {P : Program} {w : World} {f : FuncId} {args : List AV} {us : Array Value} {v : Value} (h : APure P w f args (· = .ret (.d (.v v)))) (ha : RAs (fun _ => False) (fun _ => .no) w args us.toList) : Calls P f us w fun e w' => e = .returned v ∧ Below w.heap.size w w' := by
  refine (h _ _ w us (C.start w) ha).mono ?_
  rintro e w' ⟨r, L', M', m', ⟨rfl, rfl⟩, hres, hc⟩
  cases e with
  | returned u => exact ⟨by rw [(RA.v_inv (M := M') (m := m') (w := w') hres).1], hc.base.toBelow fun _ _ h => h⟩
  | panicked c => exact hres.elim
  | outgrown => exact hres.elim
end Go.Proofs.YtbgfiflnfndckaaDoor.Lift
