/- A statement whose order Go leaves open: operations that read (I) may be taken first, where what they read (S) is kept by whatever may come ahead of one of them. Over any program; no conditions. -/
import Derived.StillTail
import Derived.OrdersHeld
import Derived.Tactics
set_option linter.unusedVariables false
namespace Go.Proofs.YtbgfiflnfndckaaDoor.Rg
open Go
section
variable {P : Program} {ops : Array Oper} {Q : Exit → Act → World → Prop} {md : Region.Mode} {S : World → Prop} {I : List Nat}

/-- j waits for all of I. -/
def waitsAll (md : Region.Mode) (ops : Array Oper) (I : List Nat) (j : Nat) : Bool := I.all fun i => Region.waitsFor md ops j i
/-- Something that waits for all of I has come up. -/
def past (md : Region.Mode) (ops : Array Oper) (I : List Nat) (listed : Array Bool) : Prop := ∃ k, listed.getD k false = true ∧ waitsAll md ops I k = true

def wpAnyW (P : Program) (md : Region.Mode) (ops : Array Oper) (Q : Exit → Act → World → Prop) (I : List Nat) (S : World → Prop) : Nat → Array Bool → Act → World → Prop
  | 0, listed, a, w => Region.ready md ops listed = [] ∧ Q .normal a w
  | fuel + 1, listed, a, w =>
    (Region.ready md ops listed = [] → Q .normal a w) ∧
    ∀ i ∈ Region.ready md ops listed, wpOp P ops Q i (fun a' w' => (past md ops I (listed.setIfInBounds i true) ∨ S w') ∧ wpAnyW P md ops Q I S fuel (listed.setIfInBounds i true) a' w') a w

theorem wpAny_of_W : ∀ (fuel : Nat) (listed : Array Bool) (a : Act) (w : World), wpAnyW P md ops Q I S fuel listed a w → wpAny P md ops Q fuel listed a w
  | 0, _, _, _, h => h
  | fuel + 1, _, _, _, h => ⟨h.1, fun i hi => wpOp_mono (fun a' w' h' => wpAny_of_W fuel _ a' w' h'.2) (h.2 i hi)⟩

/-- The statement begins. -/
theorem begin_ {id : Nat} {a : Act} {w : World} (I : List Nat) (S : World → Prop) (hm : P.follows .mixedOrders = true)
    (h : wpAnyW P .any ops Q I S ops.size (Array.replicate ops.size false) a w.drew) : (Code.region id ops true).wp P Q a w :=
  wp_region_any hm (wpAny_of_W _ _ _ _ h)

/-- Q, but nothing panics. -/
def Calm (Q : Exit → Act → World → Prop) : Exit → Act → World → Prop
  | .panic _, _, _ => False
  | e, a, w => Q e a w
theorem Calm.normal {a : Act} {w : World} (h : Q .normal a w) : Calm Q .normal a w := h
theorem Calm.imp : ∀ (e : Exit) (a : Act) (w : World), Calm Q e a w → Q e a w := fun e a w h => by
  cases e <;> first | exact h | exact (h : False).elim
/-- The statement begins, and does not panic. -/
theorem begin_calm {id : Nat} {a : Act} {w : World} (I : List Nat) (S : World → Prop) (hm : P.follows .mixedOrders = true)
    (h : wpAnyW P .any ops (Calm Q) I S ops.size (Array.replicate ops.size false) a w.drew) : (Code.region id ops true).wp P Q a w :=
  Code.wp_mono Calm.imp (begin_ I S hm h)

theorem set_keeps {listed : Array Bool} {j k : Nat} (h : listed.getD k false = true) : (listed.setIfInBounds j true).getD k false = true := getD_set_true h
theorem set_only {listed : Array Bool} {j k : Nat} (h : (listed.setIfInBounds j true).getD k false = true) : k = j ∨ listed.getD k false = true := by
  by_cases hjk : j = k
  · exact .inl hjk.symm
  · rw [getD_set_ne false hjk] at h; exact .inr h

/-- An operation of I is taken first. -/
theorem take {i : Nat} {oi : Oper} {v : Value} (hi : ops[i]? = some oi) (hI : i ∈ I) (hsel : Region.noSelect ops = true) (hself : waitsAll md ops I i = false)
    (hQ : ∀ c a w, Q (.panic c) (a.put oi.dst v) w → Q (.panic c) a w) :
    ∀ (fuel : Nat) (listed : Array Bool) (a : Act) (w : World),
      (∀ j oj, ops[j]? = some oj → j ≠ i → listed.getD j true = false → (∀ e ∈ oj.after, Region.binds md e = true → e.on ≠ i) → oi.apart ops oj = true) →
      i ∈ Region.ready md ops listed → (∀ k, listed.getD k false = true → waitsAll md ops I k = false) → YieldsIf P ops S oi v a → S w →
      wpAnyW P md ops Q I S fuel (listed.setIfInBounds i true) (a.put oi.dst v) w → wpAnyW P md ops Q I S (fuel + 1) listed a w := by
  intro fuel
  have hs := Region.noSelect_spec hsel
  induction fuel with
  | zero =>
    intro listed a w _ hr _ hy hS H
    refine ⟨fun h => (by rw [h] at hr; cases hr), fun j hj => ?_⟩
    by_cases hji : j = i
    · subst hji; exact hy.wpOp hi hS ⟨.inr hS, H⟩
    · have := ready_mono hj hji
      rw [H.1] at this
      cases this
  | succ fuel ih =>
    intro listed a w hfree hr hnp hy hS H
    refine ⟨fun h => (by rw [h] at hr; cases hr), fun j hj => ?_⟩
    by_cases hji : j = i
    · subst hji; exact hy.wpOp hi hS ⟨.inr hS, H⟩
    · have h1 := H.2 j (ready_mono hj hji)
      obtain ⟨hjun, oj, hoj, hall⟩ := mem_ready.1 hj
      have hnot : ∀ e ∈ oj.after, Region.binds md e = true → e.on ≠ i := fun e he hb heq => by
        have h1 := hall e he hb
        have h0 := (mem_ready.1 hr).1
        rw [heq] at h1
        rcases Nat.lt_or_ge i listed.size with h' | h'
        · simp [h'] at h0 h1; rw [h0] at h1; cases h1
        · simp [Array.getElem?_eq_none h'] at h1
      have hjw : waitsAll md ops I j = false := by
        have : Region.waitsFor md ops j i = false := by
          cases hw : Region.waitsFor md ops j i
          · rfl
          · obtain ⟨oj', hoj', e, he, hb, hon⟩ := Region.waitsFor_spec hw
            rw [hoj] at hoj'
            cases hoj'
            exact absurd hon (hnot e he hb)
        unfold waitsAll
        rw [List.all_eq_false]
        exact ⟨i, hI, by simp [this]⟩
      have h2 := wpOp_putIf hoj (hfree j oj hoj hji hjun hnot) (fun cs b => hs i oi cs b hi) (fun cs b => hs j oj cs b hoj) hQ hy h1
      have hfree' : ∀ k ok, ops[k]? = some ok → k ≠ i → (listed.setIfInBounds j true).getD k true = false →
          (∀ e ∈ ok.after, Region.binds md e = true → e.on ≠ i) → oi.apart ops ok = true := fun k ok hk hki hun hno => by
        refine hfree k ok hk hki ?_ hno
        by_cases hjk : j = k
        · subst hjk; exact hjun
        · rw [getD_set_ne true hjk] at hun; exact hun
      have hnp' : ∀ k, (listed.setIfInBounds j true).getD k false = true → waitsAll md ops I k = false := fun k hk => by
        rcases set_only hk with rfl | hk
        · exact hjw
        · exact hnp k hk
      refine wpOp_mono (fun a' w' h3 => ?_) h2
      obtain ⟨hy', hp, hk⟩ := h3
      have hS' : S w' := hp.resolve_left fun ⟨k, hk1, hk2⟩ => by
        rcases set_only hk1 with rfl | hk1
        · rw [hjw] at hk2; cases hk2
        · rcases set_only hk1 with rfl | hk1
          · rw [hself] at hk2; cases hk2
          · rw [hnp k hk1] at hk2; cases hk2
      refine ⟨.inr hS', ih (listed.setIfInBounds j true) a' w' hfree' (ready_mono hr (Ne.symm hji)) hnp' hy' hS' ?_⟩
      rw [Array.setIfInBounds_comm _ _ hji]
      exact hk

/-- No operation that has come up waits for all of I: as a Bool. -/
def fresh (md : Region.Mode) (ops : Array Oper) (I : List Nat) (listed : Array Bool) : Bool := (List.range listed.size).all fun k => !(listed.getD k false) || !(waitsAll md ops I k)
theorem fresh_spec {listed : Array Bool} (h : fresh md ops I listed = true) (k : Nat) (hk : listed.getD k false = true) : waitsAll md ops I k = false := by
  have hlt : k < listed.size := by
    rcases Nat.lt_or_ge k listed.size with h' | h'
    · exact h'
    · simp [Array.getElem?_eq_none h'] at hk
  have := (List.all_eq_true.1 h) k (List.mem_range.2 hlt)
  simpa [hk] using this

theorem take_ {i : Nat} {oi : Oper} {v : Value} {fuel : Nat} {listed : Array Bool} {a : Act} {w : World} (hi : ops[i]? = some oi) (hI : i ∈ I)
    (hB : (Region.noSelect ops && (!(waitsAll md ops I i) && (Region.free md ops listed i && ((Region.ready md ops listed).contains i && fresh md ops I listed)))) = true)
    (hQ : ∀ c a w, Q (.panic c) (a.put oi.dst v) w → Q (.panic c) a w) (hy : YieldsIf P ops S oi v a) (hS : S w)
    (h : wpAnyW P md ops Q I S fuel (listed.setIfInBounds i true) (a.put oi.dst v) w) : wpAnyW P md ops Q I S (fuel + 1) listed a w := by
  simp only [Bool.and_eq_true, Bool.not_eq_true'] at hB
  obtain ⟨h1, h2, h3, h4, h5⟩ := hB
  exact take hi hI h1 h2 hQ fuel listed a w (Region.free_spec hi h3) (by simpa using h4) (fresh_spec h5) hy hS h

/-- The one operation that may come up comes up. -/
theorem step_ {j : Nat} {o : Oper} {fuel : Nat} {listed : Array Bool} {a : Act} {w : World} (ho : ops[j]? = some o) (hr : Region.ready md ops listed = [j])
    (h : wpList P ops (fun e a' w' => match e with | .normal => S w' ∧ wpAnyW P md ops Q I S fuel (listed.setIfInBounds j true) a' w' | e => Q e a' w') [o] a w) : wpAnyW P md ops Q I S (fuel + 1) listed a w := by
  refine ⟨fun h0 => (by rw [hr] at h0; cases h0), fun i hi => ?_⟩
  rw [hr] at hi
  have : i = j := by simpa using hi
  subst this
  unfold wpList at h
  unfold wpOp
  simp only [ho]
  split
  · rename_i hw
    rw [if_pos hw] at h
    rcases h with h | ⟨h1, a0, w0, h2⟩
    · refine .inl ?_
      unfold Oper.wp at *
      generalize (execOp a.eval o).run P w = r at *
      cases r with
      | ok n w' =>
        cases n <;> simp only [Oper.upon] at h ⊢
        case value v => exact ⟨.inr h.1, h.2⟩
        case skip => exact ⟨.inr h.1, h.2⟩
        case defer d => exact ⟨.inr h.1, h.2⟩
        case enter f args =>
          refine Calls.mono h fun e w'' he => ?_
          cases e with
          | returned u => exact ⟨.inr he.1, he.2⟩
          | panicked c => exact he
          | outgrown => obtain ⟨a0, w0, h0⟩ := he; exact ⟨a0, w0, h0⟩
        case row row args => exact Rows.mono h fun u w'' he => ⟨.inr he.1, he.2⟩
      | halt x w' => cases x <;> simp only [Oper.upon] at h ⊢ <;> exact h
    · exact .inr ⟨h1, a0, w0, h2⟩
  · rename_i hw
    rw [if_neg hw] at h
    exact ⟨.inr h.1, h.2⟩

theorem W_of_past : ∀ (fuel : Nat) (listed : Array Bool) (a : Act) (w : World), past md ops I listed → wpAny P md ops Q fuel listed a w → wpAnyW P md ops Q I S fuel listed a w
  | 0, _, _, _, _, h => h
  | fuel + 1, listed, a, w, hp, h => ⟨h.1, fun i hi => wpOp_mono (fun a' w' h' => by
      obtain ⟨k, h1, h2⟩ := hp
      have hp' : past md ops I (listed.setIfInBounds i true) := ⟨k, set_keeps h1, h2⟩
      exact ⟨.inl hp', W_of_past fuel _ a' w' hp' h'⟩) (h.2 i hi)⟩

/-- All that is left comes in the text's order, and waits for all of I. -/
theorem rest_ (l : List Oper) (k : Nat) {listed : Array Bool} {a : Act} {w : World} (hl : ∀ j, l[j]? = ops[k + j]?)
    (hB : (Region.seqB md ops l.length k listed && (waitsAll md ops I k && decide (k < listed.size))) = true) (h : wpList P ops Q l a w) : wpAnyW P md ops Q I S l.length listed a w := by
  simp only [Bool.and_eq_true, decide_eq_true_eq] at hB
  obtain ⟨h1, h2, h3⟩ := hB
  have H := wpAny_of_seq l k listed a w hl h1 h
  cases l with
  | nil => exact H
  | cons o l =>
    simp only [List.length_cons, Region.seqB, Bool.and_eq_true, decide_eq_true_eq] at h1
    refine ⟨H.1, fun i hi => wpOp_mono (fun a' w' h' => ?_) (H.2 i hi)⟩
    rw [h1.1] at hi
    have : i = k := by simpa using hi
    subst this
    have hp : past md ops I (listed.setIfInBounds i true) := ⟨i, by simp [h3], h2⟩
    exact ⟨.inl hp, W_of_past _ _ _ _ hp h'⟩
/-- The same, the operations from number k on. -/
theorem rest_at (k : Nat) {fuel : Nat} {listed : Array Bool} {a : Act} {w : World}
    (hB : (Region.seqB md ops (ops.size - k) k listed && (waitsAll md ops I k && (decide (k < listed.size) && decide (fuel = ops.size - k)))) = true) (h : wpList P ops Q (ops.toList.drop k) a w) : wpAnyW P md ops Q I S fuel listed a w := by
  simp only [Bool.and_eq_true, decide_eq_true_eq] at hB
  obtain ⟨h1, h2, h3, rfl⟩ := hB
  have hl : (ops.toList.drop k).length = ops.size - k := by simp
  have := rest_ (ops.toList.drop k) k (listed := listed) (I := I) (S := S) (md := md) (ops := ops) (P := P) (Q := Q) (a := a) (w := w) (fun j => by simp [List.getElem?_drop]) (by simp [hl, h1, h2, h3]) h
  rwa [hl] at this
end
end Go.Proofs.YtbgfiflnfndckaaDoor.Rg
