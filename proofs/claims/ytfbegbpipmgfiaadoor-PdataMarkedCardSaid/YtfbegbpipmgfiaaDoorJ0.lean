/- Joined from Lfa, Lfb, Lfc, Lfd, Lfe, Lff, Lfw, Lfg, Lfh, Lfi, Lfj. No conditions. -/
import Derived.WalkKit
import Derived.Below
import Derived.DeepKeys3
import Derived.StringKeys
import Derived.Maps.Keyed
import Derived.TacticsIn
import Derived.OrdersIn
import Derived.Sort.LoopGhostIn
import Derived.RangeFuncCalls
import Derived.Deep.Quiet
import Derived.Deep.LoopGhost
section
/- The lift, first part: what a value in memory stands for. No conditions: words and their laws. -/
set_option linter.unusedVariables false
set_option linter.unusedSimpArgs false
namespace Go.Proofs.YtfbegbpipmgfiaaDoor.Lift
open Go Go.RowKit

/-- One cell of data that nobody turns: a plain value, a slice without room, a slice's rows (cells and bytes of an element), or anything of one cell. -/
inductive D where
  | v (x : Value)
  | e
  | rows (sz bt : Nat) (l : List (List D))
  | any

/-- What a cell comes to in a world; no row lies in a block of M. -/
inductive RD (M : Nat → Prop) (w : World) : D → Value → Prop
  | v (x : Value) (h : x.oneCell' = true) : RD M w (.v x) x
  | e (A : Option Addr) : RD M w .e (.slice A 0 0)
  | any (u : Value) (h : u.oneCell' = true) : RD M w .any u
  | rows (sz bt : Nat) (l : List (List D)) (A : Option Addr) (c : Nat) (U : Nat → Nat → Value) (hbt : 0 < bt) (hb : l.length * bt ≤ 140737488355328) (hc : l.length ≤ c)
      (hA : ∀ i row, l[i]? = some row → row.length = sz ∧ ∃ g o, A = some ⟨g, o, none⟩ ∧ ∀ j, j < sz → ¬ M g ∧ w.cell? ⟨g, o + i * sz + j, none⟩ = some (U i j))
      (hU : ∀ i row j d, l[i]? = some row → row[j]? = some d → RD M w d (U i j)) : RD M w (.rows sz bt l) (.slice A l.length c)

/-- From one world to another: only the blocks of E may be written, and stay as long. -/
structure Fr (E : Nat → Prop) (w w' : World) : Prop where
  os : w'.os = w.os
  tape : w'.tape = w.tape
  output : w'.output = w.output
  size : w.heap.size ≤ w'.heap.size
  block : ∀ k, k < w.heap.size → ¬ E k → w'.heap[k]? = w.heap[k]?
  keep : ∀ (k : Nat) (C : Array Value) (T : TypeId), w.heap[k]? = some (Obj.cells C T (0, 0)) → ∃ C' : Array Value, w'.heap[k]? = some (Obj.cells C' T (0, 0)) ∧ C'.size = C.size

theorem Fr.refl (E : Nat → Prop) (w : World) : Fr E w w := ⟨rfl, rfl, rfl, Nat.le_refl _, fun _ _ _ => rfl, fun _ C _ h => ⟨C, h, rfl⟩⟩
theorem Fr.trans {E : Nat → Prop} {a b c : World} (h : Fr E a b) (k : Fr E b c) : Fr E a c :=
  ⟨k.os.trans h.os, k.tape.trans h.tape, k.output.trans h.output, Nat.le_trans h.size k.size, fun i hi he => (k.block i (Nat.lt_of_lt_of_le hi h.size) he).trans (h.block i hi he),
    fun i C T hi => let ⟨C', h1, h2⟩ := h.keep i C T hi; let ⟨C'', h3, h4⟩ := k.keep i C' T h1; ⟨C'', h3, h4.trans h2⟩⟩
theorem Fr.weak {E E' : Nat → Prop} {w w' : World} (h : Fr E w w') (hE : ∀ k, k < w.heap.size → E k → E' k) : Fr E' w w' :=
  ⟨h.os, h.tape, h.output, h.size, fun k hk he => h.block k hk (fun x => he (hE k hk x)), h.keep⟩
theorem Fr.below {w w' : World} {E : Nat → Prop} (h : Below w.heap.size w w') : Fr E w w' :=
  ⟨h.os, h.tape, h.output, h.size, fun k hk _ => h.block k hk, fun k C T hk => ⟨C, (h.block k (Array.getElem?_eq_some_iff.1 hk).1).trans hk, rfl⟩⟩
theorem Fr.toBelow {w w' : World} {E : Nat → Prop} (h : Fr E w w') (hE : ∀ k, k < w.heap.size → ¬ E k) : Below w.heap.size w w' :=
  ⟨h.os, h.tape, h.output, h.size, fun k hk => h.block k hk (hE k hk)⟩
theorem Fr.alloc {E : Nat → Prop} (w : World) (o : Obj) : Fr E w (w.alloc o) := Fr.below ((Below.refl _ _).alloc (Nat.le_refl _) o)
theorem Fr.drew {E : Nat → Prop} (w : World) : Fr E w w.drew := Fr.below (Below.refl _ _).drew
theorem Fr.setRow {E : Nat → Prop} (w : World) (g : Nat) (C C' : Array Value) (T : TypeId) (hg : w.heap[g]? = some (.cells C T (0, 0))) (hE : E g) (hs : C'.size = C.size) : Fr E w (w.setRow g C') := by
  refine ⟨rfl, rfl, rfl, by simp, fun k _ he => setRow_other w g k C' (fun e => he (e ▸ hE)), fun k D t hk => ?_⟩
  by_cases e : k = g
  · subst e
    rw [hg] at hk
    cases hk
    exact ⟨C', setRow_heap w k C C' T (0, 0) hg, hs⟩
  · exact ⟨D, (setRow_other w g k C' e).trans hk, rfl⟩

theorem cell_same {w w' : World} {g o : Nat} {u : Value} (h : w.cell? ⟨g, o, none⟩ = some u) (hb : w'.heap[g]? = w.heap[g]?) : w'.cell? ⟨g, o, none⟩ = some u :=
  (World.cell?_of_block (w := w) (a := ⟨g, o, none⟩) hb).trans h

theorem RD.mono {M M' : Nat → Prop} {E : Nat → Prop} {w w' : World} {d : D} {u : Value} (h : RD M w d u) (hf : Fr E w w') (hE : ∀ k, k < w.heap.size → E k → M k) (hM : ∀ k, k < w.heap.size → M' k → M k) : RD M' w' d u := by
  induction h with
  | v x h => exact .v x h
  | e A => exact .e A
  | any u h => exact .any u h
  | rows sz bt l A c U hbt hb hc hA hU ih =>
    refine .rows sz bt l A c U hbt hb hc (fun i row hi => ?_) ih
    obtain ⟨h1, g, o, h2, h3⟩ := hA i row hi
    refine ⟨h1, g, o, h2, fun j hj => ?_⟩
    obtain ⟨h4, h5⟩ := h3 j hj
    have hlt : g < w.heap.size := World.block_lt_of_cell? w _ h5
    exact ⟨fun x => h4 (hM g hlt x), cell_same h5 (hf.block g hlt fun x => h4 (hE g hlt x))⟩

theorem RD.one {M : Nat → Prop} {w : World} {d : D} {u : Value} (h : RD M w d u) : u.oneCell' = true := by
  cases h with
  | v x h => exact h
  | e A => rfl
  | any u h => exact h
  | rows => rfl

theorem RD.nil {M : Nat → Prop} {w : World} {u : Value} (h : RD M w .e u) (sz bt : Nat) (hbt : 0 < bt) : RD M w (.rows sz bt []) u := by
  cases h with
  | e A => exact .rows sz bt [] A 0 (fun _ _ => default) hbt (by simp) (by simp) (fun i row h => by simp at h) (fun i row j d h => by simp at h)

/-- Cells that lie at a place and are data. -/
def PD (M : Nat → Prop) (w : World) (g o : Nat) (ds : List D) : Prop := ∀ j d, ds[j]? = some d → ∃ u, ¬ M g ∧ w.cell? ⟨g, o + j, none⟩ = some u ∧ RD M w d u
theorem PD.mono {M M' : Nat → Prop} {E : Nat → Prop} {w w' : World} {g o : Nat} {ds : List D} (h : PD M w g o ds) (hf : Fr E w w') (hE : ∀ k, k < w.heap.size → E k → M k) (hM : ∀ k, k < w.heap.size → M' k → M k) : PD M' w' g o ds := by
  intro j d hd
  obtain ⟨u, h1, h2, h3⟩ := h j d hd
  have hlt : g < w.heap.size := World.block_lt_of_cell? w _ h2
  exact ⟨u, fun x => h1 (hM g hlt x), cell_same h2 (hf.block g hlt fun x => h1 (hE g hlt x)), h3.mono hf hE hM⟩

/-- What a temporary holds: data; a pointer to data; a pointer into a variable of the call's own (its number, a cell), or into a row of its own (an element, a cell); a slice of such a row; a function with what it caught; an aggregate; several results. -/
inductive AV where
  | d (x : D)
  | dp (ds : List D)
  | ptr (b j : Nat)
  | ep (b sz i j : Nat)
  | sl (b sz lo n : Nat)
  | fn (f : FuncId) (caps : List AV)
  | yd (r : Loop) (ts : List Nat) (caps : List AV)
  | agg (l : List AV)
  | tup (l : List AV)
  | opt (g : Bool) (x : AV)
  | mref (b : Nat)
  | junk

/-- Where a box lies: nowhere (there is none), in no block yet (a row without elements), in a block. -/
inductive Pl where
  | no
  | virt
  | at_ (k : Nat)

mutual
def RA (M : Nat → Prop) (m : Nat → Pl) (w : World) : AV → Value → Prop
  | .d x, u => RD M w x u
  | .dp ds, u => ∃ g o, u = .pointer (some ⟨g, o, none⟩) ∧ PD M w g o ds
  | .ptr b j, u => ∃ k, m b = .at_ k ∧ u = .pointer (some ⟨k, j, none⟩)
  | .ep b sz i j, u => ∃ k, m b = .at_ k ∧ u = .pointer (some ⟨k, i * sz + j, none⟩)
  | .sl b sz lo n, u => (n = 0 ∧ lo = 0 ∧ m b = .virt ∧ ∃ A, u = .slice A 0 0) ∨ ∃ k cap C T, m b = .at_ k ∧ u = .slice (some ⟨k, lo * sz, none⟩) n cap ∧ n ≤ cap ∧ w.heap[k]? = some (.cells C T (0, 0)) ∧ (lo + cap) * sz ≤ C.size
  | .fn f caps, u => ∃ us, u = .func (.func f) #[] us ∧ RAs M m w caps us.toList
  | .yd r ts caps, u => ∃ k, (u = .func (.yield k) #[] #[] ∧ k = r.defers + 1) ∧ ¬ M k ∧ w.heap[k]? = some (.loop r) ∧ RAs M m w caps (ts.map fun t => r.tmps.getD t undef)
  | .agg l, u => ∃ us, u = .agg us ∧ RAs M m w l us.toList
  | .tup l, u => ∃ us, u = .tuple us ∧ RAs M m w l us.toList
  | .opt g x, u => (g = true → RA M m w x u) ∧ (g = false → u = undef)
  | .mref b, u => ∃ k, m b = .at_ k ∧ u = .map (some k)
  | .junk, _ => True
def RAs (M : Nat → Prop) (m : Nat → Pl) (w : World) : List AV → List Value → Prop
  | [], [] => True
  | x :: l, u :: us => RA M m w x u ∧ RAs M m w l us
  | _, _ => False
end

mutual
theorem RA.mono {M M' : Nat → Prop} {E : Nat → Prop} {m : Nat → Pl} {w w' : World} (hf : Fr E w w') (hE : ∀ k, k < w.heap.size → E k → M k) (hM : ∀ k, k < w.heap.size → M' k → M k) : ∀ (x : AV) (u : Value), RA M m w x u → RA M' m w' x u
  | .d x, u, h => by
    simp only [RA] at h ⊢
    exact h.mono hf hE hM
  | .dp ds, u, h => by
    simp only [RA] at h ⊢
    obtain ⟨g, o, h1, h2⟩ := h
    exact ⟨g, o, h1, h2.mono hf hE hM⟩
  | .ptr b j, u, h => by
    simp only [RA] at h ⊢
    exact h
  | .ep b sz i j, u, h => by
    simp only [RA] at h ⊢
    exact h
  | .sl b sz lo n, u, h => by
    simp only [RA] at h ⊢
    rcases h with h | ⟨k, cap, C, T, h1, h2, h3, h4, h5⟩
    · exact .inl h
    · obtain ⟨C', h6, h7⟩ := hf.keep k C T h4
      exact .inr ⟨k, cap, C', T, h1, h2, h3, h6, by omega⟩
  | .fn f caps, u, h => by
    simp only [RA] at h ⊢
    obtain ⟨us, h1, h2⟩ := h
    exact ⟨us, h1, RAs.mono hf hE hM _ _ h2⟩
  | .yd r ts caps, u, h => by
    simp only [RA] at h ⊢
    obtain ⟨k, h1, g1, g2, h2⟩ := h
    have hlt := (Array.getElem?_eq_some_iff.1 g2).1
    exact ⟨k, h1, fun x => g1 (hM k hlt x), (hf.block k hlt fun x => g1 (hE k hlt x)).trans g2, RAs.mono hf hE hM _ _ h2⟩
  | .agg l, u, h => by
    simp only [RA] at h ⊢
    obtain ⟨us, h1, h2⟩ := h
    exact ⟨us, h1, RAs.mono hf hE hM _ _ h2⟩
  | .tup l, u, h => by
    simp only [RA] at h ⊢
    obtain ⟨us, h1, h2⟩ := h
    exact ⟨us, h1, RAs.mono hf hE hM _ _ h2⟩
  | .opt g x, u, h => by
    simp only [RA] at h ⊢
    exact ⟨fun hg => RA.mono hf hE hM x u (h.1 hg), h.2⟩
  | .mref b, u, h => by
    simp only [RA] at h ⊢
    exact h
  | .junk, u, h => by simp only [RA]
theorem RAs.mono {M M' : Nat → Prop} {E : Nat → Prop} {m : Nat → Pl} {w w' : World} (hf : Fr E w w') (hE : ∀ k, k < w.heap.size → E k → M k) (hM : ∀ k, k < w.heap.size → M' k → M k) : ∀ (l : List AV) (us : List Value), RAs M m w l us → RAs M' m w' l us
  | [], [], h => by simp only [RAs]
  | x :: l, u :: us, h => by
    simp only [RAs] at h ⊢
    exact ⟨RA.mono hf hE hM x u h.1, RAs.mono hf hE hM l us h.2⟩
  | [], _ :: _, h => by simp only [RAs] at h
  | _ :: _, [], h => by simp only [RAs] at h
end

mutual
/-- All boxes that a value names are such. -/
def AV.names (p : Nat → Bool) : AV → Bool
  | .d _ | .dp _ | .junk => true
  | .ptr b _ | .ep b _ _ _ | .sl b _ _ _ | .mref b => p b
  | .fn _ caps => namesAll p caps
  | .yd _ _ caps => namesAll p caps
  | .agg l | .tup l => namesAll p l
  | .opt _ x => x.names p
def namesAll (p : Nat → Bool) : List AV → Bool
  | [] => true
  | x :: l => x.names p && namesAll p l
end

mutual
theorem RA.remap {M : Nat → Prop} {m m' : Nat → Pl} {w : World} {p : Nat → Bool} (hp : ∀ b, p b = true → m b ≠ .no → m' b = m b) : ∀ (x : AV) (u : Value), x.names p = true → RA M m w x u → RA M m' w x u
  | .d x, u, _, h => by simpa only [RA] using h
  | .dp ds, u, _, h => by simpa only [RA] using h
  | .ptr b j, u, hn, h => by
    simp only [AV.names] at hn
    simp only [RA] at h ⊢
    obtain ⟨k, h1, h2⟩ := h
    exact ⟨k, (hp b hn (by simp [h1])).trans h1, h2⟩
  | .ep b sz i j, u, hn, h => by
    simp only [AV.names] at hn
    simp only [RA] at h ⊢
    obtain ⟨k, h1, h2⟩ := h
    exact ⟨k, (hp b hn (by simp [h1])).trans h1, h2⟩
  | .sl b sz lo n, u, hn, h => by
    simp only [AV.names] at hn
    simp only [RA] at h ⊢
    rcases h with ⟨h1, h2, h3, h4⟩ | ⟨k, cap, C, T, h1, h2⟩
    · exact .inl ⟨h1, h2, (hp b hn (by simp [h3])).trans h3, h4⟩
    · exact .inr ⟨k, cap, C, T, (hp b hn (by simp [h1])).trans h1, h2⟩
  | .fn f caps, u, hn, h => by
    simp only [AV.names] at hn
    simp only [RA] at h ⊢
    obtain ⟨us, h1, h2⟩ := h
    exact ⟨us, h1, RAs.remap hp _ _ hn h2⟩
  | .yd r ts caps, u, hn, h => by
    simp only [AV.names] at hn
    simp only [RA] at h ⊢
    obtain ⟨k, h1, g1, g2, h2⟩ := h
    exact ⟨k, h1, g1, g2, RAs.remap hp _ _ hn h2⟩
  | .agg l, u, hn, h => by
    simp only [AV.names] at hn
    simp only [RA] at h ⊢
    obtain ⟨us, h1, h2⟩ := h
    exact ⟨us, h1, RAs.remap hp _ _ hn h2⟩
  | .tup l, u, hn, h => by
    simp only [AV.names] at hn
    simp only [RA] at h ⊢
    obtain ⟨us, h1, h2⟩ := h
    exact ⟨us, h1, RAs.remap hp _ _ hn h2⟩
  | .opt g x, u, hn, h => by
    simp only [AV.names] at hn
    simp only [RA] at h ⊢
    exact ⟨fun hg => RA.remap hp x u hn (h.1 hg), h.2⟩
  | .mref b, u, hn, h => by
    simp only [AV.names] at hn
    simp only [RA] at h ⊢
    obtain ⟨k, h1, h2⟩ := h
    exact ⟨k, (hp b hn (by simp [h1])).trans h1, h2⟩
  | .junk, u, _, h => by simp only [RA]
theorem RAs.remap {M : Nat → Prop} {m m' : Nat → Pl} {w : World} {p : Nat → Bool} (hp : ∀ b, p b = true → m b ≠ .no → m' b = m b) : ∀ (l : List AV) (us : List Value), namesAll p l = true → RAs M m w l us → RAs M m' w l us
  | [], [], _, h => by simp only [RAs]
  | x :: l, u :: us, hn, h => by
    simp only [namesAll, Bool.and_eq_true] at hn
    simp only [RAs] at h ⊢
    exact ⟨RA.remap hp x u hn.1 h.1, RAs.remap hp l us hn.2 h.2⟩
  | [], _ :: _, _, h => by simp only [RAs] at h
  | _ :: _, [], _, h => by simp only [RAs] at h
end

mutual
theorem names_all : ∀ x : AV, x.names (fun _ => true) = true
  | .d _ | .dp _ | .junk | .ptr .. | .ep .. | .sl .. | .mref .. => by simp only [AV.names]
  | .fn _ l | .yd _ _ l | .agg l | .tup l => by simp only [AV.names]; exact names_alls l
  | .opt _ x => by simp only [AV.names]; exact names_all x
theorem names_alls : ∀ l : List AV, namesAll (fun _ => true) l = true
  | [] => by simp only [namesAll]
  | x :: l => by simp only [namesAll, names_all x, names_alls l, Bool.and_self]
end
theorem RA.grow {M : Nat → Prop} {m m' : Nat → Pl} {w : World} (hp : ∀ b, m b ≠ .no → m' b = m b) {x : AV} {u : Value} (h : RA M m w x u) : RA M m' w x u := RA.remap (p := fun _ => true) (fun b _ => hp b) x u (names_all x) h
theorem RAs.grow {M : Nat → Prop} {m m' : Nat → Pl} {w : World} (hp : ∀ b, m b ≠ .no → m' b = m b) {l : List AV} {us : List Value} (h : RAs M m w l us) : RAs M m' w l us := RAs.remap (p := fun _ => true) (fun b _ => hp b) l us (names_alls l) h

theorem RAs.length {M : Nat → Prop} {m : Nat → Pl} {w : World} : ∀ {l : List AV} {us : List Value}, RAs M m w l us → l.length = us.length
  | [], [], _ => rfl
  | x :: l, u :: us, h => by
    simp only [RAs] at h
    simp [RAs.length h.2]
  | [], _ :: _, h => by simp only [RAs] at h
  | _ :: _, [], h => by simp only [RAs] at h
theorem RAs.get {M : Nat → Prop} {m : Nat → Pl} {w : World} : ∀ {l : List AV} {us : List Value}, RAs M m w l us → ∀ {i : Nat} {x : AV}, l[i]? = some x → ∃ u, us[i]? = some u ∧ RA M m w x u
  | [], [], _, i, x, hx => by simp at hx
  | y :: l, u :: us, h, 0, x, hx => by
    simp only [RAs] at h
    simp only [List.getElem?_cons_zero, Option.some.injEq] at hx
    subst hx
    exact ⟨u, by simp, h.1⟩
  | y :: l, u :: us, h, i + 1, x, hx => by
    simp only [RAs] at h
    simp only [List.getElem?_cons_succ] at hx ⊢
    exact RAs.get h.2 hx
  | [], _ :: _, h, _, _, _ => by simp only [RAs] at h
  | _ :: _, [], h, _, _, _ => by simp only [RAs] at h
theorem RAs.mk {M : Nat → Prop} {m : Nat → Pl} {w : World} : ∀ {l : List AV} {us : List Value}, l.length = us.length → (∀ (i : Nat) (x : AV) (u : Value), l[i]? = some x → us[i]? = some u → RA M m w x u) → RAs M m w l us
  | [], [], _, _ => by simp only [RAs]
  | x :: l, u :: us, hl, h => by
    simp only [RAs]
    exact ⟨h 0 x u (by simp) (by simp), RAs.mk (by simpa using hl) fun i y v hy hv => h (i + 1) y v (by simpa using hy) (by simpa using hv)⟩
  | [], _ :: _, hl, _ => by simp at hl
  | _ :: _, [], hl, _ => by simp at hl
theorem RAs.append {M : Nat → Prop} {m : Nat → Pl} {w : World} : ∀ {l l' : List AV} {us us' : List Value}, RAs M m w l us → RAs M m w l' us' → RAs M m w (l ++ l') (us ++ us')
  | [], _, [], _, _, h' => by simpa using h'
  | x :: l, _, u :: us, _, h, h' => by
    simp only [RAs] at h
    simp only [List.cons_append, RAs]
    exact ⟨h.1, RAs.append h.2 h'⟩
  | [], _, _ :: _, _, h, _ => by simp only [RAs] at h
  | _ :: _, _, [], _, h, _ => by simp only [RAs] at h
theorem RAs.take {M : Nat → Prop} {m : Nat → Pl} {w : World} {l : List AV} {us : List Value} (h : RAs M m w l us) (n : Nat) : RAs M m w (l.take n) (us.take n) :=
  RAs.mk (by simp [h.length]) fun i x u hx hu => by
    rw [List.getElem?_take] at hx hu
    split at hx
    · rename_i hi
      rw [if_pos hi] at hu
      obtain ⟨u', h1, h2⟩ := h.get hx
      rw [h1] at hu
      cases hu
      exact h2
    · cases hx
theorem RAs.drop {M : Nat → Prop} {m : Nat → Pl} {w : World} {l : List AV} {us : List Value} (h : RAs M m w l us) (n : Nat) : RAs M m w (l.drop n) (us.drop n) :=
  RAs.mk (by simp [h.length]) fun i x u hx hu => by
    rw [List.getElem?_drop] at hx hu
    obtain ⟨u', h1, h2⟩ := h.get hx
    rw [h1] at hu
    cases hu
    exact h2

/-- One cell at most. -/
def AV.one : AV → Bool
  | .agg _ | .tup _ | .opt _ _ | .junk => false
  | _ => true
theorem RA.one {M : Nat → Prop} {m : Nat → Pl} {w : World} {x : AV} {u : Value} (hx : x.one = true) (h : RA M m w x u) : u.oneCell' = true := by
  cases x <;> simp only [RA] at h <;> simp only [AV.one, Bool.false_eq_true] at hx
  · exact h.one
  · obtain ⟨g, o, rfl, _⟩ := h
    rfl
  · obtain ⟨k, _, rfl⟩ := h
    rfl
  · obtain ⟨k, _, rfl⟩ := h
    rfl
  · rcases h with ⟨_, _, _, A, rfl⟩ | ⟨k, cap, C, T, _, rfl, _⟩ <;> rfl
  · obtain ⟨us, rfl, _⟩ := h
    rfl
  · obtain ⟨k, ⟨rfl, _⟩, _⟩ := h
    rfl
  · obtain ⟨k, _, rfl⟩ := h
    rfl

/-- The cells of what is stored. -/
def AV.cells : AV → List AV
  | .agg l => l
  | x => [x]
theorem RA.cells {M : Nat → Prop} {m : Nat → Pl} {w : World} {x : AV} {u : Value} (hx : x.cells.all AV.one = true) (h : RA M m w x u) : RAs M m w x.cells u.cells.toList ∧ ∀ v ∈ u.cells.toList, v.oneCell' = true := by
  have key : ∀ (l : List AV) (us : List Value), RAs M m w l us → l.all AV.one = true → ∀ v ∈ us, v.oneCell' = true := by
    intro l us h hl v hv
    obtain ⟨i, hi⟩ := List.mem_iff_getElem?.1 hv
    have hlt : i < us.length := (List.getElem?_eq_some_iff.1 hi).1
    obtain ⟨y, hy⟩ : ∃ y, l[i]? = some y := ⟨l[i]'(by rw [h.length]; exact hlt), List.getElem?_eq_getElem _⟩
    obtain ⟨u, h1, h2⟩ := h.get hy
    rw [h1] at hi
    cases hi
    exact RA.one (List.all_eq_true.1 hl y (List.mem_iff_getElem?.2 ⟨i, hy⟩)) h2
  have single : ∀ y : AV, y.one = true → RA M m w y u → RAs M m w [y] u.cells.toList ∧ ∀ v ∈ u.cells.toList, v.oneCell' = true := by
    intro y hy hr
    have h1 := RA.one hy hr
    have : u.cells = #[u] := by cases u <;> simp_all [Value.cells, Value.oneCell']
    rw [this]
    refine ⟨by simp only [RAs]; exact ⟨hr, trivial⟩, fun v hv => ?_⟩
    simp at hv
    rw [hv]
    exact h1
  cases x with
  | agg l =>
    simp only [RA] at h
    obtain ⟨us, rfl, h2⟩ := h
    exact ⟨h2, key _ _ h2 hx⟩
  | d x => exact single _ rfl h
  | dp x => exact single _ rfl h
  | ptr b j => exact single _ rfl h
  | ep b s i j => exact single _ rfl h
  | sl b s i j => exact single _ rfl h
  | fn f c => exact single _ rfl h
  | yd r ts c => exact single _ rfl h
  | mref b => exact single _ rfl h
  | tup l => simp [AV.cells, AV.one] at hx
  | opt g y => simp [AV.cells, AV.one] at hx
  | junk => simp [AV.cells, AV.one] at hx
end Go.Proofs.YtfbegbpipmgfiaaDoor.Lift
end
section
/- The lift, second part: states of a walk, and what a world is to them. No conditions: words and their laws. -/
set_option linter.unusedVariables false
set_option linter.unusedSimpArgs false
namespace Go.Proofs.YtfbegbpipmgfiaaDoor.Lift
open Go Go.RowKit

/-- A box: gone; a variable (its cells); a row of the call's own, of data; a map by texts; a row of the call's own whose cells may name others (cells and bytes of an element, all cells). -/
inductive Box where
  | dead
  | var (cs : List AV)
  | vec (sz bt : Nat) (l : List (List D))
  | mp (es : List (Value × Value))
  | own (sz bt : Nat) (cs : List AV)

/-- So many temporaries; what is known of some; the boxes. -/
structure St where
  N : Nat
  env : List (List (Option AV))
  bs : List Box

def lkA : List (Nat × AV) → Nat → Option AV
  | [], _ => none
  | (k, x) :: l, t => if t = k then some x else lkA l t
/-- What is known, eight temporaries together. -/
def lk1 : List (Option AV) → Nat → Option AV
  | [], _ => none
  | y :: _, 0 => y
  | _ :: c, j + 1 => lk1 c j
def lk2 : List (List (Option AV)) → Nat → List (Option AV)
  | [], _ => []
  | c :: _, 0 => c
  | _ :: e, i + 1 => lk2 e i
def lk (e : List (List (Option AV))) (t : Nat) : Option AV := lk1 (lk2 e (t / 8)) (t % 8)
def put1 : List (Option AV) → Nat → AV → List (Option AV)
  | [], 0, x => [some x]
  | [], j + 1, x => none :: put1 [] j x
  | _ :: c, 0, x => some x :: c
  | y :: c, j + 1, x => y :: put1 c j x
def put2 : List (List (Option AV)) → Nat → Nat → AV → List (List (Option AV))
  | [], 0, j, x => [put1 [] j x]
  | [], i + 1, j, x => [] :: put2 [] i j x
  | c :: e, 0, j, x => put1 c j x :: e
  | c :: e, i + 1, j, x => c :: put2 e i j x
def putE (e : List (List (Option AV))) (t : Nat) (x : AV) : List (List (Option AV)) := put2 e (t / 8) (t % 8) x
def ofL : List (Nat × AV) → List (List (Option AV))
  | [] => []
  | (t, x) :: l => putE (ofL l) t x
theorem lk1_put1 : ∀ (c : List (Option AV)) (j j' : Nat) (x : AV), lk1 (put1 c j x) j' = if j' = j then some x else lk1 c j'
  | [], 0, 0, x => rfl
  | [], 0, j' + 1, x => by simp [put1, lk1]
  | [], j + 1, 0, x => by simp [put1, lk1]
  | [], j + 1, j' + 1, x => by simp [put1, lk1, lk1_put1 [] j j' x]
  | _ :: c, 0, 0, x => rfl
  | _ :: c, 0, j' + 1, x => by simp [put1, lk1]
  | y :: c, j + 1, 0, x => by simp [put1, lk1]
  | y :: c, j + 1, j' + 1, x => by simp [put1, lk1, lk1_put1 c j j' x]
theorem lk2_put2 : ∀ (e : List (List (Option AV))) (i i' j : Nat) (x : AV), lk2 (put2 e i j x) i' = if i' = i then put1 (lk2 e i) j x else lk2 e i'
  | [], 0, 0, j, x => rfl
  | [], 0, i' + 1, j, x => by simp [put2, lk2]
  | [], i + 1, 0, j, x => by simp [put2, lk2]
  | [], i + 1, i' + 1, j, x => by simp [put2, lk2, lk2_put2 [] i i' j x]
  | c :: e, 0, 0, j, x => rfl
  | c :: e, 0, i' + 1, j, x => by simp [put2, lk2]
  | c :: e, i + 1, 0, j, x => by simp [put2, lk2]
  | c :: e, i + 1, i' + 1, j, x => by simp [put2, lk2, lk2_put2 e i i' j x]
theorem lk_putE (e : List (List (Option AV))) (t t' : Nat) (x : AV) : lk (putE e t x) t' = if t' = t then some x else lk e t' := by
  unfold lk putE
  rw [lk2_put2]
  by_cases h : t' = t
  · subst h
    rw [if_pos rfl, if_pos rfl, lk1_put1, if_pos rfl]
  · rw [if_neg h]
    split
    · rename_i h1
      rw [lk1_put1, if_neg (by omega), h1]
    · rfl
theorem lk_nil (t : Nat) : lk [] t = none := rfl
theorem lk_ofL : ∀ (l : List (Nat × AV)) (t : Nat), lk (ofL l) t = lkA l t
  | [], _ => rfl
  | (k, x) :: l, t => by simp only [ofL, lk_putE, lkA, lk_ofL l t]
def mapE (f : AV → AV) : List (List (Option AV)) → List (List (Option AV))
  | [] => []
  | c :: e => c.map (Option.map f) :: mapE f e
theorem lk1_map (f : AV → AV) : ∀ (c : List (Option AV)) (j : Nat), lk1 (c.map (Option.map f)) j = (lk1 c j).map f
  | [], _ => rfl
  | _ :: _, 0 => rfl
  | _ :: c, j + 1 => by simp [lk1, lk1_map f c j]
theorem lk2_map (f : AV → AV) : ∀ (e : List (List (Option AV))) (i : Nat), lk2 (mapE f e) i = (lk2 e i).map (Option.map f)
  | [], _ => rfl
  | _ :: _, 0 => rfl
  | _ :: e, i + 1 => by simp [lk2, mapE, lk2_map f e i]
theorem lk_mapE (f : AV → AV) (e : List (List (Option AV))) (t : Nat) : lk (mapE f e) t = (lk e t).map f := by
  unfold lk
  rw [lk2_map, lk1_map]

def BoxR (M : Nat → Prop) (m : Nat → Pl) (w : World) (b : Nat) : Box → Prop
  | .dead => True
  | .var cs => ∃ k C T, m b = .at_ k ∧ w.heap[k]? = some (Obj.cells C T (0, 0)) ∧ RAs M m w cs C.toList
  | .vec sz bt l => 0 < sz ∧ 0 < bt ∧ l.length * bt ≤ 140737488355328 ∧ ((m b = .virt ∧ l = []) ∨ ∃ k C T, m b = .at_ k ∧ w.heap[k]? = some (Obj.cells C T (0, 0)) ∧ l.length * sz ≤ C.size ∧
      ∀ i row, l[i]? = some row → row.length = sz ∧ ∀ j d, row[j]? = some d → ∃ u, C[i * sz + j]? = some u ∧ RD M w d u)
  | .mp es => ∃ k F c, m b = .at_ k ∧ w.heap[k]? = some (Obj.map F c) ∧ F.toList.map (fun e => (e.key, e.val)) = es ∧ (∀ p ∈ es, p.2.oneCell' = true) ∧ es.Pairwise (fun p q => p.1 ≠ q.1)
  | .own sz bt cs => 0 < sz ∧ 0 < bt ∧ (∃ q, cs.length = q * sz ∧ q * bt ≤ 140737488355328) ∧ ((m b = .virt ∧ cs = []) ∨ ∃ k C T, m b = .at_ k ∧ w.heap[k]? = some (Obj.cells C T (0, 0)) ∧ cs.length ≤ C.size ∧ RAs M m w cs (C.toList.take cs.length))

theorem BoxR.mono {M M' : Nat → Prop} {E : Nat → Prop} {m : Nat → Pl} {w w' : World} {b : Nat} {x : Box} (h : BoxR M m w b x) (hf : Fr E w w') (hE : ∀ k, k < w.heap.size → E k → M k) (hM : ∀ k, k < w.heap.size → M' k → M k) (hb : ∀ k, m b = .at_ k → ¬ E k) : BoxR M' m w' b x := by
  cases x with
  | dead => trivial
  | var cs =>
    obtain ⟨k, C, T, h1, h2, h3⟩ := h
    exact ⟨k, C, T, h1, (hf.block k (Array.getElem?_eq_some_iff.1 h2).1 (hb k h1)).trans h2, h3.mono hf hE hM⟩
  | vec sz bt l =>
    obtain ⟨h0, h1, h2, h3⟩ := h
    refine ⟨h0, h1, h2, h3.imp id ?_⟩
    rintro ⟨k, C, T, h4, h5, h6, h7⟩
    refine ⟨k, C, T, h4, (hf.block k (Array.getElem?_eq_some_iff.1 h5).1 (hb k h4)).trans h5, h6, fun i row hi => ?_⟩
    obtain ⟨h8, h9⟩ := h7 i row hi
    refine ⟨h8, fun j d hd => ?_⟩
    obtain ⟨u, h10, h11⟩ := h9 j d hd
    exact ⟨u, h10, h11.mono hf hE hM⟩
  | mp es =>
    obtain ⟨k, F, c, h1, h2, h3⟩ := h
    exact ⟨k, F, c, h1, (hf.block k (Array.getElem?_eq_some_iff.1 h2).1 (hb k h1)).trans h2, h3⟩
  | own sz bt cs =>
    obtain ⟨h0, h1, h2, h3⟩ := h
    refine ⟨h0, h1, h2, h3.imp id ?_⟩
    rintro ⟨k, C, T, h4, h5, h6, h7⟩
    exact ⟨k, C, T, h4, (hf.block k (Array.getElem?_eq_some_iff.1 h5).1 (hb k h4)).trans h5, h6, h7.mono hf hE hM⟩
theorem BoxR.grow {M : Nat → Prop} {m m' : Nat → Pl} {w : World} {b : Nat} {x : Box} (h : BoxR M m w b x) (hp : ∀ b, m b ≠ .no → m' b = m b) : BoxR M m' w b x := by
  cases x with
  | dead => trivial
  | var cs =>
    obtain ⟨k, C, T, h1, h2, h3⟩ := h
    exact ⟨k, C, T, (hp b (by simp [h1])).trans h1, h2, h3.grow hp⟩
  | vec sz bt l =>
    obtain ⟨h0, h1, h2, h3⟩ := h
    refine ⟨h0, h1, h2, ?_⟩
    rcases h3 with ⟨h4, h5⟩ | ⟨k, C, T, h4, h5⟩
    · exact .inl ⟨(hp b (by simp [h4])).trans h4, h5⟩
    · exact .inr ⟨k, C, T, (hp b (by simp [h4])).trans h4, h5⟩
  | mp es =>
    obtain ⟨k, F, c, h1, h2⟩ := h
    exact ⟨k, F, c, (hp b (by simp [h1])).trans h1, h2⟩
  | own sz bt cs =>
    obtain ⟨h0, h1, h2, h3⟩ := h
    refine ⟨h0, h1, h2, ?_⟩
    rcases h3 with ⟨h4, h5⟩ | ⟨k, C, T, h4, h5, h6, h7⟩
    · exact .inl ⟨(hp b (by simp [h4])).trans h4, h5⟩
    · exact .inr ⟨k, C, T, (hp b (by simp [h4])).trans h4, h5, h6, h7.grow hp⟩

/-- Where a call begins: its world, what may be turned by somebody, where the boxes lie that it was handed, and how many these are. -/
structure En where
  w : World
  M : Nat → Prop
  m : Nat → Pl
  n : Nat
  d : List Deferred

structure C (W0 : World) (E : En) (M : Nat → Prop) (m : Nat → Pl) (st : St) (a : Act) (w : World) : Prop where
  base : Fr (fun _ => False) W0 w
  fr : Fr (fun k => ∃ b, b < E.n ∧ E.m b = .at_ k) E.w w
  eLt : ∀ k, E.M k → k < E.w.heap.size
  mLow : ∀ k, M k → W0.heap.size ≤ k
  mUp : ∀ k, E.M k → M k
  mNew : ∀ k, M k → E.M k ∨ E.w.heap.size ≤ k
  mLt : ∀ k, M k → k < w.heap.size
  mNo : ∀ b, st.bs.length ≤ b → m b = .no
  mIn : ∀ b k, m b = .at_ k → M k
  inj : ∀ b b' k, m b = .at_ k → m b' = .at_ k → b = b'
  oldv : ∀ b cs, b < E.n → st.bs[b]? = some (.var cs) → m b = E.m b
  oldr : ∀ b k, b < E.n → m b = .at_ k → E.m b = .at_ k ∨ E.w.heap.size ≤ k
  new : ∀ b k, E.n ≤ b → m b = .at_ k → E.w.heap.size ≤ k
  len : E.n ≤ st.bs.length
  box : ∀ b x, st.bs[b]? = some x → BoxR M m w b x
  env : ∀ t x, lk st.env t = some x → RA M m w x (a.tmps.getD t undef)
  wide : a.tmps.size = st.N
  defers : a.defers = E.d

/-- The box's block is one of the call's own, or one that it was handed. -/
theorem C.own {W0 : World} {E : En} {M : Nat → Prop} {m : Nat → Pl} {st : St} {a : Act} {w : World} (h : C W0 E M m st a w) {b k : Nat} (hk : m b = .at_ k) : (∃ b, b < E.n ∧ E.m b = .at_ k) ∨ E.w.heap.size ≤ k := by
  by_cases hb : b < E.n
  · rcases h.oldr b k hb hk with h1 | h1
    · exact .inl ⟨b, hb, h1⟩
    · exact .inr h1
  · exact .inr (h.new b k (by omega) hk)

def St.put (st : St) (o : Option Nat) (x : AV) : St := match o with | none => st | some t => ⟨st.N, putE st.env t x, st.bs⟩

theorem C.value {W0 : World} {E : En} {M : Nat → Prop} {m : Nat → Pl} {st : St} {a : Act} {w : World} (h : C W0 E M m st a w) {o : Option Nat} (ho : ∀ t, o = some t → t < st.N) {x : AV} {u : Value} (hx : RA M m w x u) :
    C W0 E M m (st.put o x) (a.put o u) w := by
  cases o with
  | none => exact h
  | some t =>
    have ht := ho t rfl
    refine { h with env := fun t' y hy => ?_, wide := by simpa [Act.put, St.put] using h.wide, defers := h.defers, mNo := h.mNo, oldv := h.oldv, box := h.box, len := h.len }
    simp only [St.put, lk_putE] at hy
    simp only [Act.put]
    by_cases e : t' = t
    · subst e
      rw [if_pos rfl] at hy
      cases hy
      have : t' < a.tmps.size := by rw [h.wide]; exact ht
      simpa [this] using hx
    · rw [if_neg e] at hy
      have h1 := h.env t' y hy
      simpa [Array.getElem?_setIfInBounds, Ne.symm e] using h1

theorem C.drew {W0 : World} {E : En} {M : Nat → Prop} {m : Nat → Pl} {st : St} {a : Act} {w : World} (h : C W0 E M m st a w) : C W0 E M m st a w.drew :=
  { h with base := h.base.trans (Fr.drew w), fr := h.fr.trans (Fr.drew w), mLt := h.mLt, box := fun b x hb => (h.box b x hb).mono (E := fun _ => False) (Fr.drew w) (fun _ _ x => x.elim) (fun _ _ x => x) (fun _ _ x => x), env := fun t x hx => RA.mono (E := fun _ => False) (Fr.drew w) (fun _ _ x => x.elim) (fun _ _ x => x) x _ (h.env t x hx) }

def mAdd (m : Nat → Pl) (b : Nat) (p : Pl) : Nat → Pl := fun b' => if b' = b then p else m b'

/-- A new block becomes a box. -/
theorem C.alloc {W0 : World} {E : En} {M : Nat → Prop} {m : Nat → Pl} {st : St} {a : Act} {w : World} (h : C W0 E M m st a w) (ob : Obj) (x : Box)
    (hx : BoxR (fun k => M k ∨ k = w.heap.size) (mAdd m st.bs.length (.at_ w.heap.size)) (w.alloc ob) st.bs.length x) :
    C W0 E (fun k => M k ∨ k = w.heap.size) (mAdd m st.bs.length (.at_ w.heap.size)) ⟨st.N, st.env, st.bs ++ [x]⟩ a (w.alloc ob) := by
  have hg : ∀ b, m b ≠ .no → mAdd m st.bs.length (.at_ w.heap.size) b = m b := fun b hb => by
    unfold mAdd
    rw [if_neg]
    intro e
    exact hb (h.mNo b (by omega))
  have hM : ∀ k, k < w.heap.size → (M k ∨ k = w.heap.size) → M k := fun k hk hx => hx.resolve_right (by omega)
  have hf : Fr (fun _ => False) w (w.alloc ob) := Fr.alloc w _
  have at_ : ∀ b k, mAdd m st.bs.length (.at_ w.heap.size) b = .at_ k → (b = st.bs.length ∧ k = w.heap.size) ∨ (m b = .at_ k) := fun b k hb => by
    unfold mAdd at hb
    split at hb
    · cases hb
      exact .inl ⟨by assumption, rfl⟩
    · exact .inr hb
  have eW : E.w.heap.size ≤ w.heap.size := h.fr.size
  refine { h with base := h.base.trans hf, fr := h.fr.trans (Fr.weak hf fun _ _ x => x.elim), mLow := ?_, mUp := fun k hk => .inl (h.mUp k hk), mNew := ?_, mLt := ?_, mNo := ?_, mIn := ?_, inj := ?_, oldv := ?_, oldr := ?_, new := ?_, len := ?_, box := ?_, env := ?_ }
  · rintro k (hk | rfl)
    · exact h.mLow k hk
    · exact h.base.size
  · rintro k (hk | rfl)
    · exact h.mNew k hk
    · exact .inr eW
  · rintro k (hk | rfl)
    · have := h.mLt k hk
      simp
      omega
    · simp
  · intro b hb
    simp at hb
    unfold mAdd
    rw [if_neg (by omega)]
    exact h.mNo b (by omega)
  · intro b k hb
    rcases at_ b k hb with ⟨_, e⟩ | e
    · exact .inr e
    · exact .inl (h.mIn b k e)
  · intro b b' k hb hb'
    rcases at_ b k hb with ⟨e, ek⟩ | e <;> rcases at_ b' k hb' with ⟨e', ek'⟩ | e'
    · rw [e, e']
    · have := h.mLt k (h.mIn b' k e')
      omega
    · have := h.mLt k (h.mIn b k e)
      omega
    · exact h.inj b b' k e e'
  · intro b cs hb hc
    have := h.len
    simp only at hc
    rw [List.getElem?_append_left (by omega)] at hc
    rw [← h.oldv b cs hb hc]
    unfold mAdd
    rw [if_neg (by omega)]
  · intro b k hb hk
    have := h.len
    rcases at_ b k hk with ⟨e, _⟩ | e
    · omega
    · exact h.oldr b k hb e
  · intro b k hb hk
    rcases at_ b k hk with ⟨_, e⟩ | e
    · omega
    · exact h.new b k hb e
  · have := h.len
    simp
    omega
  · intro b y hb
    by_cases hlt : b < st.bs.length
    · simp only at hb
      rw [List.getElem?_append_left hlt] at hb
      exact ((h.box b y hb).mono hf (fun _ _ x => x.elim) hM (fun _ _ x => x)).grow hg
    · have hbe : b = st.bs.length := by
        have := (List.getElem?_eq_some_iff.1 hb).1
        simp at this
        omega
      subst hbe
      simp at hb
      subst hb
      exact hx
  · intro t y hy
    exact RA.grow hg (RA.mono hf (fun _ _ x => x.elim) hM y _ (h.env t y hy))

/-- A box's block is written. -/
theorem C.setBox {W0 : World} {E : En} {M : Nat → Prop} {m : Nat → Pl} {st : St} {a : Act} {w : World} (h : C W0 E M m st a w) {b k : Nat} {x y : Box} (hb : st.bs[b]? = some x) (hv : ∀ cs, y = .var cs → ∃ cs', x = .var cs') (hk : m b = .at_ k)
    {Cs Cn : Array Value} {T : TypeId} (hc : w.heap[k]? = some (Obj.cells Cs T (0, 0))) (hs : Cn.size = Cs.size) (hy : Fr (fun i => i = k) w (w.setRow k Cn) → BoxR M m (w.setRow k Cn) b y) : C W0 E M m ⟨st.N, st.env, st.bs.set b y⟩ a (w.setRow k Cn) := by
  have hf : Fr (fun i => i = k) w (w.setRow k Cn) := Fr.setRow w k Cs Cn T hc rfl hs
  have hE : ∀ i, i < w.heap.size → i = k → M i := fun i _ e => e ▸ h.mIn b k hk
  have hlt : b < st.bs.length := (List.getElem?_eq_some_iff.1 hb).1
  have low := h.mLow k (h.mIn b k hk)
  refine { h with base := ?_, fr := ?_, mLt := fun i hi => by simpa using h.mLt i hi, mNo := by simpa using h.mNo, oldv := ?_, len := by simpa using h.len, box := ?_, env := ?_ }
  · exact ⟨hf.os.trans h.base.os, hf.tape.trans h.base.tape, hf.output.trans h.base.output, Nat.le_trans h.base.size hf.size, fun i hi he => (hf.block i (Nat.lt_of_lt_of_le hi h.base.size) (by omega)).trans (h.base.block i hi he),
      fun i D t hi => by
        obtain ⟨D', h1, h2⟩ := h.base.keep i D t hi
        obtain ⟨D'', h3, h4⟩ := hf.keep i D' t h1
        exact ⟨D'', h3, h4.trans h2⟩⟩
  · refine ⟨hf.os.trans h.fr.os, hf.tape.trans h.fr.tape, hf.output.trans h.fr.output, Nat.le_trans h.fr.size hf.size, fun i hi he => ?_, fun i D t hi => ?_⟩
    · refine (hf.block i (Nat.lt_of_lt_of_le hi h.fr.size) fun e => ?_).trans (h.fr.block i hi he)
      subst e
      rcases h.own hk with h1 | h1
      · exact he h1
      · omega
    · obtain ⟨D', h1, h2⟩ := h.fr.keep i D t hi
      obtain ⟨D'', h3, h4⟩ := hf.keep i D' t h1
      exact ⟨D'', h3, h4.trans h2⟩
  · intro b' cs hb' hc'
    simp only at hc'
    by_cases e : b' = b
    · subst e
      rw [List.getElem?_set_self hlt] at hc'
      obtain ⟨cs', e2⟩ := hv cs (by simpa using hc')
      exact h.oldv b' cs' hb' (hb.trans (by rw [e2]))
    · rw [List.getElem?_set_ne (Ne.symm e)] at hc'
      exact h.oldv b' cs hb' hc'
  · intro b' z hz
    simp only at hz
    by_cases e : b' = b
    · subst e
      rw [List.getElem?_set_self hlt] at hz
      cases hz
      exact hy hf
    · rw [List.getElem?_set_ne (Ne.symm e)] at hz
      exact (h.box b' z hz).mono hf hE (fun _ _ x => x) fun i hi e2 => e (h.inj b' b k (e2 ▸ hi) hk)
  · intro t z hz
    exact RA.mono hf hE (fun _ _ x => x) z _ (h.env t z hz)

/-- A map's block is written. -/
def World.setMap (w : World) (k : Nat) (F : Array MapEntry) (c : Nat) : World := { w with heap := w.heap.setIfInBounds k (.map F c) }
theorem setMap_heap (w : World) (k : Nat) (F : Array MapEntry) (c : Nat) (h : k < w.heap.size) : (World.setMap w k F c).heap[k]? = some (.map F c) := by
  simp [World.setMap, h]
theorem Fr.setMap (w : World) (k : Nat) (F F' : Array MapEntry) (c c' : Nat) (h : w.heap[k]? = some (.map F c)) : Fr (fun i => i = k) w (World.setMap w k F' c') := by
  refine ⟨rfl, rfl, rfl, by simp [World.setMap], fun i _ he => ?_, fun i D t hi => ?_⟩
  · simp [World.setMap, Array.getElem?_setIfInBounds_ne (Ne.symm he)]
  · by_cases e : i = k
    · subst e
      rw [h] at hi
      cases hi
    · exact ⟨D, by simpa [World.setMap, Array.getElem?_setIfInBounds_ne (Ne.symm e)] using hi, rfl⟩
theorem C.setMp {W0 : World} {E : En} {M : Nat → Prop} {m : Nat → Pl} {st : St} {a : Act} {w : World} (h : C W0 E M m st a w) {b k : Nat} {es es' : List (Value × Value)} (hb : st.bs[b]? = some (.mp es)) (hk : m b = .at_ k)
    {F F' : Array MapEntry} {c c' : Nat} (hc : w.heap[k]? = some (Obj.map F c)) (hF : F'.toList.map (fun e => (e.key, e.val)) = es') (h1 : (∀ p ∈ es', p.2.oneCell' = true) ∧ es'.Pairwise (fun p q => p.1 ≠ q.1)) : C W0 E M m ⟨st.N, st.env, st.bs.set b (.mp es')⟩ a (World.setMap w k F' c') := by
  have hf : Fr (fun i => i = k) w (World.setMap w k F' c') := Fr.setMap w k F F' c c' hc
  have hE : ∀ i, i < w.heap.size → i = k → M i := fun i _ e => e ▸ h.mIn b k hk
  have hlt : b < st.bs.length := (List.getElem?_eq_some_iff.1 hb).1
  have low := h.mLow k (h.mIn b k hk)
  have hkl : k < w.heap.size := (Array.getElem?_eq_some_iff.1 hc).1
  refine { h with base := ?_, fr := ?_, mLt := fun i hi => by simpa [World.setMap] using h.mLt i hi, mNo := by simpa using h.mNo, oldv := ?_, len := by simpa using h.len, box := ?_, env := ?_ }
  · exact ⟨hf.os.trans h.base.os, hf.tape.trans h.base.tape, hf.output.trans h.base.output, Nat.le_trans h.base.size hf.size, fun i hi he => (hf.block i (Nat.lt_of_lt_of_le hi h.base.size) (by omega)).trans (h.base.block i hi he),
      fun i D t hi => by
        obtain ⟨D', h1, h2⟩ := h.base.keep i D t hi
        obtain ⟨D'', h3, h4⟩ := hf.keep i D' t h1
        exact ⟨D'', h3, h4.trans h2⟩⟩
  · refine ⟨hf.os.trans h.fr.os, hf.tape.trans h.fr.tape, hf.output.trans h.fr.output, Nat.le_trans h.fr.size hf.size, fun i hi he => ?_, fun i D t hi => ?_⟩
    · refine (hf.block i (Nat.lt_of_lt_of_le hi h.fr.size) fun e => ?_).trans (h.fr.block i hi he)
      subst e
      rcases h.own hk with h1 | h1
      · exact he h1
      · omega
    · obtain ⟨D', h1, h2⟩ := h.fr.keep i D t hi
      obtain ⟨D'', h3, h4⟩ := hf.keep i D' t h1
      exact ⟨D'', h3, h4.trans h2⟩
  · intro b' cs hb' hc'
    simp only at hc'
    by_cases e : b' = b
    · subst e
      rw [List.getElem?_set_self hlt] at hc'
      cases hc'
    · rw [List.getElem?_set_ne (Ne.symm e)] at hc'
      exact h.oldv b' cs hb' hc'
  · intro b' z hz
    simp only at hz
    by_cases e : b' = b
    · subst e
      rw [List.getElem?_set_self hlt] at hz
      cases hz
      exact ⟨k, F', c', hk, setMap_heap w k F' c' hkl, hF, h1⟩
    · rw [List.getElem?_set_ne (Ne.symm e)] at hz
      exact (h.box b' z hz).mono hf hE (fun _ _ x => x) fun i hi e2 => e (h.inj b' b k (e2 ▸ hi) hk)
  · intro t z hz
    exact RA.mono hf hE (fun _ _ x => x) z _ (h.env t z hz)

/-- Cells that lie at a place. -/
def PA (M : Nat → Prop) (m : Nat → Pl) (w : World) (g o : Nat) (cs : List AV) : Prop := ∀ j x, cs[j]? = some x → ∃ u, w.cell? ⟨g, o + j, none⟩ = some u ∧ RA M m w x u

/-- The cells from a pointer on. -/
def ldAt (bs : List Box) : AV → Option (List AV)
  | .ptr b j => match bs[b]? with | some (.var cs) => some (cs.drop j) | _ => none
  | .ep b sz i j => match bs[b]? with | some (.vec sz' _ l) => if sz = sz' then (l[i]?).map fun row => (row.drop j).map .d else none | some (.own sz' _ cs) => if sz = sz' ∧ i * sz + sz ≤ cs.length then some (((cs.drop (i * sz)).take sz).drop j) else none | _ => none
  | .dp ds => some (ds.map .d)
  | _ => none

theorem ldAt_sound {W0 : World} {E : En} {M : Nat → Prop} {m : Nat → Pl} {st : St} {a : Act} {w : World} (h : C W0 E M m st a w) {x : AV} {u : Value} {cs : List AV} (hx : RA M m w x u) (hl : ldAt st.bs x = some cs) :
    ∃ g o, u = .pointer (some ⟨g, o, none⟩) ∧ PA M m w g o cs := by
  cases x with
  | ptr b j =>
    simp only [ldAt] at hl
    split at hl
    · rename_i cs0 hb
      cases hl
      simp only [RA] at hx
      obtain ⟨k, h1, rfl⟩ := hx
      obtain ⟨k', Cs, T, h2, h3, h4⟩ := h.box b _ hb
      rw [h1] at h2
      cases h2
      refine ⟨k, j, rfl, fun i y hy => ?_⟩
      rw [List.getElem?_drop] at hy
      obtain ⟨v, h5, h6⟩ := h4.get hy
      exact ⟨v, by rw [cell_of_row w k (j + i) Cs T (0, 0) h3]; simpa using h5, h6⟩
    · cases hl
  | ep b sz i j =>
    simp only [ldAt] at hl
    split at hl
    · rename_i sz' bt l hb
      split at hl
      · rename_i e
        subst e
        simp only [RA] at hx
        obtain ⟨k, h1, rfl⟩ := hx
        obtain ⟨_, _, _, h2 | ⟨k', Cs, T, h2, h3, h4, h5⟩⟩ := h.box b _ hb
        · rw [h1] at h2
          cases h2.1
        · rw [h1] at h2
          cases h2
          cases hr : l[i]? with
          | none => simp [hr] at hl
          | some row =>
            simp only [hr, Option.map_some, Option.some.injEq] at hl
            subst hl
            obtain ⟨h6, h7⟩ := h5 i row hr
            refine ⟨k, i * sz + j, rfl, fun q y hy => ?_⟩
            rw [List.getElem?_map, List.getElem?_drop] at hy
            cases hd : row[j + q]? with
            | none => simp [hd] at hy
            | some d =>
              simp only [hd, Option.map_some, Option.some.injEq] at hy
              subst hy
              obtain ⟨v, h8, h9⟩ := h7 (j + q) d hd
              exact ⟨v, by rw [cell_of_row w k _ Cs T (0, 0) h3, Nat.add_assoc]; exact h8, by simp only [RA]; exact h9⟩
      · cases hl
    · rename_i sz' bt cs0 hb
      split at hl
      · rename_i e
        obtain ⟨rfl, hfit⟩ := e
        simp only [Option.some.injEq] at hl
        subst hl
        simp only [RA] at hx
        obtain ⟨k, h1, rfl⟩ := hx
        obtain ⟨_, _, _, h2 | ⟨k', Cs, T, h2, h3, h4, h5⟩⟩ := h.box b _ hb
        · rw [h1] at h2
          cases h2.1
        · rw [h1] at h2
          cases h2
          refine ⟨k, i * sz + j, rfl, fun q y hy => ?_⟩
          rw [List.getElem?_drop, List.getElem?_take] at hy
          split at hy
          · rw [List.getElem?_drop] at hy
            obtain ⟨v, h6, h7⟩ := h5.get hy
            rw [List.getElem?_take] at h6
            split at h6
            · exact ⟨v, by rw [cell_of_row w k _ Cs T (0, 0) h3, Nat.add_assoc]; simpa using h6, h7⟩
            · cases h6
          · cases hy
      · cases hl
    · cases hl
  | dp ds =>
    simp only [ldAt, Option.some.injEq] at hl
    subst hl
    simp only [RA] at hx
    obtain ⟨g, o, rfl, h2⟩ := hx
    refine ⟨g, o, rfl, fun j y hy => ?_⟩
    rw [List.getElem?_map] at hy
    cases hd : ds[j]? with
    | none => simp [hd] at hy
    | some d =>
      simp only [hd, Option.map_some, Option.some.injEq] at hy
      subst hy
      obtain ⟨v, h3, h4, h5⟩ := h2 j d hd
      exact ⟨v, h4, by simp only [RA]; exact h5⟩
  | _ => simp [ldAt] at hl
end Go.Proofs.YtfbegbpipmgfiaaDoor.Lift
end
section
/- The lift, third part: operations that only give a value. No conditions: words and their laws. -/
set_option linter.unusedVariables false
set_option linter.unusedSimpArgs false
namespace Go.Proofs.YtfbegbpipmgfiaaDoor.Lift
open Go Go.RowKit

section
variable {P : Program}
/-- Facts of a type: its cells; whether it is an aggregate; a slice's element; a field's offset and type; its zero's cells; its bytes. -/
def szT (P : Program) (T : TypeId) : Option Nat := (P.info? T).map (·.size)
def btT (P : Program) (T : TypeId) : Option Nat := (P.info? T).map (·.bytes)
def aggT (P : Program) (T : TypeId) : Option Bool := (P.underlying T).map fun | .struct _ | .array _ _ => true | _ => false
def elT (P : Program) (T : TypeId) : Option TypeId := match P.underlying T with | some (.slice e) => some e | _ => none
def fdT (P : Program) (T : TypeId) (i : Nat) : Option (Nat × TypeId) := match P.underlying T with | some (.struct fs) => (fs[i]?).map fun f => (f.offset, f.type) | _ => none
def plT (P : Program) (T : TypeId) : Option (List (Nat × Nat)) := match P.underlying T with | some (.struct fs) => fs.toList.mapM fun f => (P.info? f.type).map fun i => (f.offset, i.size) | _ => none
def zrT (P : Program) (T : TypeId) : Option (List Value) := (P.info? T).bind fun i => i.zero.map (·.cells.toList)
def isStr (P : Program) (T : TypeId) : Bool := match P.underlying T with | some .string => true | _ => false
def isSl (P : Program) (T : TypeId) : Bool := match P.underlying T with | some (.slice _) => true | _ => false
def isBl (P : Program) (T : TypeId) : Bool := match P.underlying T with | some .bool => true | _ => false
def ikT (P : Program) (T : TypeId) : Option IntKind := match P.underlying T with | some (.int k) => some k | _ => none
def isTy (P : Program) (T : TypeId) : Bool := (P.underlying T).isSome

theorem run_szT {T n : Nat} (h : szT P T = some n) (w : World) : (sizeOf T).run P w = .ok n w := by
  unfold szT at h
  cases hi : P.info? T with
  | none => simp [hi] at h
  | some i =>
    simp [hi] at h
    simp [sizeOf, typeInfo, hi, h]
theorem run_aggT {T : Nat} {b : Bool} (h : aggT P T = some b) (w : World) : (isAgg T).run P w = .ok b w := by
  unfold aggT at h
  cases hu : P.underlying T with
  | none => simp [hu] at h
  | some d =>
    unfold isAgg
    rw [Sem.run_bind, run_underlying hu w]
    simp only [hu, Option.map_some, Option.some.injEq] at h
    subst h
    cases d <;> rfl
theorem elT_iff {T e : Nat} (h : elT P T = some e) : P.underlying T = some (.slice e) := by
  unfold elT at h
  split at h
  · rename_i e' hu
    cases h
    exact hu
  · cases h

/-- A constant as what it stands for. -/
def cst1 : Value → AV
  | .slice none 0 0 => .d .e
  | v => .d (.v v)
def cst : Value → Option AV
  | .agg cs => if cs.toList.all (·.oneCell') then some (.agg (cs.toList.map cst1)) else none
  | .tuple _ => none
  | v => some (cst1 v)
theorem RA.cst1 {M : Nat → Prop} {m : Nat → Pl} {w : World} {v : Value} (h : v.oneCell' = true) : RA M m w (cst1 v) v := by
  unfold Lift.cst1
  split
  · simp only [RA]
    exact .e none
  · simp only [RA]
    exact .v _ h
theorem RAs.cst1 {M : Nat → Prop} {m : Nat → Pl} {w : World} : ∀ {l : List Value}, (l.all (·.oneCell') = true) → RAs M m w (l.map Lift.cst1) l
  | [], _ => by simp only [List.map_nil, RAs]
  | v :: l, h => by
    simp only [List.all_cons, Bool.and_eq_true] at h
    simp only [List.map_cons, RAs]
    exact ⟨RA.cst1 h.1, RAs.cst1 h.2⟩
theorem RA.cst {M : Nat → Prop} {m : Nat → Pl} {w : World} {v : Value} {x : AV} (h : cst v = some x) : RA M m w x v := by
  cases v <;> simp only [Lift.cst, Option.some.injEq] at h
  case agg cs =>
    split at h
    · cases h
      simp only [RA]
      exact ⟨cs, rfl, RAs.cst1 (by assumption)⟩
    · cases h
  all_goals first
    | (cases h; done)
    | (subst h; exact RA.cst1 rfl)

/-- What is known of temporaries holds. -/
def Kn (M : Nat → Prop) (m : Nat → Pl) (w : World) (a : Act) (e : Nat → Option AV) : Prop := ∀ t x, e t = some x → RA M m w x (a.tmps.getD t undef)
def evo (e : Nat → Option AV) : Operand → Option AV
  | .tmp t => e t
  | .const v => cst v
  | .global g => some (.d (.v (.pointer (some ⟨g, 0, none⟩))))
  | .func f => some (.fn f [])
theorem evo_sound {M : Nat → Prop} {m : Nat → Pl} {a : Act} {w : World} {e : Nat → Option AV} (h : Kn M m w a e) {o : Operand} {x : AV} (hx : evo e o = some x) : RA M m w x (a.eval o) := by
  cases o with
  | tmp t => exact h t x hx
  | const v => exact RA.cst hx
  | global g =>
    simp only [evo, Option.some.injEq] at hx
    subst hx
    simp only [RA]
    exact .v _ rfl
  | func f =>
    simp only [evo, Option.some.injEq] at hx
    subst hx
    simp only [RA]
    exact ⟨#[], rfl, by simp only [RAs]⟩

/-- Bits of whole numbers; numbers moved by bits. -/
def andI (k : IntKind) (a b : Int) : Int := k.wrap (BitVec.ofInt k.bits a &&& BitVec.ofInt k.bits b).toNat
def orI (k : IntKind) (a b : Int) : Int := k.wrap (BitVec.ofInt k.bits a ||| BitVec.ofInt k.bits b).toNat
def xorI (k : IntKind) (a b : Int) : Int := k.wrap (BitVec.ofInt k.bits a ^^^ BitVec.ofInt k.bits b).toNat
def shlI (k : IntKind) (a b : Int) : Int := k.wrap (a * 2 ^ min b.toNat k.bits)
def shrI (k : IntKind) (a b : Int) : Int := a.fdiv (2 ^ min b.toNat k.bits)
/-- Whole numbers. -/
def iop (op : BinOp) (k : IntKind) (a b : Int) : Option Value :=
  match op with
  | .add => some (.int k (k.wrap (a + b)))
  | .sub => some (.int k (k.wrap (a - b)))
  | .mul => some (.int k (k.wrap (a * b)))
  | .quo => if b = 0 then none else some (.int k (k.wrap (a.tdiv b)))
  | .rem => if b = 0 then none else some (.int k (a.tmod b))
  | .and => some (.int k (andI k a b))
  | .or => some (.int k (orI k a b))
  | .xor => some (.int k (xorI k a b))
  | .eql => some (.bool (a == b))
  | .neq => some (.bool (a != b))
  | .lss => some (.bool (a < b))
  | .leq => some (.bool (a ≤ b))
  | .gtr => some (.bool (a > b))
  | .geq => some (.bool (a ≥ b))
  | _ => none
def shop (op : BinOp) (k : IntKind) (a b : Int) : Option Value :=
  if b < 0 then none else
  match op with
  | .shl => some (.int k (shlI k a b))
  | .shr => some (.int k (shrI k a b))
  | _ => none
/-- Texts. -/
def sop (op : BinOp) (a b : ByteArray) : Option Value :=
  match op with
  | .add => if a.size + b.size ≤ 9223372036854775807 then some (.string (a ++ b)) else none
  | .eql => some (.bool (a.toList == b.toList))
  | .neq => some (.bool !(a.toList == b.toList))
  | .lss => some (.bool (Op.bytesLess a.toList b.toList))
  | _ => none
/-- Floats held against each other. -/
def fop (op : BinOp) (k : FloatKind) (a b : Nat) : Option Value :=
  match op with
  | .eql => some (.bool (k.format.order a b == some .eq))
  | .neq => some (.bool (k.format.order a b != some .eq))
  | .lss => some (.bool (k.format.order a b == some .lt))
  | .leq => some (.bool (k.format.order a b == some .lt || k.format.order a b == some .eq))
  | .gtr => some (.bool (k.format.order a b == some .gt))
  | .geq => some (.bool (k.format.order a b == some .gt || k.format.order a b == some .eq))
  | _ => none
def scal2 (P : Program) (op : BinOp) (T : TypeId) : Value → Value → Option Value
  | .int k a, .int k' b => match op with
    | .shl => shop .shl k a b
    | .shr => shop .shr k a b
    | op => if k = k' then iop op k a b else none
  | .string a, .string b => sop op a b
  | .float k a, .float k' b => if k = k' then fop op k a b else none
  | .bool a, .bool b => if isBl P T then (match op with | .eql => some (.bool (a == b)) | .neq => some (.bool !(a == b)) | _ => none) else none
  | _, _ => none

theorem iop_sound {op : BinOp} {k : IntKind} {a b : Int} {v : Value} (h : iop op k a b = some v) (T : TypeId) (w : World) : (binOp op T (.int k a) (.int k b)).run P w = .ok v w := by
  cases op <;> simp only [iop, Option.some.injEq] at h
  case quo =>
    split at h
    · cases h
    · cases h
      rename_i hb
      simp [binOp, Op.intDiv, hb]
  case rem =>
    split at h
    · cases h
    · cases h
      rename_i hb
      simp [binOp, Op.intDiv, hb]
  all_goals first
    | (cases h; done)
    | (subst h; simp [binOp, Op.intArith, Op.intBits, Op.intCmp, andI, orI, xorI]; done)
theorem shop_sound {op : BinOp} {k : IntKind} {a b : Int} {v : Value} (h : shop op k a b = some v) (yk : IntKind) (T : TypeId) (w : World) : (binOp op T (.int k a) (.int yk b)).run P w = .ok v w := by
  unfold shop at h
  split at h
  · cases h
  · rename_i hb
    cases op <;> simp only [Option.some.injEq] at h
    case shl =>
      subst h
      show (Op.shift .shl k a yk b).run P w = _
      simp only [Op.shift, if_neg hb]
      rfl
    case shr =>
      subst h
      show (Op.shift .shr k a yk b).run P w = _
      simp only [Op.shift, if_neg hb]
      rfl
    all_goals cases h
theorem sop_sound {op : BinOp} {a b : ByteArray} {v : Value} (h : sop op a b = some v) (T : TypeId) (w : World) : (binOp op T (.string a) (.string b)).run P w = .ok v w := by
  cases op <;> simp only [sop, Option.some.injEq] at h
  case add =>
    split at h
    · cases h
      rename_i hb
      have := run_string_add_sum (P := P) (w := w) a b hb
      simpa [binOp] using this
    · cases h
  all_goals first
    | (cases h; done)
    | (subst h; simp [binOp, Op.stringOp]; done)
theorem fop_sound {op : BinOp} {k : FloatKind} {a b : Nat} {v : Value} (h : fop op k a b = some v) (T : TypeId) (w : World) : (binOp op T (.float k a) (.float k b)).run P w = .ok v w := by
  cases op <;> simp only [fop, Option.some.injEq] at h
  all_goals first
    | (cases h; done)
    | (subst h; simp [binOp, Op.floatCmp]; done)
theorem scal2_sound {op : BinOp} {T : TypeId} {x y v : Value} (h : scal2 P op T x y = some v) (w : World) : (binOp op T x y).run P w = .ok v w := by
  unfold scal2 at h
  split at h
  · split at h
    · exact shop_sound h _ T w
    · exact shop_sound h _ T w
    · split at h
      · rename_i e
        subst e
        exact iop_sound h T w
      · cases h
  · exact sop_sound h T w
  · split at h
    · rename_i e
      subst e
      exact fop_sound h T w
    · cases h
  · rename_i a b
    split at h
    · rename_i hb
      unfold isBl at hb
      split at hb
      · rename_i hu
        split at h
        · cases h
          exact run_eql_bool _ T a b hu
        · cases h
          exact run_neq_bool _ T a b hu
        · cases h
      · cases hb
    · cases h
  · cases h
theorem eqGuard_scal {op : BinOp} {T : TypeId} {x y v : Value} (h : scal2 P op T x y = some v) (o o' : Operand) : eqGuard op T o o' x y = pure () := by
  cases x <;> simp only [scal2] at h
  case int => exact eqGuard_at_int ..
  case string => exact eqGuard_at_string ..
  case float => exact eqGuard_at_float ..
  case bool => exact eqGuard_at_bool ..
  all_goals cases h

def unV (op : UnOp) : Value → Option Value
  | .int k n => match op with | .neg => some (.int k (k.wrap (0 - n))) | _ => none
  | .bool b => match op with | .not => some (.bool !b) | _ => none
  | _ => none
theorem unV_sound {op : UnOp} {x v : Value} (h : unV op x = some v) (w : World) : (Op.unary op x).run P w = .ok v w := by
  unfold unV at h
  split at h <;> (try split at h) <;> first
    | (cases h; done)
    | (cases h; simp [Op.unary, Op.intArith])

def cvV (P : Program) (src dst : TypeId) : Value → Option Value
  | .int _ n => if isTy P src then (match ikT P dst with | some k => some (.int k (k.wrap n)) | none => none) else none
  | .string s => if isStr P src && isStr P dst then some (.string s) else none
  | _ => none
theorem isStr_iff {T : TypeId} (h : isStr P T = true) : P.underlying T = some .string := by
  unfold isStr at h
  split at h
  · assumption
  · cases h
theorem isSl_iff {T : TypeId} (h : isSl P T = true) : ∃ e, P.underlying T = some (.slice e) := by
  unfold isSl at h
  split at h
  · exact ⟨_, by assumption⟩
  · cases h
theorem ikT_iff {T : TypeId} {k : IntKind} (h : ikT P T = some k) : P.underlying T = some (.int k) := by
  unfold ikT at h
  split at h
  · cases h
    assumption
  · cases h
theorem cvV_sound {src dst : TypeId} {x v : Value} (h : cvV P src dst x = some v) (w : World) : (convert src dst x).run P w = .ok v w := by
  unfold cvV at h
  split at h
  · split at h
    · rename_i hs
      unfold isTy at hs
      split at h
      · cases h
        rename_i k hk
        obtain ⟨d, hd⟩ := Option.isSome_iff_exists.1 hs
        simp [convert, run_underlying (ikT_iff hk), run_underlying hd, Conv.intToInt]
      · cases h
    · cases h
  · split at h
    · rename_i hs
      simp only [Bool.and_eq_true] at hs
      cases h
      simp [convert, run_underlying (isStr_iff hs.1), run_underlying (isStr_iff hs.2)]
    · cases h
  · cases h

def ldV (P : Program) (T : TypeId) (cs : List AV) : Option AV :=
  match aggT P T, szT P T with
  | some true, some n => if n ≤ cs.length then some (.agg (cs.take n)) else none
  | some false, some _ => cs.head?
  | _, _ => none
theorem ldV_sound {M : Nat → Prop} {m : Nat → Pl} {w : World} {T : TypeId} {g o : Nat} {cs : List AV} {x : AV} (hp : PA M m w g o cs) (h : ldV P T cs = some x) : ∃ u, (loadVar T ⟨g, o, none⟩).run P w = .ok u w ∧ RA M m w x u := by
  unfold ldV at h
  split at h
  · rename_i n ha hs
    split at h
    · rename_i hn
      cases h
      obtain ⟨us, h1, h2⟩ : ∃ us : List Value, us.length = n ∧ ∀ j, j < n → ∃ u x, us[j]? = some u ∧ cs[j]? = some x ∧ w.cell? ⟨g, o + j, none⟩ = some u ∧ RA M m w x u := by
        have : ∀ k, k ≤ n → ∃ us : List Value, us.length = k ∧ ∀ j, j < k → ∃ u x, us[j]? = some u ∧ cs[j]? = some x ∧ w.cell? ⟨g, o + j, none⟩ = some u ∧ RA M m w x u := by
          intro k
          induction k with
          | zero => exact fun _ => ⟨[], rfl, fun j hj => by omega⟩
          | succ k ih =>
            intro hk
            obtain ⟨us, h1, h2⟩ := ih (by omega)
            have hx : cs[k]? = some cs[k] := List.getElem?_eq_getElem (by omega)
            obtain ⟨u, h3, h4⟩ := hp k _ hx
            refine ⟨us ++ [u], by simp [h1], fun j hj => ?_⟩
            by_cases e : j = k
            · subst e
              exact ⟨u, _, by rw [List.getElem?_append_right (by omega), h1]; simp, hx, h3, h4⟩
            · obtain ⟨u', x', h5, h6⟩ := h2 j (by omega)
              exact ⟨u', x', by rw [List.getElem?_append_left (by omega)]; exact h5, h6⟩
        exact this n (Nat.le_refl _)
      have hl := run_loadCells_list (P := P) w ⟨g, o, none⟩ us (fun j v hv => by
        have hj : j < n := by rw [← h1]; exact (List.getElem?_eq_some_iff.1 hv).1
        obtain ⟨u, y, h5, _, h6, _⟩ := h2 j hj
        rw [h5] at hv
        cases hv
        rw [Addr.add_lit]
        exact h6)
      rw [h1] at hl
      refine ⟨.agg us.toArray, ?_, ?_⟩
      · simp only [loadVar, Sem.run_bind, run_aggT ha, Result.andThen_ok, if_true, run_szT hs, hl, Sem.run_pure]
      · simp only [RA]
        refine ⟨us.toArray, rfl, RAs.mk (by simp [h1]; omega) fun i y v hy hv => ?_⟩
        simp only at hv
        have hi : i < n := by rw [← h1]; exact (List.getElem?_eq_some_iff.1 hv).1
        obtain ⟨u, y', h5, h7, _, h8⟩ := h2 i hi
        rw [List.getElem?_take, if_pos hi, h7] at hy
        cases hy
        rw [h5] at hv
        cases hv
        exact h8
    · cases h
  · rename_i n ha hs
    cases cs with
    | nil => simp at h
    | cons y cs =>
      simp only [List.head?_cons, Option.some.injEq] at h
      subst h
      obtain ⟨u, h1, h2⟩ := hp 0 y (by simp)
      refine ⟨u, ?_, h2⟩
      simp only [Nat.add_zero] at h1
      simp only [loadVar, Sem.run_bind, run_aggT ha, Result.andThen_ok, Bool.false_eq_true, if_false, run_load, h1]
  · cases h

/-- A field of an aggregate. -/
def fdV (P : Program) (T : TypeId) (i : Nat) : AV → Option AV
  | .agg l => match fdT P T i with | some (off, t) => ldV P t (l.drop off) | none => none
  | _ => none
theorem fdT_iff {T i off t : Nat} (h : fdT P T i = some (off, t)) : ∃ fs f, P.underlying T = some (.struct fs) ∧ fs[i]? = some f ∧ f.offset = off ∧ f.type = t := by
  unfold fdT at h
  split at h
  · rename_i fs hu
    cases hf : fs[i]? with
    | none => simp [hf] at h
    | some f =>
      simp only [hf, Option.map_some, Option.some.injEq, Prod.mk.injEq] at h
      exact ⟨fs, f, hu, hf, h.1, h.2⟩
  · cases h
theorem fdV_sound {M : Nat → Prop} {m : Nat → Pl} {w : World} {T : TypeId} {i : Nat} {x y : AV} {u : Value} (hx : RA M m w x u) (h : fdV P T i x = some y) : ∃ v, (Instr.field T u i).run P w = .ok v w ∧ RA M m w y v := by
  unfold fdV at h
  split at h
  · rename_i l
    split at h
    · rename_i off t hf
      obtain ⟨fs, f, hu, hfi, rfl, rfl⟩ := fdT_iff hf
      simp only [RA] at hx
      obtain ⟨us, rfl, hr⟩ := hx
      have hd := hr.drop f.offset
      unfold ldV at h
      split at h
      · rename_i n ha hs
        split at h
        · rename_i hn
          cases h
          refine ⟨.agg (us.extract f.offset (f.offset + n)), ?_, ?_⟩
          · simp [Instr.field, run_underlying hu, hfi, part, asAgg, run_aggT ha, run_szT hs]
          · simp only [RA]
            refine ⟨_, rfl, ?_⟩
            have := hd.take n
            simpa [List.take_drop, Nat.add_comm] using this
        · cases h
      · rename_i n ha hs
        cases hl : l.drop f.offset with
        | nil => simp [hl] at h
        | cons z r =>
          simp only [hl, List.head?_cons, Option.some.injEq] at h
          subst h
          have h0 : (l.drop f.offset)[0]? = some z := by rw [hl]; rfl
          obtain ⟨v, h1, h2⟩ := hd.get h0
          rw [List.getElem?_drop, Nat.add_zero] at h1
          refine ⟨v, ?_, h2⟩
          have h1' : us[f.offset]? = some v := by simpa using h1
          simp [Instr.field, run_underlying hu, hfi, part, asAgg, run_aggT ha, h1']
      · cases h
    · cases h
  · cases h

/-- The address of a field. -/
def faV (P : Program) (T : TypeId) (i : Nat) (x : AV) : Option AV :=
  match fdT P T i with
  | some (off, t) => match szT P t with
    | some (n + 1) => match x with
      | .ptr b j => some (.ptr b (j + off))
      | .ep b sz q j => some (.ep b sz q (j + off))
      | .dp ds => some (.dp (ds.drop off))
      | _ => none
    | _ => none
  | none => none
theorem faV_sound {M : Nat → Prop} {m : Nat → Pl} {w : World} {T : TypeId} {i : Nat} {x y : AV} {u : Value} (hx : RA M m w x u) (h : faV P T i x = some y) : ∃ v, (Instr.fieldAt T u i).run P w = .ok v w ∧ RA M m w y v := by
  unfold faV at h
  split at h
  · rename_i off t hf
    obtain ⟨fs, f, hu, hfi, rfl, rfl⟩ := fdT_iff hf
    split at h
    · rename_i n hs
      have key : ∀ g o, u = .pointer (some ⟨g, o, none⟩) → (Instr.fieldAt T u i).run P w = .ok (.pointer (some ⟨g, o + f.offset, none⟩)) w := by
        rintro g o rfl
        simp [Instr.fieldAt, run_underlying hu, hfi, Instr.sureAddr, fieldPlace, run_szT hs, Addr.add_lit]
      split at h
      · cases h
        simp only [RA] at hx
        obtain ⟨k, h1, rfl⟩ := hx
        exact ⟨_, key _ _ rfl, by simp only [RA]; exact ⟨k, h1, rfl⟩⟩
      · cases h
        simp only [RA] at hx
        obtain ⟨k, h1, rfl⟩ := hx
        exact ⟨_, key _ _ rfl, by simp only [RA]; exact ⟨k, h1, by rw [Nat.add_assoc]⟩⟩
      · cases h
        simp only [RA] at hx
        obtain ⟨g, o, rfl, h2⟩ := hx
        refine ⟨_, key _ _ rfl, ?_⟩
        simp only [RA]
        refine ⟨g, o + f.offset, rfl, fun j d hd => ?_⟩
        rw [List.getElem?_drop] at hd
        obtain ⟨v, h3, h4, h5⟩ := h2 _ d hd
        exact ⟨v, h3, by rw [Nat.add_assoc]; exact h4, h5⟩
      · cases h
    · cases h
  · cases h

theorem RD.rows_inv {M : Nat → Prop} {w : World} {sz bt : Nat} {l : List (List D)} {u : Value} (h : RD M w (.rows sz bt l) u) : ∃ (A : Option Addr) (c : Nat) (U : Nat → Nat → Value), u = .slice A l.length c ∧
    (∀ (i : Nat) (row : List D), l[i]? = some row → row.length = sz ∧ ∃ g o, A = some ⟨g, o, none⟩ ∧ ∀ j, j < sz → ¬ M g ∧ w.cell? ⟨g, o + i * sz + j, none⟩ = some (U i j)) ∧
    ∀ (i : Nat) (row : List D) (j : Nat) (d : D), l[i]? = some row → row[j]? = some d → RD M w d (U i j) := by
  cases h with
  | rows _ _ _ A c U hbt hb hc hA hU => exact ⟨A, c, U, rfl, hA, hU⟩
theorem RD.rows_len {M : Nat → Prop} {w : World} {sz bt : Nat} {l : List (List D)} {u : Value} (h : RD M w (.rows sz bt l) u) : 0 < bt ∧ l.length * bt ≤ 140737488355328 := by
  cases h with
  | rows _ _ _ A c U hbt hb hc hA hU => exact ⟨hbt, hb⟩

/-- The address of an element. -/
def ixV (P : Program) (T : TypeId) (x i : AV) : Option AV :=
  match elT P T with
  | some e => match szT P e with
    | some sz' => match x, i with
      | .d (.rows sz _ l), .d (.v (.int _ n)) => if sz' = sz then (if 0 ≤ n then (l[n.toNat]?).map .dp else none) else none
      | .sl b sz lo len, .d (.v (.int _ n)) => if sz' = sz then (if 0 ≤ n ∧ n < len then some (.ep b sz (lo + n.toNat) 0) else none) else none
      | _, _ => none
    | none => none
  | none => none
theorem run_indexAt {T e sz : Nat} (hu : P.underlying T = some (.slice e)) (hs : szT P e = some sz) (w : World) (g o len cap : Nat) (k : IntKind) (n : Int) (h0 : 0 ≤ n) (h1 : n < len) :
    (Instr.indexAt T (.slice (some ⟨g, o, none⟩) len cap) (.int k n)).run P w = .ok (.pointer (some ⟨g, o + n.toNat * sz, none⟩)) w := by
  have hc : 0 ≤ n ∧ n < (len : Int) := ⟨h0, h1⟩
  simp [Instr.indexAt, asIntOf, run_underlying hu, run_szT hs, hc, Addr.add_lit]
theorem ixV_sound {M : Nat → Prop} {m : Nat → Pl} {w : World} {T : TypeId} {x i y : AV} {u v : Value} (hx : RA M m w x u) (hi : RA M m w i v) (h : ixV P T x i = some y) : ∃ r, (Instr.indexAt T u v).run P w = .ok r w ∧ RA M m w y r := by
  unfold ixV at h
  split at h
  · rename_i e he
    have hu := elT_iff he
    split at h
    · rename_i sz' hs
      split at h
      · rename_i sz bt l k n
        split at h
        · rename_i e1
          subst e1
          split at h
          · rename_i hn
            simp only [RA] at hi hx
            cases hi
            obtain ⟨A, c, U, rfl, hA, hU⟩ := hx.rows_inv
            cases hl : l[n.toNat]? with
            | none => simp [hl] at h
            | some row =>
              simp only [hl, Option.map_some, Option.some.injEq] at h
              subst h
              obtain ⟨h1, g, o, rfl, h2⟩ := hA _ _ hl
              have hlt : n.toNat < l.length := (List.getElem?_eq_some_iff.1 hl).1
              refine ⟨_, run_indexAt hu hs w g o _ _ k n hn (by omega), ?_⟩
              simp only [RA]
              refine ⟨g, _, rfl, fun j d hd => ?_⟩
              have hj : j < sz' := by rw [← h1]; exact (List.getElem?_eq_some_iff.1 hd).1
              obtain ⟨h3, h4⟩ := h2 j hj
              exact ⟨_, h3, h4, hU _ _ _ _ hl hd⟩
          · cases h
        · cases h
      · rename_i b sz lo len k n
        split at h
        · rename_i e1
          subst e1
          split at h
          · rename_i hn
            cases h
            simp only [RA] at hi hx
            cases hi
            rcases hx with ⟨rfl, _⟩ | ⟨q, cap, Cc, Tt, h1, rfl, h2, h3, h4⟩
            · omega
            · refine ⟨_, run_indexAt hu hs w q _ _ _ k n hn.1 hn.2, ?_⟩
              simp only [RA]
              exact ⟨q, h1, by rw [Nat.add_zero, Nat.add_mul]⟩
          · cases h
        · cases h
      · cases h
    · cases h
  · cases h

/-- A byte of a text. -/
def ibV (P : Program) (T : TypeId) : AV → AV → Option AV
  | .d (.v (.string s)), .d (.v (.int _ n)) => if isStr P T then (if 0 ≤ n then (s[n.toNat]?).map fun b => .d (.v (.int .u8 b.toNat)) else none) else none
  | _, _ => none
theorem ibV_sound {M : Nat → Prop} {m : Nat → Pl} {w : World} {T : TypeId} {x i y : AV} {u v : Value} (hx : RA M m w x u) (hi : RA M m w i v) (h : ibV P T x i = some y) : ∃ r, (Instr.index T u v).run P w = .ok r w ∧ RA M m w y r := by
  unfold ibV at h
  split at h
  · rename_i s k n
    split at h
    · rename_i hs
      split at h
      · rename_i hn
        simp only [RA] at hi hx
        cases hi
        cases hx
        cases hb : s[n.toNat]? with
        | none => simp [hb] at h
        | some b =>
          simp only [hb, Option.map_some, Option.some.injEq] at h
          subst h
          refine ⟨_, ?_, by simp only [RA]; exact .v _ rfl⟩
          simp [Instr.index, asIntOf, run_underlying (isStr_iff hs), hn, hb]
      · cases h
    · cases h
  · cases h

def lenV (P : Program) (T : TypeId) : AV → Option AV
  | .d (.v (.string s)) => if isStr P T then some (.d (.v (.int .i64 s.size))) else none
  | .d .e => if isSl P T then some (.d (.v (.int .i64 0))) else none
  | .d (.rows _ _ l) => if isSl P T then some (.d (.v (.int .i64 l.length))) else none
  | .sl _ _ _ n => if isSl P T then some (.d (.v (.int .i64 n))) else none
  | _ => none
theorem lenV_sound {M : Nat → Prop} {m : Nat → Pl} {w : World} {T ty : TypeId} {ts : Array TypeId} {x y : AV} {u : Value} (ht : ts[0]? = some T) (hx : RA M m w x u) (h : lenV P T x = some y) : ∃ r, (Builtin.len_ ts ty #[u]).run P w = .ok r w ∧ RA M m w y r := by
  unfold lenV at h
  split at h <;> first | (cases h; done) | (split at h <;> first | (cases h; done) | cases h)
  all_goals rename_i hs
  · simp only [RA] at hx
    cases hx
    exact ⟨_, by simp [Builtin.len_, ht, run_underlying (isStr_iff hs), goInt]; rfl, by simp only [RA]; exact .v _ rfl⟩
  all_goals obtain ⟨e, hu⟩ := isSl_iff hs
  · simp only [RA] at hx
    cases hx
    exact ⟨_, by simp [Builtin.len_, ht, run_underlying hu, goInt]; rfl, by simp only [RA]; exact .v _ rfl⟩
  · simp only [RA] at hx
    cases hx
    exact ⟨_, by simp [Builtin.len_, ht, run_underlying hu, goInt]; rfl, by simp only [RA]; exact .v _ rfl⟩
  · simp only [RA] at hx
    rcases hx with ⟨rfl, _, _, A, rfl⟩ | ⟨q, cap, Cc, Tt, h1, rfl, h2, h3, h4⟩
    · exact ⟨_, by simp [Builtin.len_, ht, run_underlying hu, goInt]; rfl, by simp only [RA]; exact .v _ rfl⟩
    · exact ⟨_, by simp [Builtin.len_, ht, run_underlying hu, goInt]; rfl, by simp only [RA]; exact .v _ rfl⟩

def nilV : AV → Option AV
  | .ptr b j => some (.ptr b j)
  | .ep b sz i j => some (.ep b sz i j)
  | .dp ds => some (.dp ds)
  | .fn f c => some (.fn f c)
  | _ => none
end
end Go.Proofs.YtfbegbpipmgfiaaDoor.Lift
end
section
/- The lift, fourth part: a step of a walk. No conditions: words and their laws. -/
set_option linter.unusedVariables false
set_option linter.unusedSimpArgs false
namespace Go.Proofs.YtfbegbpipmgfiaaDoor.Lift
open Go Go.RowKit

section
variable {P : Program}

/-- A bound of a slice expression. -/
def bnd (x : Option AV) (d : Nat) : Option Nat :=
  match x with
  | none => some d
  | some (.d (.v (.int _ n))) => if 0 ≤ n then some n.toNat else none
  | _ => none
def slV (P : Program) (T : TypeId) (x : AV) (lo hi mx : Option AV) : Option AV :=
  match mx with
  | none => match x with
    | .d (.v (.string s)) => if isStr P T then (match bnd lo 0, bnd hi s.size with
      | some l, some h => if l ≤ h ∧ h ≤ s.size then some (.d (.v (.string (s.extract l h)))) else none
      | _, _ => none) else none
    | .d (.rows sz bt rs) => match elT P T with
      | some e => if szT P e = some sz then (match bnd lo 0, bnd hi rs.length with
        | some l, some h => if l ≤ h ∧ h ≤ rs.length then some (.d (.rows sz bt ((rs.take h).drop l))) else none
        | _, _ => none) else none
      | none => none
    | .d .e => match elT P T with
      | some e => if isTy P e && (szT P e).isSome then (match bnd lo 0, bnd hi 0 with
        | some 0, some 0 => some (.d .e)
        | _, _ => none) else none
      | none => none
    | .sl b sz k n => match elT P T with
      | some e => if szT P e = some sz then (match bnd lo 0, bnd hi n with
        | some l, some h => if l ≤ h ∧ h ≤ n ∧ (l = 0 ∨ l < h) then some (.sl b sz (k + l) (h - l)) else none
        | _, _ => none) else none
      | none => none
    | _ => none
  | some m => match x with
    | .d (.rows ..) | .d .e | .sl .. => if isSl P T && ((elT P T).bind (szT P)).isSome then (match bnd lo 0, bnd hi 1, bnd (some m) 1 with
      | some 0, some 0, some 0 => some (.d .e)
      | _, _, _ => none) else none
    | _ => none

theorem bnd_iff {M : Nat → Prop} {m : Nat → Pl} {w : World} {x : Option AV} {u : Option Value} {d n : Nat} (hx : (x = none ∧ u = none) ∨ ∃ y v, x = some y ∧ u = some v ∧ RA M m w y v) (h : bnd x d = some n) :
    (u = none ∧ n = d) ∨ ∃ k, u = some (.int k n) := by
  rcases hx with ⟨rfl, rfl⟩ | ⟨y, v, rfl, rfl, hr⟩
  · simp only [bnd, Option.some.injEq] at h
    exact .inl ⟨rfl, h.symm⟩
  · unfold bnd at h
    split at h
    · rename_i e
      cases e
    · rename_i k i e
      cases e
      split at h
      · cases h
        simp only [RA] at hr
        cases hr
        exact .inr ⟨k, by rw [Int.toNat_of_nonneg (by assumption)]⟩
      · cases h
    · cases h

theorem run_bounds (w : World) (is : Bool) (len cap l h : Nat) (lo hi : Option Value) (hl : (lo = none ∧ l = 0) ∨ ∃ k, lo = some (.int k l)) (hh : (hi = none ∧ h = len) ∨ ∃ k, hi = some (.int k h)) (h1 : l ≤ h) (h2 : h ≤ cap) :
    (Instr.sliceBounds is len cap lo hi none).run P w = .ok (l, h, cap) w := by
  rcases hl with ⟨rfl, rfl⟩ | ⟨k, rfl⟩ <;> rcases hh with ⟨rfl, rfl⟩ | ⟨k', rfl⟩
  · simp [Instr.sliceBounds]
  · simp [Instr.sliceBounds, run_sliceBound w k' (h : Int) cap _ (by omega) (by omega)]
  · simp [Instr.sliceBounds, run_sliceBound w k (l : Int) h _ (by omega) (by omega)]
  · simp [Instr.sliceBounds, run_sliceBound w k (l : Int) h _ (by omega) (by omega), run_sliceBound w k' (h : Int) cap _ (by omega) (by omega)]

theorem run_slice (w : World) {T e sz : Nat} (he : elT P T = some e) (hs : szT P e = some sz) (a : Option Addr) (len cap l h : Nat) (lo hi : Option Value) (hl : (lo = none ∧ l = 0) ∨ ∃ k, lo = some (.int k l)) (hh : (hi = none ∧ h = len) ∨ ∃ k, hi = some (.int k h)) (h1 : l ≤ h) (h2 : h ≤ cap) :
    (Instr.sliceAt T (.slice a len cap) lo hi none).run P w = .ok (.slice (if cap = l then a else a.map (·.add (l * sz))) (h - l) (cap - l)) w := by
  have hu := elT_iff he
  have hb := run_bounds (P := P) w true len cap l h lo hi hl hh h1 h2
  simp only [Instr.sliceAt, Sem.run_bind, run_underlying hu, Result.andThen_ok, Instr.slice, hb, run_szT hs, Sem.run_pure]

theorem slV_sound {M : Nat → Prop} {m : Nat → Pl} {w : World} {T : TypeId} {x y : AV} {u : Value} {lo hi mx : Option AV} {lv hv mv : Option Value} (hx : RA M m w x u)
    (hlo : (lo = none ∧ lv = none) ∨ ∃ y v, lo = some y ∧ lv = some v ∧ RA M m w y v) (hhi : (hi = none ∧ hv = none) ∨ ∃ y v, hi = some y ∧ hv = some v ∧ RA M m w y v) (hmx : (mx = none ∧ mv = none) ∨ ∃ y v, mx = some y ∧ mv = some v ∧ RA M m w y v)
    (h : slV P T x lo hi mx = some y) : ∃ r, (Instr.sliceAt T u lv hv mv).run P w = .ok r w ∧ RA M m w y r := by
  unfold slV at h
  split at h
  · obtain ⟨_, rfl⟩ : (none : Option AV) = none ∧ mv = none := by
      rcases hmx with h1 | ⟨y', v', h1, _⟩
      · exact h1
      · cases h1
    split at h
    · rename_i s
      split at h
      · rename_i hs
        split at h
        · rename_i l hh e1 e2
          split at h
          · rename_i hc
            cases h
            simp only [RA] at hx
            cases hx
            have b1 := bnd_iff hlo e1
            have b2 := bnd_iff hhi e2
            refine ⟨.string (s.extract l hh), ?_, by simp only [RA]; exact .v _ rfl⟩
            have hb := run_bounds (P := P) w false s.size s.size l hh lv hv b1 b2 hc.1 hc.2
            simp [Instr.sliceAt, run_underlying (isStr_iff hs), Instr.slice, hb]
          · cases h
        · cases h
      · cases h
    · rename_i sz bt rs
      split at h
      · rename_i e he
        split at h
        · rename_i hs
          split at h
          · rename_i l hh e1 e2
            split at h
            · rename_i hc
              cases h
              simp only [RA] at hx
              have hlen := hx.rows_len
              cases hx with
              | rows _ _ _ A c U hbt hb hcap hA hU =>
              have b1 := bnd_iff hlo e1
              have b2 := bnd_iff hhi e2
              refine ⟨_, run_slice w he hs A _ c l hh lv hv b1 b2 hc.1 (by omega), ?_⟩
              simp only [RA]
              have hl : ((rs.take hh).drop l).length = hh - l := by simp; omega
              have hge : ∀ i row, ((rs.take hh).drop l)[i]? = some row → rs[l + i]? = some row ∧ l + i < hh := fun i row hr => by
                rw [List.getElem?_drop, List.getElem?_take] at hr
                split at hr
                · exact ⟨hr, by assumption⟩
                · cases hr
              rw [← hl]
              refine .rows sz bt _ _ _ (fun i j => U (l + i) j) hbt (Nat.le_trans (Nat.mul_le_mul_right _ (by omega)) hb) (by omega) (fun i row hr => ?_) (fun i row j d hr hd => hU _ row j d (hge i row hr).1 hd)
              obtain ⟨hr1, hr2⟩ := hge i row hr
              obtain ⟨h1, g, o, rfl, h2⟩ := hA _ row hr1
              have hne : ¬ c = l := by omega
              refine ⟨h1, g, o + l * sz, by rw [if_neg hne]; simp [Addr.add_lit], fun j hj => ?_⟩
              have := h2 j hj
              rw [Nat.add_mul] at this
              rw [show o + l * sz + i * sz + j = o + (l * sz + i * sz) + j by omega]
              exact this
            · cases h
          · cases h
        · cases h
      · cases h
    · split at h
      · rename_i e he
        split at h
        · rename_i hs
          simp only [Bool.and_eq_true] at hs
          obtain ⟨sz, hs⟩ := Option.isSome_iff_exists.1 hs.2
          split at h
          · rename_i e1 e2
            cases h
            simp only [RA] at hx
            cases hx with
            | e A =>
            have b1 := bnd_iff hlo e1
            have b2 := bnd_iff hhi e2
            refine ⟨_, run_slice w he hs A 0 0 0 0 lv hv b1 b2 (Nat.le_refl _) (Nat.le_refl _), ?_⟩
            simp only [RA]
            exact .e A
          · cases h
        · cases h
      · cases h
    · rename_i b sz k n
      split at h
      · rename_i e he
        split at h
        · rename_i hs
          split at h
          · rename_i l hh e1 e2
            split at h
            · rename_i hc
              cases h
              simp only [RA] at hx
              have b1 := bnd_iff hlo e1
              have b2 := bnd_iff hhi e2
              rcases hx with ⟨rfl, rfl, h1, A, rfl⟩ | ⟨q, cap, Cc, Tt, h1, rfl, h2, h3, h4⟩
              · have : l = 0 := by omega
                subst this
                have : hh = 0 := by omega
                subst this
                refine ⟨_, run_slice w he hs A 0 0 0 0 lv hv b1 b2 (Nat.le_refl _) (Nat.le_refl _), ?_⟩
                simp only [RA]
                exact .inl ⟨by simp, by simp, h1, A, by simp⟩
              · refine ⟨_, run_slice w he hs _ n cap l hh lv hv b1 b2 hc.1 (by omega), ?_⟩
                simp only [RA]
                refine .inr ⟨q, cap - l, Cc, Tt, h1, ?_, by omega, h3, ?_⟩
                · congr 1
                  split
                  · have : l = 0 := by omega
                    subst this
                    simp
                  · simp [Addr.add_lit, Nat.add_mul]
                · rw [show k + l + (cap - l) = k + cap by omega]
                  exact h4
            · cases h
          · cases h
        · cases h
      · cases h
    · cases h
  · rename_i mm
    have key : ∀ (A : Option Addr) (n c : Nat), u = .slice A n c → (if isSl P T && ((elT P T).bind (szT P)).isSome then (match bnd lo 0, bnd hi 1, bnd (some mm) 1 with
      | some 0, some 0, some 0 => some (.d .e)
      | _, _, _ => none) else none) = some y → ∃ r, (Instr.sliceAt T u lv hv mv).run P w = .ok r w ∧ RA M m w y r := by
      rintro A n c rfl h
      split at h
      · rename_i hs
        simp only [Bool.and_eq_true] at hs
        obtain ⟨e, hu⟩ := isSl_iff hs.1
        have he : elT P T = some e := by simp [elT, hu]
        obtain ⟨sz, hsz⟩ := Option.isSome_iff_exists.1 hs.2
        rw [he] at hsz
        simp only [Option.bind_some] at hsz
        split at h
        · rename_i e1 e2 e3
          cases h
          have b1 := bnd_iff hlo e1
          have b2 := (bnd_iff hhi e2).resolve_left (by omega)
          have b3 := (bnd_iff hmx e3).resolve_left (by omega)
          obtain ⟨k2, rfl⟩ := b2
          obtain ⟨k3, rfl⟩ := b3
          refine ⟨.slice A 0 0, ?_, by simp only [RA]; exact .e A⟩
          rcases b1 with ⟨rfl, _⟩ | ⟨k1, rfl⟩
          · simp [Instr.sliceAt, run_underlying hu, Instr.slice, Instr.sliceBounds, run_sliceBound, run_szT hsz]
          · simp [Instr.sliceAt, run_underlying hu, Instr.slice, Instr.sliceBounds, run_sliceBound, run_szT hsz]
        · cases h
      · cases h
    split at h
    · simp only [RA] at hx
      obtain ⟨A, c, U, e, _⟩ := hx.rows_inv
      exact key A _ c e h
    · simp only [RA] at hx
      cases hx with
      | e A => exact key A 0 0 rfl h
    · simp only [RA] at hx
      rcases hx with ⟨_, _, _, A, e⟩ | ⟨q, cap, Cc, Tt, _, e, _⟩
      · exact key A 0 0 e h
      · exact key _ _ cap e h
    · cases h
end
end Go.Proofs.YtfbegbpipmgfiaaDoor.Lift
end
section
/- The lift, fifth part: aggregates built, variables made and written, and the step of any operation that calls nobody. No conditions: words and their laws. -/
set_option linter.unusedVariables false
set_option linter.unusedSimpArgs false
namespace Go.Proofs.YtfbegbpipmgfiaaDoor.Lift
open Go Go.RowKit

section
variable {P : Program}

/-- Cells laid over others, from a place on. -/
def over {α : Type} (cs : List α) (o : Nat) (ys : List α) : List α := cs.take o ++ ys ++ cs.drop (o + ys.length)
theorem over_len {α : Type} (cs : List α) (o : Nat) (ys : List α) (h : o + ys.length ≤ cs.length) : (over cs o ys).length = cs.length := by simp [over]; omega
theorem over_get {α : Type} (cs : List α) (o : Nat) (ys : List α) (h : o + ys.length ≤ cs.length) (j : Nat) : (over cs o ys)[j]? = if o ≤ j ∧ j < o + ys.length then ys[j - o]? else cs[j]? := by
  unfold over
  by_cases h1 : j < o
  · rw [List.append_assoc, List.getElem?_append_left (by simp; omega), List.getElem?_take, if_pos h1, if_neg (by omega)]
  · by_cases h2 : j < o + ys.length
    · rw [if_pos ⟨by omega, h2⟩, List.append_assoc, List.getElem?_append_right (by simp; omega), List.getElem?_append_left (by simp; omega)]
      congr 1
      simp
      omega
    · rw [if_neg (by omega), List.append_assoc, List.getElem?_append_right (by simp; omega), List.getElem?_append_right (by simp; omega), List.getElem?_drop]
      congr 1
      simp
      omega
theorem over_take {α : Type} (l : List α) (o k : Nat) (ys : List α) (h : o + ys.length ≤ k) (h2 : k ≤ l.length) : (over l o ys).take k = over (l.take k) o ys := by
  refine List.ext_getElem? fun i => ?_
  rw [List.getElem?_take, over_get _ _ _ (by omega), over_get _ _ _ (by rw [List.length_take]; omega), List.getElem?_take]
  by_cases h3 : i < k
  · rw [if_pos h3, if_pos h3]
  · rw [if_neg h3, if_neg (by omega), if_neg h3]
theorem RAs.over {M : Nat → Prop} {m : Nat → Pl} {w : World} {cs ys : List AV} {us vs : List Value} (o : Nat) (h : RAs M m w cs us) (h' : RAs M m w ys vs) : RAs M m w (over cs o ys) (Lift.over us o vs) := by
  unfold Lift.over
  rw [h'.length]
  exact ((h.take _).append h').append (h.drop _)

def fillA (place : Nat → Option (Nat × Nat)) (cells : List AV) : List (Nat × AV) → Option (List AV)
  | [] => some cells
  | (i, x) :: rest =>
    match place i with
    | none => none
    | some (off, size) => if x.cells.length = size ∧ off + size ≤ cells.length ∧ x.cells.all AV.one = true then fillA place (over cells off x.cells) rest else none

theorem foldl_over (off : Nat) : ∀ (vs : List Value) (k : Nat) (cs : Array Value), off + k + vs.length ≤ cs.size →
    ((vs.zipIdx k).foldl (fun cs (p : Value × Nat) => cs.setIfInBounds (off + p.2) p.1) cs).toList = over cs.toList (off + k) vs
  | [], k, cs, _ => by simp [over]
  | v :: vs, k, cs, h => by
    simp only [List.length_cons] at h
    simp only [List.zipIdx_cons, List.foldl_cons]
    rw [foldl_over off vs (k + 1) _ (by simpa using (by omega : off + (k + 1) + vs.length ≤ cs.size))]
    apply List.ext_getElem?
    intro j
    rw [over_get _ _ _ (by simp; omega), over_get _ _ _ (by simp; omega)]
    simp only [Array.toList_setIfInBounds, List.length_cons]
    by_cases h1 : j = off + k
    · subst h1
      rw [if_neg (by omega), if_pos (by omega), List.getElem?_set_self (by simp; omega)]
      simp
    · by_cases h2 : off + (k + 1) ≤ j ∧ j < off + (k + 1) + vs.length
      · rw [if_pos h2, if_pos (by omega)]
        obtain ⟨q, rfl⟩ : ∃ q, j = off + k + 1 + q := ⟨j - (off + k + 1), by omega⟩
        rw [show off + k + 1 + q - (off + k) = q + 1 by omega, show off + k + 1 + q - (off + (k + 1)) = q by omega]
        simp
      · rw [if_neg h2, if_neg (by omega), List.getElem?_set_ne (by omega)]

theorem fillA_sound {M : Nat → Prop} {m : Nat → Pl} {w : World} {place : Nat → Option (Nat × Nat)} : ∀ {parts : List (Nat × AV)} {ps : List (Nat × Value)} {cells : List AV} {C : Array Value} {r : List AV}, RAs M m w cells C.toList →
    parts.length = ps.length → (∀ (i : Nat) (p : Nat × AV) (q : Nat × Value), parts[i]? = some p → ps[i]? = some q → p.1 = q.1 ∧ RA M m w p.2 q.2) → fillA place cells parts = some r → ∃ R, Instr.fill place C ps = some R ∧ RAs M m w r R.toList ∧ R.size = C.size
  | [], [], cells, C, r, hc, _, _, h => by
    simp only [fillA, Option.some.injEq] at h
    subst h
    exact ⟨C, rfl, hc, rfl⟩
  | (i, x) :: parts, (i', u) :: ps, cells, C, r, hc, hl, hp, h => by
    obtain ⟨h1, h2⟩ := hp 0 (i, x) (i', u) rfl rfl
    simp only at h1 h2
    subst h1
    simp only [fillA] at h
    split at h
    · cases h
    · rename_i off size hpl
      split at h
      · rename_i hcond
        have hcells := RA.cells hcond.2.2 h2
        have hlen := hcells.1.length
        have hsz : u.cells.size = size := by rw [← Array.length_toList, ← hlen]; exact hcond.1
        have hC : cells.length = C.size := by rw [hc.length, Array.length_toList]
        have hfold : (u.cells.zipIdx.foldl (fun cs (p : Value × Nat) => cs.setIfInBounds (off + p.2) p.1) C).toList = over C.toList off u.cells.toList := by
          have h3 := foldl_over off u.cells.toList 0 C (by simp; omega)
          rw [Nat.add_zero] at h3
          rw [← h3, ← Array.foldl_toList, Array.toList_zipIdx]
        obtain ⟨R, h4, h5, h6⟩ := fillA_sound (C := u.cells.zipIdx.foldl (fun cs (p : Value × Nat) => cs.setIfInBounds (off + p.2) p.1) C) (by rw [hfold]; exact hc.over off hcells.1) (by simpa using hl)
          (fun q p p' hq hq' => hp (q + 1) p p' (by simpa using hq) (by simpa using hq')) h
        refine ⟨R, ?_, h5, ?_⟩
        · simp only [Instr.fill, hpl]
          rw [if_neg (by simp; omega)]
          exact h4
        · rw [h6, ← Array.length_toList, hfold, over_len _ _ _ (by simp; omega), Array.length_toList]
      · cases h
  | [], _ :: _, _, _, _, _, hl, _, _ => by simp at hl
  | _ :: _, [], _, _, _, _, hl, _, _ => by simp at hl

def evs (env : Nat → Option AV) : List (Nat × Operand) → Option (List (Nat × AV))
  | [] => some []
  | (i, o) :: l => match evo env o, evs env l with | some x, some r => some ((i, x) :: r) | _, _ => none
theorem evs_sound {M : Nat → Prop} {m : Nat → Pl} {a : Act} {w : World} {e : Nat → Option AV} (h : Kn M m w a e) : ∀ {l : List (Nat × Operand)} {r : List (Nat × AV)}, evs e l = some r →
    r.length = l.length ∧ ∀ (i : Nat) (p : Nat × AV) (q : Nat × Value), r[i]? = some p → (l.map fun (i, x) => (i, a.eval x))[i]? = some q → p.1 = q.1 ∧ RA M m w p.2 q.2
  | [], r, he => by
    simp only [evs, Option.some.injEq] at he
    subst he
    exact ⟨rfl, fun i p q hp => by simp at hp⟩
  | (i, o) :: l, r, he => by
    simp only [evs] at he
    split at he
    · rename_i x r' h1 h2
      cases he
      obtain ⟨h3, h4⟩ := evs_sound h h2
      refine ⟨by simp [h3], fun j p q hp hq => ?_⟩
      cases j with
      | zero =>
        simp only [List.getElem?_cons_zero, Option.some.injEq] at hp
        simp only [List.map_cons, List.getElem?_cons_zero, Option.some.injEq] at hq
        subst hp
        subst hq
        exact ⟨rfl, evo_sound h h1⟩
      | succ j =>
        simp only [List.getElem?_cons_succ] at hp
        simp only [List.map_cons, List.getElem?_cons_succ] at hq
        exact h4 j p q hp hq
    · cases he

def evl (env : Nat → Option AV) : List Operand → Option (List AV)
  | [] => some []
  | o :: l => match evo env o, evl env l with | some x, some r => some (x :: r) | _, _ => none
theorem evl_sound {M : Nat → Prop} {m : Nat → Pl} {a : Act} {w : World} {e : Nat → Option AV} (h : Kn M m w a e) : ∀ {l : List Operand} {r : List AV}, evl e l = some r → RAs M m w r (l.map a.eval)
  | [], r, he => by
    simp only [evl, Option.some.injEq] at he
    subst he
    simp only [List.map_nil, RAs]
  | o :: l, r, he => by
    simp only [evl] at he
    split at he
    · rename_i x r' h1 h2
      cases he
      simp only [List.map_cons, RAs]
      exact ⟨evo_sound h h1, evl_sound h h2⟩
    · cases he

/-- A struct built of some fields. -/
def bdV (P : Program) (T : TypeId) (parts : List (Nat × AV)) : Option AV :=
  match plT P T, zrT P T with
  | some places, some z => if z.all (·.oneCell') then (fillA (places[·]?) (z.map cst1) parts).map .agg else none
  | _, _ => none
theorem bdV_sound {M : Nat → Prop} {m : Nat → Pl} {w : World} {T : TypeId} {parts : List (Nat × AV)} {ps : Array (Nat × Value)} {x : AV} (hl : parts.length = ps.toList.length)
    (hp : ∀ (i : Nat) (p : Nat × AV) (q : Nat × Value), parts[i]? = some p → ps.toList[i]? = some q → p.1 = q.1 ∧ RA M m w p.2 q.2) (h : bdV P T parts = some x) : ∃ u, (Instr.build T ps).run P w = .ok u w ∧ RA M m w x u := by
  unfold bdV at h
  split at h
  · rename_i places z h1 h2
    split at h
    · rename_i hz
      cases hf : fillA (places[·]?) (z.map cst1) parts with
      | none => simp [hf] at h
      | some r =>
        simp only [hf, Option.map_some, Option.some.injEq] at h
        subst h
        unfold zrT at h2
        cases hi : P.info? T with
        | none => simp [hi] at h2
        | some it =>
          simp only [hi, Option.bind_some] at h2
          cases hzr : it.zero with
          | none => simp [hzr] at h2
          | some zv =>
            simp only [hzr, Option.map_some, Option.some.injEq] at h2
            subst h2
            obtain ⟨R, h3, h4, _⟩ := fillA_sound (C := zv.cells) (RAs.cst1 hz) hl hp hf
            unfold plT at h1
            split at h1
            · rename_i fs hu
              refine ⟨.agg R, run_build w T ps R ?_, by simp only [RA]; exact ⟨R, rfl, h4⟩⟩
              unfold Program.built
              simp only [hi, hu, hzr, h1]
              simpa using h3
            · cases h1
    · cases h
  · cases h

def toDs : List AV → Option (List D)
  | [] => some []
  | .d x :: l => (toDs l).map (x :: ·)
  | _ :: _ => none
theorem toDs_eq : ∀ {l : List AV} {r : List D}, toDs l = some r → l = r.map .d
  | [], r, h => by
    simp only [toDs, Option.some.injEq] at h
    subst h
    rfl
  | .d x :: l, r, h => by
    simp only [toDs] at h
    cases hl : toDs l with
    | none => simp [hl] at h
    | some r' =>
      simp only [hl, Option.map_some, Option.some.injEq] at h
      subst h
      rw [toDs_eq hl]
      rfl
  | .dp _ :: _, _, h | .ptr .. :: _, _, h | .ep .. :: _, _, h | .sl .. :: _, _, h | .fn .. :: _, _, h | .yd .. :: _, _, h | .agg _ :: _, _, h | .tup _ :: _, _, h | .opt _ _ :: _, _, h | .mref _ :: _, _, h | .junk :: _, _, h => by simp [toDs] at h

def chunk (sz : Nat) : Nat → List D → List (List D)
  | 0, _ => []
  | n + 1, l => l.take sz :: chunk sz n (l.drop sz)
theorem chunk_len (sz : Nat) : ∀ (n : Nat) (l : List D), (chunk sz n l).length = n
  | 0, _ => rfl
  | n + 1, l => by simp [chunk, chunk_len sz n]
theorem chunk_get (sz : Nat) : ∀ (n : Nat) (l : List D) (i : Nat), l.length = n * sz → i < n → ∃ row, (chunk sz n l)[i]? = some row ∧ row.length = sz ∧ ∀ j, j < sz → row[j]? = l[i * sz + j]?
  | 0, _, i, _, h => by omega
  | n + 1, l, 0, hl, _ => by
    rw [Nat.add_mul] at hl
    refine ⟨l.take sz, rfl, by simp; omega, fun j hj => ?_⟩
    rw [List.getElem?_take, if_pos hj]
    simp
  | n + 1, l, i + 1, hl, h => by
    rw [Nat.add_mul] at hl
    obtain ⟨row, h1, h2, h3⟩ := chunk_get sz n (l.drop sz) i (by simp; omega) (by omega)
    refine ⟨row, by simpa [chunk] using h1, h2, fun j hj => ?_⟩
    rw [h3 j hj, List.getElem?_drop]
    congr 1
    rw [Nat.add_mul]
    omega

/-- A slice built of its elements. -/
def bsV (P : Program) (T : TypeId) (len : Nat) (parts : List (Nat × AV)) : Option Box :=
  match elT P T with
  | some e => match szT P e, btT P e, zrT P e with
    | some sz, some bt, some z => if 0 < len * sz ∧ len * sz ≤ 16777216 ∧ 0 < bt ∧ len * bt ≤ 140737488355328 ∧ z.length = sz ∧ z.all (·.oneCell') = true then
        (match fillA (fun i => some (i * sz, sz)) ((List.range (len * sz)).map fun i => cst1 (z.getD (i % sz) default)) parts with
        | some r => (toDs r).map fun ds => .vec sz bt (chunk sz len ds)
        | none => none) else none
    | _, _, _ => none
  | none => none
theorem bsV_sound {M : Nat → Prop} {m : Nat → Pl} {w : World} {T : TypeId} {len : Nat} {parts : List (Nat × AV)} {ps : Array (Nat × Value)} {x : Box} (hl : parts.length = ps.toList.length)
    (hp : ∀ (i : Nat) (p : Nat × AV) (q : Nat × Value), parts[i]? = some p → ps.toList[i]? = some q → p.1 = q.1 ∧ RA M m w p.2 q.2) (h : bsV P T len parts = some x) :
    ∃ Cs e sz bt ds, (Instr.buildSlice T len ps).run P w = .ok (.slice (some ⟨w.heap.size, 0, none⟩) len len) (w.alloc (.cells Cs e)) ∧ x = .vec sz bt (chunk sz len ds) ∧ 0 < sz ∧ 0 < bt ∧ len * bt ≤ 140737488355328 ∧ Cs.size = len * sz ∧ RAs M m w (ds.map .d) Cs.toList := by
  unfold bsV at h
  split at h
  · rename_i e he
    split at h
    · rename_i sz bt z hs hbt hz
      split at h
      · rename_i hc
        obtain ⟨c1, c2, c3, c4, c5, c6⟩ := hc
        split at h
        · rename_i r hf
          cases hd : toDs r with
          | none => simp [hd] at h
          | some ds =>
            simp only [hd, Option.map_some, Option.some.injEq] at h
            subst h
            have hsz : 0 < sz := Nat.pos_of_ne_zero fun e => by simp [e] at c1
            unfold zrT at hz
            cases hi : P.info? e with
            | none => simp [hi] at hz
            | some it =>
              simp only [hi, Option.bind_some] at hz
              cases hzr : it.zero with
              | none => simp [hzr] at hz
              | some zv =>
                simp only [hzr, Option.map_some, Option.some.injEq] at hz
                subst hz
                have hzsz : zv.cells.size = sz := by simpa using c5
                have hzero : RAs M m w ((List.range (len * sz)).map fun i => cst1 (zv.cells.toList.getD (i % sz) default)) ((Array.range (len * sz)).map (zv.cells[· % zv.cells.size]!)).toList := by
                  refine RAs.mk (by simp) fun i y u hy hu => ?_
                  have hi' : i < len * sz := by
                    have := (List.getElem?_eq_some_iff.1 hy).1
                    simpa using this
                  rw [List.getElem?_map, List.getElem?_range hi'] at hy
                  simp only [Option.map_some, Option.some.injEq] at hy
                  subst hy
                  have hu' : u = zv.cells[i % zv.cells.size]! := by
                    simp [hi'] at hu
                    exact hu.symm
                  have hlt : i % sz < zv.cells.size := by rw [hzsz]; exact Nat.mod_lt _ hsz
                  have e1 : zv.cells.toList.getD (i % sz) default = u := by
                    rw [hu', hzsz]
                    simp [List.getD, hlt]
                  rw [e1]
                  refine RA.cst1 (List.all_eq_true.1 c6 u ?_)
                  rw [← e1]
                  simp [List.getD, hlt]
                obtain ⟨R, h3, h4, h5⟩ := fillA_sound hzero hl hp hf
                refine ⟨R, e, sz, bt, ds, ?_, rfl, hsz, c3, c4, by rw [h5]; simp, ?_⟩
                · have hne : ¬ (len * sz = 0) := by omega
                  have hle : ¬ (16777216 < len * sz) := by omega
                  simp [Instr.buildSlice, run_underlying (elT_iff he), run_szT hs, hne, hle, zeroValue, typeInfo, hi, hzr, h3, newRow]
                · rw [← toDs_eq hd]
                  exact h4
        · cases h
      · cases h
    · cases h
  · cases h

theorem vec_ofDs {M : Nat → Prop} {m : Nat → Pl} {w : World} {ds : List D} {Cs : Array Value} {sz len : Nat} (hs : Cs.size = len * sz) (h : RAs M m w (ds.map .d) Cs.toList) : ∀ (i : Nat) (row : List D), (chunk sz len ds)[i]? = some row → row.length = sz ∧ ∀ (j : Nat) (d : D), row[j]? = some d →
    ∃ u, Cs[i * sz + j]? = some u ∧ RD M w d u := by
  intro i row hr
  have hlen : ds.length = len * sz := by
    have := h.length
    simpa [hs] using this
  have hi : i < len := by
    have := (List.getElem?_eq_some_iff.1 hr).1
    rwa [chunk_len] at this
  obtain ⟨row', h1, h2, h3⟩ := chunk_get sz len ds i hlen hi
  rw [h1] at hr
  cases hr
  refine ⟨h2, fun j d hd => ?_⟩
  have hj : j < sz := by rw [← h2]; exact (List.getElem?_eq_some_iff.1 hd).1
  rw [h3 j hj] at hd
  obtain ⟨u, h4, h5⟩ := h.get (i := i * sz + j) (x := .d d) (by rw [List.getElem?_map, hd]; rfl)
  exact ⟨u, by simpa using h4, by simpa only [RA] using h5⟩

/-- A write through a pointer. -/
def stAt (bs : List Box) (p : AV) (ys : List AV) : Option (List Box) :=
  match p with
  | .ptr b j => match bs[b]? with
    | some (.var cs) => if j + ys.length ≤ cs.length then some (bs.set b (.var (over cs j ys))) else none
    | _ => none
  | .ep b sz i j => match bs[b]? with
    | some (.vec sz' bt l) => match toDs ys, l[i]? with
      | some ds, some row => if sz = sz' ∧ j + ds.length ≤ row.length then some (bs.set b (.vec sz' bt (l.set i (over row j ds)))) else none
      | _, _ => none
    | some (.own sz' bt cs) => if sz = sz' ∧ j + ys.length ≤ sz ∧ i * sz + sz ≤ cs.length then some (bs.set b (.own sz' bt (over cs (i * sz + j) ys))) else none
    | _ => none
  | _ => none

theorem stAt_sound {W0 : World} {E : En} {M : Nat → Prop} {m : Nat → Pl} {st : St} {a : Act} {w : World} (h : C W0 E M m st a w) {x : AV} {u : Value} {ys : List AV} {vs : List Value} {bs' : List Box} (hx : RA M m w x u) (hy : RAs M m w ys vs) (h1 : ∀ v ∈ vs, v.oneCell' = true) (hs : stAt st.bs x ys = some bs') :
    ∃ g o w', u = .pointer (some ⟨g, o, none⟩) ∧ (storeCells ⟨g, o, none⟩ vs).run P w = .ok () w' ∧ C W0 E M m ⟨st.N, st.env, bs'⟩ a w' := by
  have hyl := hy.length
  unfold stAt at hs
  split at hs
  · rename_i b j
    split at hs
    · rename_i cs hb
      split at hs
      · rename_i hle
        cases hs
        simp only [RA] at hx
        obtain ⟨k, h2, rfl⟩ := hx
        obtain ⟨k', Cs, T, h3, h4, h5⟩ := h.box b _ hb
        rw [h2] at h3
        cases h3
        have hCl : cs.length = Cs.size := by rw [h5.length, Array.length_toList]
        have hr := run_storeCells_at P k j T vs 0 Cs w h4 (by simp; omega) h1
        refine ⟨k, j, _, rfl, hr, ?_⟩
        simp only [Nat.add_zero]
        refine h.setBox hb (fun cs' _ => ⟨_, rfl⟩) h2 h4 (by simp; omega) fun hf => ?_
        refine ⟨k, _, T, h2, setRow_heap w k Cs _ T (0, 0) h4, ?_⟩
        have := h5.over j hy
        exact RAs.mono hf (fun i _ e => e ▸ h.mIn b k h2) (fun _ _ x => x) _ _ (by simpa [over] using this)
      · cases hs
    · cases hs
  · rename_i b sz i j
    split at hs
    · rename_i sz' bt l hb
      split at hs
      · rename_i ds row hd hr
        split at hs
        · rename_i hc
          obtain ⟨rfl, hle⟩ := hc
          cases hs
          simp only [RA] at hx
          obtain ⟨k, h2, rfl⟩ := hx
          obtain ⟨hsz, hbt, hb47, h3 | ⟨k', Cs, T, h3, h4, h5, h6⟩⟩ := h.box b _ hb
          · rw [h2] at h3
            cases h3.1
          · rw [h2] at h3
            cases h3
            obtain ⟨h7, h8⟩ := h6 i row hr
            have hdl : ds.length = vs.length := by
              rw [← hyl, toDs_eq hd]
              simp
            have hi : i < l.length := (List.getElem?_eq_some_iff.1 hr).1
            have hfit : i * sz + sz ≤ Cs.size := by
              have : (i + 1) * sz ≤ l.length * sz := Nat.mul_le_mul_right _ (by omega)
              rw [Nat.add_mul] at this
              omega
            have hrun := run_storeCells_at P k (i * sz + j) T vs 0 Cs w h4 (by simp; omega) h1
            refine ⟨k, i * sz + j, _, rfl, hrun, ?_⟩
            simp only [Nat.add_zero]
            refine h.setBox hb (fun cs' e => by cases e) h2 h4 (by simp; omega) fun hf => ?_
            have hE : ∀ i, i < w.heap.size → i = k → M i := fun i _ e => e ▸ h.mIn b k h2
            refine ⟨hsz, hbt, by simpa using hb47, .inr ⟨k, _, T, h2, setRow_heap w k Cs _ T (0, 0) h4, by simp; omega, fun i' row' hr' => ?_⟩⟩
            have get' : ∀ q, (List.take (i * sz + j) Cs.toList ++ vs ++ List.drop (i * sz + j + vs.length) Cs.toList).toArray[q]? = if i * sz + j ≤ q ∧ q < i * sz + j + vs.length then vs[q - (i * sz + j)]? else Cs[q]? := fun q => by
              have := over_get Cs.toList (i * sz + j) vs (by simp; omega) q
              simpa [over] using this
            by_cases e : i' = i
            · subst e
              rw [List.getElem?_set_self hi] at hr'
              cases hr'
              refine ⟨by rw [over_len _ _ _ hle, h7], fun q d hq => ?_⟩
              rw [over_get _ _ _ hle] at hq
              rw [get']
              by_cases hq2 : j ≤ q ∧ q < j + ds.length
              · rw [if_pos hq2] at hq
                rw [if_pos (by omega), show i' * sz + q - (i' * sz + j) = q - j by omega]
                obtain ⟨v, h9, h10⟩ := hy.get (i := q - j) (x := .d d) (by rw [toDs_eq hd, List.getElem?_map, hq]; rfl)
                refine ⟨v, h9, RD.mono (by simpa only [RA] using h10) hf hE (fun _ _ x => x)⟩
              · rw [if_neg hq2] at hq
                rw [if_neg (by omega)]
                obtain ⟨v, h9, h10⟩ := h8 q d hq
                exact ⟨v, h9, h10.mono hf hE (fun _ _ x => x)⟩
            · rw [List.getElem?_set_ne (Ne.symm e)] at hr'
              obtain ⟨h9, h10⟩ := h6 i' row' hr'
              refine ⟨h9, fun q d hq => ?_⟩
              have hq3 : q < sz := by rw [← h9]; exact (List.getElem?_eq_some_iff.1 hq).1
              have hdj : j + vs.length ≤ sz := by omega
              have hapart : i' * sz + q < i * sz ∨ i * sz + sz ≤ i' * sz + q := by
                rcases Nat.lt_or_gt_of_ne e with h11 | h11
                · have : (i' + 1) * sz ≤ i * sz := Nat.mul_le_mul_right _ h11
                  rw [Nat.add_mul] at this
                  omega
                · have : (i + 1) * sz ≤ i' * sz := Nat.mul_le_mul_right _ h11
                  rw [Nat.add_mul] at this
                  omega
              rw [get', if_neg (by omega)]
              obtain ⟨v, h11, h12⟩ := h10 q d hq
              exact ⟨v, h11, h12.mono hf hE (fun _ _ x => x)⟩
        · cases hs
      · cases hs
    · rename_i sz' bt cs hb
      split at hs
      · rename_i hc
        obtain ⟨rfl, hle, hfit⟩ := hc
        cases hs
        simp only [RA] at hx
        obtain ⟨k, h2, rfl⟩ := hx
        obtain ⟨hsz, hbt, hb47, h3 | ⟨k', Cs, T, h3, h4, h5, h6⟩⟩ := h.box b _ hb
        · rw [h2] at h3
          cases h3.1
        · rw [h2] at h3
          cases h3
          have hrun := run_storeCells_at P k (i * sz + j) T vs 0 Cs w h4 (by simp; omega) h1
          refine ⟨k, i * sz + j, _, rfl, hrun, ?_⟩
          simp only [Nat.add_zero]
          refine h.setBox hb (fun cs' e => by cases e) h2 h4 (by simp; omega) fun hf => ?_
          have hol := over_len cs (i * sz + j) ys (by omega)
          refine ⟨hsz, hbt, by rw [hol]; exact hb47, .inr ⟨k, _, T, h2, setRow_heap w k Cs _ T (0, 0) h4, by rw [hol]; simp; omega, ?_⟩⟩
          have h7 := h6.over (i * sz + j) hy
          rw [hol]
          have e8 : (List.take (i * sz + j) Cs.toList ++ vs ++ List.drop (i * sz + j + vs.length) Cs.toList).toArray.toList.take cs.length = over (Cs.toList.take cs.length) (i * sz + j) vs := by
            have := over_take Cs.toList (i * sz + j) cs.length vs (by omega) (by simpa using h5)
            simpa [over] using this
          rw [e8]
          exact RAs.mono hf (fun i _ e => e ▸ h.mIn b k h2) (fun _ _ x => x) _ _ h7
      · cases hs
    · cases hs
  · cases hs
end
end Go.Proofs.YtfbegbpipmgfiaaDoor.Lift
end
section
/- The lift, sixth part: the step of an operation that calls nobody. No conditions: words and their laws. -/
set_option linter.unusedVariables false
set_option linter.unusedSimpArgs false
namespace Go.Proofs.YtfbegbpipmgfiaaDoor.Lift
open Go Go.RowKit

section
variable {P : Program}

def evm (env : Nat → Option AV) : Option Operand → Option (Option AV)
  | none => some none
  | some o => (evo env o).map some
theorem evm_sound {M : Nat → Prop} {m : Nat → Pl} {a : Act} {w : World} {e : Nat → Option AV} (h : Kn M m w a e) {o : Option Operand} {r : Option AV} (he : evm e o = some r) :
    (r = none ∧ o.map a.eval = none) ∨ ∃ y v, r = some y ∧ o.map a.eval = some v ∧ RA M m w y v := by
  cases o with
  | none =>
    simp only [evm, Option.some.injEq] at he
    exact .inl ⟨he.symm, rfl⟩
  | some o =>
    simp only [evm] at he
    cases hx : evo e o with
    | none => simp [hx] at he
    | some x =>
      simp only [hx, Option.map_some, Option.some.injEq] at he
      exact .inr ⟨x, _, he.symm, rfl, evo_sound h hx⟩

def mmV (mx : Bool) : AV → AV → Option AV
  | .d (.v (.int k x)), .d (.v (.int _ y)) => some (.d (.v (.int k (if mx then (if y > x then y else x) else (if y < x then y else x)))))
  | _, _ => none

def mxI (x y : Int) : Int := if y > x then y else x
def mm4 : List AV → Option AV
  | [.d (.v (.int k x)), .d (.v (.int _ y)), .d (.v (.int _ z)), .d (.v (.int _ u))] => some (.d (.v (.int k (mxI (mxI (mxI x y) z) u))))
  | _ => none

/-- One of two: what is only known where it is picked, too. -/
def pickV (t : Bool) : AV → AV → Option AV
  | .d (.v (.bool p)), .d (.v (.bool q)) => some (.d (.v (.bool (bif t then p else q))))
  | .opt g (.d (.v (.bool p))), .d (.v (.bool q)) => if (!t || g) = true then some (.d (.v (.bool (bif t then p else q)))) else none
  | .d (.v (.bool p)), .opt g (.d (.v (.bool q))) => if (t || g) = true then some (.d (.v (.bool (bif t then p else q)))) else none
  | _, _ => none

/-- math.Float64bits, math.Float64frombits. -/
def bitsFn (P : Program) (f : FuncId) : Option Bool :=
  match P.funcs[f]? with
  | some fn => if fn.origin = "" ∧ fn.body.isNone = true then (if fn.name = "math.Float64bits" then some true else if fn.name = "math.Float64frombits" then some false else none) else none
  | none => none
theorem find_bits (fn : Func) (h : fn.name = "math.Float64bits") (ho : fn.origin = "") : Extern.findNext fn = none ∧ Extern.find fn = some Extern.MathFloatBits.float64bits := by
  have h1 : Extern.allNextRows.lookup "math.Float64bits" = none := by kernel_rfl
  have h2 : Extern.allNextRows.lookup "" = none := by kernel_rfl
  have h3 : Extern.allGenericRows.lookup "math.Float64bits" = none := by kernel_rfl
  have h4 : Extern.allTypedRows.lookup "math.Float64bits" = none := by kernel_rfl
  have h5 : Extern.allRows.lookup "math.Float64bits" = some Extern.MathFloatBits.float64bits := by kernel_rfl
  constructor
  · simp only [Extern.findNext, h, ho, h1, h2, Option.map_none]
    rfl
  · simp only [Extern.find, h, h3, h4, h5, Option.map_none]
    rfl
theorem find_from (fn : Func) (h : fn.name = "math.Float64frombits") (ho : fn.origin = "") : Extern.findNext fn = none ∧ Extern.find fn = some Extern.MathFloatBits.float64frombits := by
  have h1 : Extern.allNextRows.lookup "math.Float64frombits" = none := by kernel_rfl
  have h2 : Extern.allNextRows.lookup "" = none := by kernel_rfl
  have h3 : Extern.allGenericRows.lookup "math.Float64frombits" = none := by kernel_rfl
  have h4 : Extern.allTypedRows.lookup "math.Float64frombits" = none := by kernel_rfl
  have h5 : Extern.allRows.lookup "math.Float64frombits" = some Extern.MathFloatBits.float64frombits := by kernel_rfl
  constructor
  · simp only [Extern.findNext, h, ho, h1, h2, Option.map_none]
    rfl
  · simp only [Extern.find, h, h3, h4, h5, Option.map_none]
    rfl
def bitsV : Bool → AV → Option AV
  | true, .d (.v (.float .f64 n)) => some (.d (.v (.int .u64 n)))
  | false, .d (.v (.int .u64 n)) => some (.d (.v (.float .f64 n.toNat)))
  | _, _ => none

theorem bitsV_true {p y : AV} (h : bitsV true p = some y) : ∃ n, p = .d (.v (.float .f64 n)) ∧ y = .d (.v (.int .u64 n)) := by
  unfold bitsV at h
  split at h
  · cases h
    exact ⟨_, rfl, rfl⟩
  · contradiction
  · cases h
theorem bitsV_false {p y : AV} (h : bitsV false p = some y) : ∃ n, p = .d (.v (.int .u64 n)) ∧ y = .d (.v (.float .f64 n.toNat)) := by
  unfold bitsV at h
  split at h
  · contradiction
  · cases h
    exact ⟨_, rfl, rfl⟩
  · cases h

theorem bytes_beq (a b : ByteArray) : (a == b) = decide (a = b) := by
  show ByteArray.beq a b = _
  unfold ByteArray.beq
  by_cases h : a = b
  · subst h
    simp
  · have : a.data ≠ b.data := fun e => h (by cases a; cases b; simp_all)
    simp [h, this]
/-- Keys: plain values, and aggregates of them. -/
def skq : Value → Value → Bool
  | .string a, .string b => a == b
  | .int k a, .int k' b => k == k' && a == b
  | .bool a, .bool b => a == b
  | _, _ => false
def skqs : List Value → List Value → Bool
  | [], [] => true
  | a :: l, b :: l' => skq a b && skqs l l'
  | _, _ => false
def keq : Value → Value → Bool
  | .agg a, .agg b => skqs a.toList b.toList
  | a, b => skq a b
def spl : Value → Bool
  | .string _ | .int _ _ | .bool _ => true
  | _ => false
def plK : Value → Bool
  | .agg us => us.toList.all spl
  | v => spl v
theorem skq_iff {a b : Value} (h : spl a = true) : skq a b = true ↔ a = b := by
  cases a <;> simp [spl] at h <;> cases b <;> simp [skq, bytes_beq]
theorem skqs_iff : ∀ {a b : List Value}, a.all spl = true → (skqs a b = true ↔ a = b)
  | [], [], _ => by simp [skqs]
  | [], _ :: _, _ => by simp [skqs]
  | _ :: _, [], _ => by simp [skqs]
  | x :: l, y :: l', h => by
    simp only [List.all_cons, Bool.and_eq_true] at h
    simp only [skqs, Bool.and_eq_true, skq_iff h.1, skqs_iff h.2, List.cons.injEq]
theorem keq_iff {a b : Value} (h : plK a = true) : keq a b = true ↔ a = b := by
  unfold keq
  split
  · rename_i x y
    rw [skqs_iff (by simpa [plK] using h)]
    constructor
    · intro e
      rw [show x = y from by cases x; cases y; simp_all]
    · intro e
      cases e
      rfl
  · rename_i hn
    by_cases ha : ∃ us, a = .agg us
    · obtain ⟨us, rfl⟩ := ha
      cases b <;> simp [skq] at hn ⊢
    · refine skq_iff ?_
      unfold plK at h
      split at h
      · exact (ha ⟨_, rfl⟩).elim
      · exact h
/-- A map. -/
def mget : List (Value × Value) → Value → Option Value
  | [], _ => none
  | (k, v) :: es, s => if keq s k then some v else mget es s
def mset : List (Value × Value) → Value → Value → List (Value × Value)
  | [], s, v => [(s, v)]
  | (k, u) :: es, s, v => if keq s k then (s, v) :: es else (k, u) :: mset es s v
/-- The zero of a map's element, where the elements are of one cell. -/
def smT (P : Program) (T : TypeId) : Option Value :=
  match P.underlying T with
  | some (.map _ et) => if (aggT P et == some false) then (match (P.info? et).map (·.zero) with | some (some z) => if z.oneCell' then some z else none | _ => none) else none
  | _ => none
/-- Types of keys that are covered. -/
def kdT (P : Program) (kt : TypeId) : Bool :=
  match P.underlying kt with
  | some .string | some (.int _) | some .bool => true
  | some (.struct _) => P.keyTypeAt 2 kt && P.tiled 2 kt
  | _ => false
theorem kdT_keyed {kt : TypeId} (h : kdT P kt = true) : Maps.Keyed P kt := by
  unfold kdT at h
  split at h
  · rename_i hu
    exact Maps.Keyed.of_law (WideMaps.string_law hu)
  · rename_i hu
    exact Maps.int_keyed hu
  · rename_i hu
    exact Maps.bool_keyed hu
  · rename_i hu
    simp only [Bool.and_eq_true] at h
    exact Maps.Keyed.of_law (deep_law (m := 2) (by omega) h.1 h.2 (by rw [hu]))
  · cases h
/-- A value that may be a key of a map. -/
def keyB (P : Program) (T : TypeId) (v : Value) : Bool :=
  match P.underlying T with
  | some (.map kt _) => kdT P kt && plK v && (keyOf P kt v).isSome
  | _ => false
theorem keyB_str {T kt et : TypeId} (hu : P.underlying T = some (.map kt et)) (hk : P.underlying kt = some .string) {s : ByteArray} (hs : s.size ≤ 140737488355328) : keyB P T (.string s) = true := by
  have h1 := WideMaps.keyOf_string_mk hk (s := s) (by unfold maxLen; omega)
  simp [keyB, hu, kdT, hk, plK, spl, h1]
def avK : AV → Option Value
  | .d (.v x) => some x
  | .agg l => (avKs l).map fun us => .agg us.toArray
  | _ => none
where avKs : List AV → Option (List Value)
  | [] => some []
  | .d (.v x) :: l => (avKs l).map (x :: ·)
  | _ => none

def opR (P : Program) (e : Nat → Option AV) (bs : List Box) : Op → Option (AV × List Box)
  | .move x | .assign x => (evo e x).map (·, bs)
  | .pick c x y => match evo e c, evo e x, evo e y with | some (.d (.v (.bool t))), some x, some y => (pickV t x y).map (·, bs) | _, _, _ => none
  | .build T parts => ((evs e parts.toList).bind (bdV P T)).map (·, bs)
  | .load T x => (((evo e x).bind (ldAt bs)).bind (ldV P T)).map (·, bs)
  | .nilCheck x => ((evo e x).bind nilV).map (·, bs)
  | .binOp op T x y _ => match evo e x, evo e y with | some (.d (.v u)), some (.d (.v v)) => (scal2 P op T u v).map fun r => (.d (.v r), bs) | _, _ => none
  | .unOp op _ x => match evo e x with | some (.d (.v u)) => (unV op u).map fun r => (.d (.v r), bs) | _ => none
  | .convert s d x => match evo e x with | some (.d (.v u)) => (cvV P s d u).map fun r => (.d (.v r), bs) | _ => none
  | .makeInterface T x => match evo e x with | some (.d (.v u)) => if P.concrete T then some (.d (.v (.iface T u)), bs) else none | _ => none
  | .makeFunc (.func f) first caps => if first.size = 0 then (evl e caps.toList).map fun l => (.fn f l, bs) else none
  | .slice T x lo hi mx => match evo e x, evm e lo, evm e hi, evm e mx with | some x, some l, some h, some m => (slV P T x l h m).map (·, bs) | _, _, _, _ => none
  | .fieldAddr T x i => ((evo e x).bind (faV P T i)).map (·, bs)
  | .field T x i => ((evo e x).bind (fdV P T i)).map (·, bs)
  | .indexAddr T x i => match evo e x, evo e i with | some x, some i => (ixV P T x i).map (·, bs) | _, _ => none
  | .index T x i => match evo e x, evo e i with | some x, some i => (ibV P T x i).map (·, bs) | _, _ => none
  | .extract x i => match evo e x with | some (.tup l) => (l[i]?).map (·, bs) | _ => none
  | .typeAssert x _ T ok => match ok, evo e x with | false, some (.d (.v (.iface t u))) => if t = T ∧ P.concrete T = true ∧ u.oneCell' = true then some (.d (.v u), bs) else none | _, _ => none
  | .call ⟨.builtin .len, args, ts⟩ => match args.toList, ts.toList with | [o], T :: _ => ((evo e o).bind (lenV P T)).map (·, bs) | _, _ => none
  | .call ⟨.builtin .max, args, _⟩ => match args.toList with | [o, o'] => (match evo e o, evo e o' with | some x, some y => (mmV true x y).map (·, bs) | _, _ => none) | [o, o', p, p'] => ((evl e [o, o', p, p']).bind mm4).map (·, bs) | _ => none
  | .call ⟨.builtin .min, args, _⟩ => match args.toList with | [o, o'] => (match evo e o, evo e o' with | some x, some y => (mmV false x y).map (·, bs) | _, _ => none) | _ => none
  | .call ⟨.value (.func f), args, _⟩ => match bitsFn P f, args.toList with | some k, [o] => ((evo e o).bind (bitsV k)).map (·, bs) | _, _ => none
  | .alloc T => (zrT P T).bind fun z => if z.all (·.oneCell') then some (.ptr bs.length 0, bs ++ [.var (z.map cst1)]) else none
  | .box _ x => (evo e x).bind fun x => if x.cells.all AV.one then some (.ptr bs.length 0, bs ++ [.var x.cells]) else none
  | .buildSlice T len parts => ((evs e parts.toList).bind (bsV P T len)).bind fun | .vec sz bt l => some (.sl bs.length sz 0 len, bs ++ [.vec sz bt l]) | _ => none
  | .makeMap _ none => some (.mref bs.length, bs ++ [.mp []])
  | .lookup T x i false => match smT P T, evo e x, (evo e i).bind avK with
    | some z, some (.mref b), some s => (match bs[b]? with | some (.mp es) => if keyB P T s && es.all (fun p => keyB P T p.1) then some (.d (.v ((mget es s).getD z)), bs) else none | _ => none)
    | _, _, _ => none
  | .mapUpdate T x i y => match smT P T, evo e x, (evo e i).bind avK, evo e y with
    | some _, some (.mref b), some s, some (.d (.v u)) => (match bs[b]? with | some (.mp es) => if keyB P T s && es.all (fun p => keyB P T p.1) then some (.junk, bs.set b (.mp (mset es s u))) else none | _ => none)
    | _, _, _, _ => none
  | .insert T x i y => match smT P T, evo e x, (evo e i).bind avK, evo e y with
    | some _, some (.mref b), some s, some (.d (.v u)) => (match bs[b]? with | some (.mp es) => if keyB P T s && es.all (fun p => keyB P T p.1) then some (.junk, bs.set b (.mp (mset es s u))) else none | _ => none)
    | _, _, _, _ => none
  | .store T p x => match evo e p, evo e x with | some p, some x => if x.cells.all AV.one ∧ szT P T = some x.cells.length then (stAt bs p x.cells).map (.junk, ·) else none | _, _ => none
  | _ => none

theorem scal2_one {op : BinOp} {T : TypeId} {x y v : Value} (h : scal2 P op T x y = some v) : v.oneCell' = true := by
  unfold scal2 at h
  split at h
  · split at h
    · unfold shop at h
      split at h
      · cases h
      · cases h
        rfl
    · unfold shop at h
      split at h
      · cases h
      · cases h
        rfl
    · split at h
      · unfold iop at h
        split at h <;> (try split at h) <;> first
          | (cases h; done)
          | (cases h; rfl)
      · cases h
  · unfold sop at h
    split at h <;> (try split at h) <;> first
      | (cases h; done)
      | (cases h; rfl)
  · split at h
    · unfold fop at h
      split at h <;> first
        | (cases h; done)
        | (cases h; rfl)
    · cases h
  · split at h
    · split at h <;> first
        | (cases h; done)
        | (cases h; rfl)
    · cases h
  · cases h
theorem unV_one {op : UnOp} {x v : Value} (h : unV op x = some v) : v.oneCell' = true := by
  unfold unV at h
  split at h <;> (try split at h) <;> first
    | (cases h; done)
    | (cases h; rfl)
theorem cvV_one {s d : TypeId} {x v : Value} (h : cvV P s d x = some v) : v.oneCell' = true := by
  unfold cvV at h
  split at h <;> (try split at h) <;> (try split at h) <;> first
    | (cases h; done)
    | (cases h; rfl)

/-- What a step comes to: a value, or nothing; the boxes. -/
def Sound (P : Program) (W0 : World) (E : En) (st : St) (a : Act) (w : World) (o : Oper) (x : AV) (bs' : List Box) : Prop :=
  ∃ M' m' w' nx v, (execOp a.eval o).run P w = .ok nx w' ∧ (nx = .value v ∧ RA M' m' w' x v ∨ nx = .skip ∧ x = .junk ∧ v = undef) ∧ C W0 E M' m' ⟨st.N, st.env, bs'⟩ a w'

/-- Operations that make or turn something. -/
def mkOp : Op → Bool
  | .alloc _ | .box .. | .buildSlice .. | .store .. | .makeMap .. | .mapUpdate .. | .insert .. => true
  | _ => false
def Sound2 (P : Program) (W0 : World) (E : En) (M : Nat → Prop) (m : Nat → Pl) (st : St) (a : Act) (w : World) (o : Oper) (x : AV) (bs' : List Box) : Prop :=
  (∃ v, (execOp a.eval o).run P w = .ok (.value v) w ∧ RA M m w x v ∧ bs' = st.bs) ∨ mkOp o.op = true ∧ Sound P W0 E st a w o x bs'

theorem sound_val {W0 : World} {E : En} {M : Nat → Prop} {m : Nat → Pl} {st : St} {a : Act} {w : World} (h : C W0 E M m st a w) {o : Oper} {x : AV} {v : Value} (hr : (execOp a.eval o).run P w = .ok (.value v) w) (hx : RA M m w x v) : Sound2 P W0 E M m st a w o x st.bs :=
  .inl ⟨v, hr, hx, rfl⟩

theorem RA.v_inv {M : Nat → Prop} {m : Nat → Pl} {w : World} {x u : Value} (h : RA M m w (.d (.v x)) u) : u = x ∧ x.oneCell' = true := by
  simp only [RA] at h
  cases h
  exact ⟨rfl, by assumption⟩
theorem RA.v_mk {M : Nat → Prop} {m : Nat → Pl} {w : World} {x : Value} (h : x.oneCell' = true) : RA M m w (.d (.v x)) x := by
  simp only [RA]
  exact .v _ h

theorem mget_one {es : List (Value × Value)} (h : ∀ p ∈ es, p.2.oneCell' = true) {s v : Value} (hv : mget es s = some v) : v.oneCell' = true := by
  induction es with
  | nil => simp [mget] at hv
  | cons p es ih =>
    obtain ⟨k, u⟩ := p
    simp only [mget] at hv
    split at hv
    · cases hv
      exact h (k, v) (by simp)
    · exact ih (fun p hp => h p (by simp [hp])) hv
theorem keq_no {s k : Value} (hs : plK s = true) (h : k ≠ s) : keq s k = false := by
  cases he : keq s k
  · rfl
  · exact (h ((keq_iff hs).1 he).symm).elim
theorem mget_none {s : Value} (hs : plK s = true) : ∀ {es : List (Value × Value)}, (∀ p ∈ es, p.1 ≠ s) → mget es s = none ∧ ∀ v, mset es s v = es ++ [(s, v)]
  | [], _ => ⟨rfl, fun _ => rfl⟩
  | (k, u) :: es, h => by
    have h1 := keq_no hs (h (k, u) (by simp))
    obtain ⟨h2, h3⟩ := mget_none hs fun p hp => h p (List.mem_cons_of_mem _ hp)
    refine ⟨by simp [mget, h1, h2], fun v => by simp [mset, h1, h3]⟩
theorem mget_at {s : Value} (hs : plK s = true) : ∀ {es : List (Value × Value)} {j : Nat} {v : Value}, es.Pairwise (fun p q => p.1 ≠ q.1) → es[j]? = some (s, v) → mget es s = some v ∧ ∀ u, mset es s u = es.set j (s, u)
  | [], j, v, _, h => by simp at h
  | (k, x) :: es, 0, v, _, h => by
    simp only [List.getElem?_cons_zero, Option.some.injEq, Prod.mk.injEq] at h
    obtain ⟨rfl, rfl⟩ := h
    have : keq k k = true := (keq_iff hs).2 rfl
    exact ⟨by simp [mget, this], fun u => by simp [mset, this]⟩
  | (k, x) :: es, j + 1, v, hp, h => by
    simp only [List.getElem?_cons_succ] at h
    obtain ⟨h1, h2⟩ := List.pairwise_cons.1 hp
    have hne : keq s k = false := keq_no hs (h1 _ (List.mem_of_getElem? h))
    obtain ⟨h3, h4⟩ := mget_at hs h2 h
    exact ⟨by simp [mget, hne, h3], fun u => by simp [mset, hne, h4]⟩
theorem pw_push {es : List (Value × Value)} {s u : Value} (h : es.Pairwise (fun p q => p.1 ≠ q.1)) (hn : ∀ p ∈ es, p.1 ≠ s) : (es ++ [(s, u)]).Pairwise (fun p q => p.1 ≠ q.1) := by
  rw [List.pairwise_append]
  refine ⟨h, by simp, fun p hp q hq => ?_⟩
  rw [List.mem_singleton] at hq
  subst hq
  exact hn p hp
theorem pw_set {s u : Value} : ∀ {es : List (Value × Value)} {j : Nat} {v : Value}, es.Pairwise (fun p q => p.1 ≠ q.1) → es[j]? = some (s, v) → (es.set j (s, u)).Pairwise (fun p q => p.1 ≠ q.1)
  | [], j, v, _, h => by simp at h
  | (k, x) :: es, 0, v, hp, h => by
    simp only [List.getElem?_cons_zero, Option.some.injEq, Prod.mk.injEq] at h
    obtain ⟨rfl, rfl⟩ := h
    rw [List.set_cons_zero, List.pairwise_cons] at *
    exact hp
  | (k, x) :: es, j + 1, v, hp, h => by
    simp only [List.getElem?_cons_succ] at h
    rw [List.set_cons_succ, List.pairwise_cons] at *
    refine ⟨fun q hq => ?_, pw_set hp.2 h⟩
    rcases List.mem_or_eq_of_mem_set hq with h1 | rfl
    · exact hp.1 q h1
    · exact hp.1 (s, v) (List.mem_of_getElem? h)
theorem avKs_sound {M : Nat → Prop} {m : Nat → Pl} {w : World} : ∀ {l : List AV} {us vs : List Value}, avK.avKs l = some us → RAs M m w l vs → vs = us
  | [], us, vs, h, hr => by
    cases h
    cases vs with
    | nil => rfl
    | cons => simp only [RAs] at hr
  | x :: l, us, vs, h, hr => by
    cases vs with
    | nil => simp only [RAs] at hr
    | cons v vs =>
      simp only [RAs] at hr
      unfold avK.avKs at h
      split at h
      · rename_i he
        cases he
      · rename_i y l' he
        cases he
        simp only [Option.map_eq_some_iff] at h
        obtain ⟨us', h1, rfl⟩ := h
        rw [hr.1.v_inv.1, avKs_sound h1 hr.2]
      · cases h
theorem avK_sound {M : Nat → Prop} {m : Nat → Pl} {w : World} {x : AV} {u v : Value} (h : avK x = some u) (hr : RA M m w x v) : v = u := by
  unfold avK at h
  split at h
  · cases h
    exact hr.v_inv.1
  · simp only [Option.map_eq_some_iff] at h
    obtain ⟨us, h1, rfl⟩ := h
    simp only [RA] at hr
    obtain ⟨vs, rfl, h2⟩ := hr
    rw [← avKs_sound h1 h2]
  · cases h
/-- What a map's block answers. -/
theorem find_key {kt : TypeId} {w : World} {F : Array MapEntry} {es : List (Value × Value)} {s : Value} (hk : kdT P kt = true) (hs : plK s = true) (hl : (keyOf P kt s).isSome = true) (hF : F.toList.map (fun e => (e.key, e.val)) = es) (ha : ∀ p ∈ es, (keyOf P kt p.1).isSome = true) (hp : es.Pairwise (fun p q => p.1 ≠ q.1)) :
    (∀ b, (Instr.checkKey b 10000 kt s).run P w = .ok () w) ∧ (((Instr.findKey kt s F.toList).run P w = .ok none w ∧ mget es s = none ∧ (∀ v, mset es s v = es ++ [(s, v)]) ∧ ∀ p ∈ es, p.1 ≠ s) ∨
      ∃ j old, (Instr.findKey kt s F.toList).run P w = .ok (some (j, old.val)) w ∧ F[j]? = some old ∧ old.key = s ∧ es[j]? = some (s, old.val) ∧ mget es s = some old.val ∧ (∀ u, mset es s u = es.set j (s, u)) ∧ (Instr.keyThatStays s s : Sem Value).run P w = .ok s w) := by
  have K := kdT_keyed hk
  obtain ⟨lx, hlx⟩ := Option.isSome_iff_exists.1 hl
  refine ⟨fun b => K.check w b hlx, ?_⟩
  have hes : ∀ e ∈ F.toList, ∃ l, keyOf P kt e.key = some l := fun e he => Option.isSome_iff_exists.1 (ha (e.key, e.val) (by rw [← hF]; exact List.mem_map.2 ⟨e, he, rfl⟩))
  rcases K.find w hlx F.toList hes with ⟨h1, h2⟩ | ⟨j, e, h1, h2, h3⟩
  · have hno : ∀ p ∈ es, p.1 ≠ s := by
      intro p hp'
      rw [← hF] at hp'
      obtain ⟨e, he, rfl⟩ := List.mem_map.1 hp'
      exact h2 e he
    obtain ⟨h4, h5⟩ := mget_none hs hno
    exact .inl ⟨h1, h4, h5, hno⟩
  · have h4 : es[j]? = some (s, e.val) := by rw [← hF, List.getElem?_map, h2, ← h3]; rfl
    obtain ⟨h5, h6⟩ := mget_at hs hp h4
    exact .inr ⟨j, e, h1, by simpa using h2, h3, h4, h5, h6, K.stays w hlx⟩

set_option maxHeartbeats 1000000 in
theorem opR_sound2 {W0 : World} {E : En} {M : Nat → Prop} {m : Nat → Pl} {st : St} {a : Act} {w : World} (h : C W0 E M m st a w) {e : Nat → Option AV} (he : Kn M m w a e) {o : Oper} {x : AV} {bs' : List Box} (ho : opR P e st.bs o.op = some (x, bs')) : Sound2 P W0 E M m st a w o x bs' := by
  obtain ⟨dst, op, ty, pos, af, gd⟩ := o
  simp only at ho
  cases op with
  | move y =>
    simp only [opR, Option.map_eq_some_iff, Prod.mk.injEq] at ho
    obtain ⟨y', h1, rfl, rfl⟩ := ho
    exact sound_val h (v := a.eval y) rfl (evo_sound he h1)
  | assign y =>
    simp only [opR, Option.map_eq_some_iff, Prod.mk.injEq] at ho
    obtain ⟨y', h1, rfl, rfl⟩ := ho
    exact sound_val h (v := a.eval y) rfl (evo_sound he h1)
  | pick c y z =>
    simp only [opR] at ho
    split at ho
    · rename_i t y' z' hc h1 h2
      simp only [Option.map_eq_some_iff, Prod.mk.injEq] at ho
      obtain ⟨r, h3, rfl, rfl⟩ := ho
      have hcv := (evo_sound he hc).v_inv.1
      have hy := evo_sound he h1
      have hz := evo_sound he h2
      have hrun : (execOp a.eval ⟨dst, .pick c y z, ty, pos, af, gd⟩).run P w = .ok (.value (if t then a.eval y else a.eval z)) w := by simp [execOp, hcv, asBool]
      refine sound_val h hrun ?_
      unfold pickV at h3
      split at h3
      · cases h3
        rw [hy.v_inv.1, hz.v_inv.1]
        cases t <;> exact RA.v_mk rfl
      · split at h3
        · cases h3
          rename_i hg
          simp only [RA] at hy
          rw [hz.v_inv.1]
          cases t with
          | false => exact RA.v_mk rfl
          | true =>
            have h5 := RA.v_inv (M := M) (m := m) (w := w) (x := .bool _) (by simp only [RA]; exact hy.1 (by simpa using hg))
            simp only [if_true, h5.1]
            exact RA.v_mk rfl
        · cases h3
      · split at h3
        · cases h3
          rename_i hg
          simp only [RA] at hz
          rw [hy.v_inv.1]
          cases t with
          | true => exact RA.v_mk rfl
          | false =>
            have h5 := RA.v_inv (M := M) (m := m) (w := w) (x := .bool _) (by simp only [RA]; exact hz.1 (by simpa using hg))
            simp only [Bool.false_eq_true, if_false, h5.1]
            exact RA.v_mk rfl
        · cases h3
      · cases h3
    · cases ho
  | build T parts =>
    simp only [opR, Option.map_eq_some_iff, Prod.mk.injEq, Option.bind_eq_some_iff] at ho
    obtain ⟨y', ⟨r, h1, h2⟩, rfl, rfl⟩ := ho
    obtain ⟨h3, h4⟩ := evs_sound he h1
    obtain ⟨u, h5, h6⟩ := bdV_sound (ps := parts.map fun (i, x) => (i, a.eval x)) (by simp [h3]) (by simpa using h4) h2
    exact sound_val h (by simp only [execOp, Sem.run_bind, h5, Result.andThen_ok, Sem.run_pure]) h6
  | load T y =>
    simp only [opR, Option.map_eq_some_iff, Prod.mk.injEq, Option.bind_eq_some_iff] at ho
    obtain ⟨y', ⟨r, ⟨p, h1, h2⟩, h3⟩, rfl, rfl⟩ := ho
    obtain ⟨g, o, h4, h5⟩ := ldAt_sound h (evo_sound he h1) h2
    obtain ⟨u, h6, h7⟩ := ldV_sound h5 h3
    exact sound_val h (by simp only [execOp, Instr.loadAt, h4, Instr.sureAddr, Sem.run_bind, Sem.run_pure, h6, Result.andThen_ok]) h7
  | nilCheck y =>
    simp only [opR, Option.map_eq_some_iff, Prod.mk.injEq, Option.bind_eq_some_iff] at ho
    obtain ⟨y', ⟨p, h1, h2⟩, rfl, rfl⟩ := ho
    have h3 := evo_sound he h1
    unfold nilV at h2
    split at h2
    · cases h2
      have h3' := h3
      simp only [RA] at h3
      obtain ⟨k, _, h4⟩ := h3
      exact sound_val h (v := a.eval y) (by simp only [execOp, h4, Sem.run_pure]) h3'
    · cases h2
      have h3' := h3
      simp only [RA] at h3
      obtain ⟨k, _, h4⟩ := h3
      exact sound_val h (v := a.eval y) (by simp only [execOp, h4, Sem.run_pure]) h3'
    · cases h2
      have h3' := h3
      simp only [RA] at h3
      obtain ⟨g, o, h4, _⟩ := h3
      exact sound_val h (v := a.eval y) (by simp only [execOp, h4, Sem.run_pure]) h3'
    · cases h2
      have h3' := h3
      simp only [RA] at h3
      obtain ⟨us, h4, _⟩ := h3
      exact sound_val h (v := a.eval y) (by simp only [execOp, h4, Sem.run_pure]) h3'
    · cases h2
  | binOp op T y z yT =>
    simp only [opR] at ho
    split at ho
    · rename_i u v h1 h2
      simp only [Option.map_eq_some_iff, Prod.mk.injEq] at ho
      obtain ⟨r, h3, rfl, rfl⟩ := ho
      have e1 := (evo_sound he h1).v_inv.1
      have e2 := (evo_sound he h2).v_inv.1
      exact sound_val h (by simp only [execOp, e1, e2, Sem.run_bind, eqGuard_scal h3, Sem.run_pure, Result.andThen_ok, scal2_sound h3]) (RA.v_mk (scal2_one h3))
    · cases ho
  | unOp op T y =>
    simp only [opR] at ho
    split at ho
    · rename_i u h1
      simp only [Option.map_eq_some_iff, Prod.mk.injEq] at ho
      obtain ⟨r, h3, rfl, rfl⟩ := ho
      have e1 := (evo_sound he h1).v_inv.1
      exact sound_val h (by simp only [execOp, e1, Sem.run_bind, unV_sound h3, Result.andThen_ok, Sem.run_pure]) (RA.v_mk (unV_one h3))
    · cases ho
  | convert s d y =>
    simp only [opR] at ho
    split at ho
    · rename_i u h1
      simp only [Option.map_eq_some_iff, Prod.mk.injEq] at ho
      obtain ⟨r, h3, rfl, rfl⟩ := ho
      have e1 := (evo_sound he h1).v_inv.1
      exact sound_val h (by simp only [execOp, e1, Sem.run_bind, cvV_sound h3, Result.andThen_ok, Sem.run_pure]) (RA.v_mk (cvV_one h3))
    · cases ho
  | makeInterface T y =>
    simp only [opR] at ho
    split at ho
    · rename_i u h1
      split at ho
      · rename_i hc
        simp only [Option.some.injEq, Prod.mk.injEq] at ho
        obtain ⟨rfl, rfl⟩ := ho
        have e1 := (evo_sound he h1).v_inv.1
        exact sound_val h (by simp only [execOp, e1, Sem.run_bind, run_makeInterface w T _ hc, Result.andThen_ok, Sem.run_pure]) (RA.v_mk rfl)
      · cases ho
    · cases ho
  | makeFunc fn first caps =>
    cases fn with
    | func f =>
      simp only [opR] at ho
      split at ho
      · rename_i hf
        simp only [Option.map_eq_some_iff, Prod.mk.injEq] at ho
        obtain ⟨l, h1, rfl, rfl⟩ := ho
        have h2 := evl_sound he h1
        have hf' : first = #[] := Array.eq_empty_of_size_eq_zero hf
        exact sound_val h (v := .func (.func f) #[] (caps.map a.eval)) (by simp [execOp, Instr.makeFunc, hf']) (by simp only [RA]; exact ⟨_, rfl, by simpa using h2⟩)
      · cases ho
    | _ => simp [opR] at ho
  | slice T y lo hi mx =>
    simp only [opR] at ho
    split at ho
    · rename_i y' l hh mm h1 h2 h3 h4
      simp only [Option.map_eq_some_iff, Prod.mk.injEq] at ho
      obtain ⟨r, h5, rfl, rfl⟩ := ho
      obtain ⟨v, h6, h7⟩ := slV_sound (evo_sound he h1) (evm_sound he h2) (evm_sound he h3) (evm_sound he h4) h5
      exact sound_val h (by simp only [execOp, Sem.run_bind, h6, Result.andThen_ok, Sem.run_pure]) h7
    · cases ho
  | fieldAddr T y i =>
    simp only [opR, Option.map_eq_some_iff, Prod.mk.injEq, Option.bind_eq_some_iff] at ho
    obtain ⟨y', ⟨p, h1, h2⟩, rfl, rfl⟩ := ho
    obtain ⟨v, h6, h7⟩ := faV_sound (evo_sound he h1) h2
    exact sound_val h (by simp only [execOp, Sem.run_bind, h6, Result.andThen_ok, Sem.run_pure]) h7
  | field T y i =>
    simp only [opR, Option.map_eq_some_iff, Prod.mk.injEq, Option.bind_eq_some_iff] at ho
    obtain ⟨y', ⟨p, h1, h2⟩, rfl, rfl⟩ := ho
    obtain ⟨v, h6, h7⟩ := fdV_sound (evo_sound he h1) h2
    exact sound_val h (by simp only [execOp, Sem.run_bind, h6, Result.andThen_ok, Sem.run_pure]) h7
  | indexAddr T y i =>
    simp only [opR] at ho
    split at ho
    · rename_i y' i' h1 h2
      simp only [Option.map_eq_some_iff, Prod.mk.injEq] at ho
      obtain ⟨r, h5, rfl, rfl⟩ := ho
      obtain ⟨v, h6, h7⟩ := ixV_sound (evo_sound he h1) (evo_sound he h2) h5
      exact sound_val h (by simp only [execOp, Sem.run_bind, h6, Result.andThen_ok, Sem.run_pure]) h7
    · cases ho
  | index T y i =>
    simp only [opR] at ho
    split at ho
    · rename_i y' i' h1 h2
      simp only [Option.map_eq_some_iff, Prod.mk.injEq] at ho
      obtain ⟨r, h5, rfl, rfl⟩ := ho
      obtain ⟨v, h6, h7⟩ := ibV_sound (evo_sound he h1) (evo_sound he h2) h5
      exact sound_val h (by simp only [execOp, Sem.run_bind, h6, Result.andThen_ok, Sem.run_pure]) h7
    · cases ho
  | extract y i =>
    simp only [opR] at ho
    split at ho
    · rename_i l h1
      simp only [Option.map_eq_some_iff, Prod.mk.injEq] at ho
      obtain ⟨r, h5, rfl, rfl⟩ := ho
      have h2 := evo_sound he h1
      simp only [RA] at h2
      obtain ⟨us, h3, h4⟩ := h2
      obtain ⟨v, h6, h7⟩ := h4.get h5
      have h6' : us[i]? = some v := by simpa using h6
      exact sound_val h (v := v) (by simp [execOp, h3, Instr.extract, h6']) h7
    · cases ho
  | typeAssert y yT T ok =>
    simp only [opR] at ho
    split at ho
    · rename_i t u h1
      split at ho
      · rename_i hc
        obtain ⟨rfl, hc1, hc2⟩ := hc
        simp only [Option.some.injEq, Prod.mk.injEq] at ho
        obtain ⟨rfl, rfl⟩ := ho
        have e1 := (evo_sound he h1).v_inv.1
        refine sound_val h (v := u) ?_ (RA.v_mk hc2)
        unfold Program.concrete at hc1
        cases hd : P.underlying t with
        | none => simp [hd] at hc1
        | some d => cases d <;> first | (simp [hd] at hc1; done) | simp [execOp, e1, Instr.typeAssert, run_underlying hd]
      · cases ho
    · cases ho
  | alloc T =>
    simp only [opR, Option.bind_eq_some_iff] at ho
    obtain ⟨z, h1, h2⟩ := ho
    split at h2
    · rename_i hz
      simp only [Option.some.injEq, Prod.mk.injEq] at h2
      obtain ⟨rfl, rfl⟩ := h2
      unfold zrT at h1
      cases hi : P.info? T with
      | none => simp [hi] at h1
      | some it =>
        simp only [hi, Option.bind_some] at h1
        cases hzr : it.zero with
        | none => simp [hzr] at h1
        | some zv =>
          simp only [hzr, Option.map_some, Option.some.injEq] at h1
          subst h1
          have hrun : (execOp a.eval ⟨dst, .alloc T, ty, pos, af, gd⟩).run P w = .ok (.value (.pointer (some ⟨w.heap.size, 0, none⟩))) (w.alloc (.cells zv.cells T)) := by
            simp [execOp, Instr.alloc, zeroValue, typeInfo, hi, hzr, newVar, newRow]
          refine .inr ⟨rfl, _, _, _, _, _, hrun, .inl ⟨rfl, ?_⟩, h.alloc (.cells zv.cells T) _ ⟨w.heap.size, zv.cells, T, by simp [mAdd], heap_alloc_new w _, RAs.cst1 hz⟩⟩
          simp only [RA]
          exact ⟨w.heap.size, by simp [mAdd], rfl⟩
    · cases h2
  | box T y =>
    simp only [opR, Option.bind_eq_some_iff] at ho
    obtain ⟨z, h1, h2⟩ := ho
    split at h2
    · rename_i hz
      simp only [Option.some.injEq, Prod.mk.injEq] at h2
      obtain ⟨rfl, rfl⟩ := h2
      have h3 := (RA.cells hz (evo_sound he h1)).1
      have hrun : (execOp a.eval ⟨dst, .box T y, ty, pos, af, gd⟩).run P w = .ok (.value (.pointer (some ⟨w.heap.size, 0, none⟩))) (w.alloc (.cells (a.eval y).cells T)) := by
        simp [execOp, Instr.box, newVar, newRow]
      refine .inr ⟨rfl, _, _, _, _, _, hrun, .inl ⟨rfl, ?_⟩, h.alloc (.cells _ T) _ ⟨w.heap.size, _, T, by simp [mAdd], heap_alloc_new w _, ?_⟩⟩
      · simp only [RA]
        exact ⟨w.heap.size, by simp [mAdd], rfl⟩
      · have h4 := RAs.mono (E := fun _ => False) (Fr.alloc w (.cells (a.eval y).cells T)) (fun _ _ x => x.elim) (M' := fun k => M k ∨ k = w.heap.size) (fun k hk hx => hx.resolve_right (by omega)) _ _ h3
        exact h4.grow fun b hb => by
          unfold mAdd
          rw [if_neg]
          intro e
          exact hb (h.mNo b (by omega))
    · cases h2
  | buildSlice T len parts =>
    simp only [opR, Option.bind_eq_some_iff] at ho
    obtain ⟨bx, ⟨r, h1, h2⟩, h3⟩ := ho
    obtain ⟨h4, h5⟩ := evs_sound he h1
    obtain ⟨Cs, e, sz, bt, ds, hrun, rfl, g1, g2, g3, g4, g5⟩ := bsV_sound (w := w) (ps := parts.map fun (i, x) => (i, a.eval x)) (by simp [h4]) (by simpa using h5) h2
    simp only [Option.some.injEq, Prod.mk.injEq] at h3
    obtain ⟨rfl, rfl⟩ := h3
    refine .inr ⟨rfl, _, _, _, _, _, by simp only [execOp, Sem.run_bind, hrun, Result.andThen_ok, Sem.run_pure]; rfl, .inl ⟨rfl, ?_⟩, h.alloc (.cells Cs e) _ ⟨g1, g2, by rw [chunk_len]; exact g3, .inr ⟨w.heap.size, Cs, e, by simp [mAdd], heap_alloc_new w _, by rw [chunk_len]; omega, ?_⟩⟩⟩
    · simp only [RA]
      exact .inr ⟨w.heap.size, len, Cs, e, by simp [mAdd], by simp, Nat.le_refl _, heap_alloc_new w _, by simp; omega⟩
    · have g6 := RAs.mono (E := fun _ => False) (Fr.alloc w (.cells Cs e)) (fun _ _ x => x.elim) (M' := fun k => M k ∨ k = w.heap.size) (fun k hk hx => hx.resolve_right (by omega)) _ _ g5
      exact vec_ofDs g4 g6
  | makeMap T r =>
    cases r with
    | some r => simp [opR] at ho
    | none =>
      simp only [opR, Option.some.injEq, Prod.mk.injEq] at ho
      obtain ⟨rfl, rfl⟩ := ho
      have hrun : (execOp a.eval ⟨dst, .makeMap T none, ty, pos, af, gd⟩).run P w = .ok (.value (.map (some w.heap.size))) (w.alloc (.map #[] 0)) := by
        simp [execOp, Instr.makeMap]
      refine .inr ⟨rfl, _, _, _, _, _, hrun, .inl ⟨rfl, ?_⟩, h.alloc (.map #[] 0) _ ⟨w.heap.size, #[], 0, by simp [mAdd], heap_alloc_new w _, rfl, by simp, List.Pairwise.nil⟩⟩
      simp only [RA]
      exact ⟨w.heap.size, by simp [mAdd], rfl⟩
  | lookup T y i ok =>
    cases ok with
    | true => simp [opR] at ho
    | false =>
      simp only [opR] at ho
      split at ho
      · rename_i z b s hz h1 h2
        split at ho
        · rename_i es hb
          split at ho
          · rename_i hkb
            simp only [Option.some.injEq, Prod.mk.injEq] at ho
            obtain ⟨rfl, rfl⟩ := ho
            have e1 := evo_sound he h1
            obtain ⟨xi, h2a, h2b⟩ := Option.bind_eq_some_iff.1 h2
            have e2 := avK_sound h2b (evo_sound he h2a)
            simp only [RA] at e1
            obtain ⟨k, hk, e1⟩ := e1
            obtain ⟨k', F, c, hk', hw, hF, h1c, hpw⟩ := h.box b _ hb
            rw [hk] at hk'
            cases hk'
            unfold smT at hz
            simp only [Bool.and_eq_true, List.all_eq_true] at hkb
            obtain ⟨hk1, hk2⟩ := hkb
            unfold keyB at hk1 hk2
            split at hz
            · rename_i kt et hu
              simp only [hu, Bool.and_eq_true] at hk1 hk2
              split at hz
              · split at hz
                · rename_i zv hzv
                  split at hz
                  · rename_i hzo
                    cases hz
                    obtain ⟨hck, h4⟩ := find_key (w := w) hk1.1.1 hk1.1.2 hk1.2 hF (fun p hp => (hk2 p hp).2) hpw
                    cases hi : P.info? et with
                    | none => simp [hi] at hzv
                    | some it =>
                      simp only [hi, Option.map_some, Option.some.injEq] at hzv
                      have hget : (getObj k : Sem Obj).run P w = .ok (.map F c) w := by simp [getObj, Sem.run, hw]
                      refine sound_val h (v := (mget es s).getD z) ?_ (RA.v_mk ?_)
                      · rcases h4 with ⟨h3, h5, _⟩ | ⟨j, old, h3, _, _, _, h5, _⟩
                        · simp [execOp, e1, e2, Instr.lookup, run_underlying hu, hget, hck, h3, h5, zeroValue, typeInfo, hi, hzv]
                        · simp [execOp, e1, e2, Instr.lookup, run_underlying hu, hget, hck, h3, h5]
                      · cases hm : mget es s with
                        | none => simpa using hzo
                        | some v => simpa using mget_one h1c hm
                  · cases hz
                · cases hz
              · cases hz
            · cases hz
          · cases ho
        · cases ho
      · cases ho
  | mapUpdate T y i x' =>
    simp only [opR] at ho
    split at ho
    · rename_i z b s u hz h1 h2 h2'
      split at ho
      · rename_i es hb
        split at ho
        · rename_i hkb
          simp only [Option.some.injEq, Prod.mk.injEq] at ho
          obtain ⟨rfl, rfl⟩ := ho
          have e1 := evo_sound he h1
          obtain ⟨xi, h2a, h2b⟩ := Option.bind_eq_some_iff.1 h2
          have e2 := avK_sound h2b (evo_sound he h2a)
          have e3 := (evo_sound he h2').v_inv
          simp only [RA] at e1
          obtain ⟨k, hk, e1⟩ := e1
          obtain ⟨k', F, c, hk', hw, hF, h1c, hpw⟩ := h.box b _ hb
          rw [hk] at hk'
          cases hk'
          unfold smT at hz
          simp only [Bool.and_eq_true, List.all_eq_true] at hkb
          obtain ⟨hk1, hk2⟩ := hkb
          unfold keyB at hk1 hk2
          split at hz
          · rename_i kt et hu
            simp only [hu, Bool.and_eq_true] at hk1 hk2
            obtain ⟨hck, h4⟩ := find_key (w := w) hk1.1.1 hk1.1.2 hk1.2 hF (fun p hp => (hk2 p hp).2) hpw
            have hget : (getObj k : Sem Obj).run P w = .ok (.map F c) w := by simp [getObj, Sem.run, hw]
            have hset : ∀ F' c', (setObj k (.map F' c') : Sem Unit).run P w = .ok () (World.setMap w k F' c') := fun F' c' => by simp [setObj, Sem.run, hw, World.setMap]
            rcases h4 with ⟨h3, h5, h6, hno⟩ | ⟨j, old, h3, h6', h7, h8, h5, h6, hst⟩
            · refine .inr ⟨rfl, M, m, World.setMap w k (F.push { key := s, val := u, born := c }) (c + 1), .skip, undef, ?_, .inr ⟨rfl, rfl, rfl⟩, h.setMp hb hk hw ?_ ⟨?_, ?_⟩⟩
              · simp [execOp, e1, e2, e3.1, Instr.mapUpdate, run_underlying hu, hget, hck, h3, hset]
              · rw [h6 u]
                simp [hF]
              · rw [h6 u]
                intro p hp
                rcases List.mem_append.1 hp with hp | hp
                · exact h1c p hp
                · rw [List.mem_singleton] at hp
                  subst hp
                  exact e3.2
              · rw [h6 u]
                exact pw_push hpw hno
            · refine .inr ⟨rfl, M, m, World.setMap w k (F.modify j fun e => { e with key := s, val := u }) c, .skip, undef, ?_, .inr ⟨rfl, rfl, rfl⟩, h.setMp hb hk hw ?_ ⟨?_, ?_⟩⟩
              · simp [execOp, e1, e2, e3.1, Instr.mapUpdate, run_underlying hu, hget, hck, h3, h6', h7, hst, hset]
              · rw [h6 u, ← hF]
                apply List.ext_getElem?
                intro q
                rw [Array.toList_modify, List.getElem?_map, List.getElem?_modify, List.getElem?_set, List.getElem?_map]
                have h9 : F.toList[j]? = some old := by simpa using h6'
                have hjl : j < F.toList.length := (List.getElem?_eq_some_iff.1 h9).1
                by_cases e : j = q
                · subst e
                  rw [if_pos rfl, h9]
                  simp only [Option.map_some, List.length_map, if_pos hjl, if_true, if_pos rfl]
                  rfl
                · rw [if_neg e]
                  simp only [if_neg e, Option.map_map]
                  cases F.toList[q]? <;> rfl
              · rw [h6 u]
                intro p hp
                rcases List.mem_or_eq_of_mem_set hp with hp | rfl
                · exact h1c p hp
                · exact e3.2
              · rw [h6 u]
                exact pw_set hpw h8
          · cases hz
        · cases ho
      · cases ho
    · cases ho
  | insert T y i x' =>
    simp only [opR] at ho
    split at ho
    · rename_i z b s u hz h1 h2 h2'
      split at ho
      · rename_i es hb
        split at ho
        · rename_i hkb
          simp only [Option.some.injEq, Prod.mk.injEq] at ho
          obtain ⟨rfl, rfl⟩ := ho
          have e1 := evo_sound he h1
          obtain ⟨xi, h2a, h2b⟩ := Option.bind_eq_some_iff.1 h2
          have e2 := avK_sound h2b (evo_sound he h2a)
          have e3 := (evo_sound he h2').v_inv
          simp only [RA] at e1
          obtain ⟨k, hk, e1⟩ := e1
          obtain ⟨k', F, c, hk', hw, hF, h1c, hpw⟩ := h.box b _ hb
          rw [hk] at hk'
          cases hk'
          unfold smT at hz
          simp only [Bool.and_eq_true, List.all_eq_true] at hkb
          obtain ⟨hk1, hk2⟩ := hkb
          unfold keyB at hk1 hk2
          split at hz
          · rename_i kt et hu
            simp only [hu, Bool.and_eq_true] at hk1 hk2
            obtain ⟨hck, h4⟩ := find_key (w := w) hk1.1.1 hk1.1.2 hk1.2 hF (fun p hp => (hk2 p hp).2) hpw
            have hget : (getObj k : Sem Obj).run P w = .ok (.map F c) w := by simp [getObj, Sem.run, hw]
            have hset : ∀ F' c', (setObj k (.map F' c') : Sem Unit).run P w = .ok () (World.setMap w k F' c') := fun F' c' => by simp [setObj, Sem.run, hw, World.setMap]
            rcases h4 with ⟨h3, h5, h6, hno⟩ | ⟨j, old, h3, h6', h7, h8, h5, h6, hst⟩
            · refine .inr ⟨rfl, M, m, World.setMap w k (F.push { key := s, val := u, born := c }) (c + 1), .skip, undef, ?_, .inr ⟨rfl, rfl, rfl⟩, h.setMp hb hk hw ?_ ⟨?_, ?_⟩⟩
              · simp [execOp, e1, e2, e3.1, Instr.mapUpdate, run_underlying hu, hget, hck, h3, hset]
              · rw [h6 u]
                simp [hF]
              · rw [h6 u]
                intro p hp
                rcases List.mem_append.1 hp with hp | hp
                · exact h1c p hp
                · rw [List.mem_singleton] at hp
                  subst hp
                  exact e3.2
              · rw [h6 u]
                exact pw_push hpw hno
            · refine .inr ⟨rfl, M, m, World.setMap w k (F.modify j fun e => { e with key := s, val := u }) c, .skip, undef, ?_, .inr ⟨rfl, rfl, rfl⟩, h.setMp hb hk hw ?_ ⟨?_, ?_⟩⟩
              · simp [execOp, e1, e2, e3.1, Instr.mapUpdate, run_underlying hu, hget, hck, h3, h6', h7, hst, hset]
              · rw [h6 u, ← hF]
                apply List.ext_getElem?
                intro q
                rw [Array.toList_modify, List.getElem?_map, List.getElem?_modify, List.getElem?_set, List.getElem?_map]
                have h9 : F.toList[j]? = some old := by simpa using h6'
                have hjl : j < F.toList.length := (List.getElem?_eq_some_iff.1 h9).1
                by_cases e : j = q
                · subst e
                  rw [if_pos rfl, h9]
                  simp only [Option.map_some, List.length_map, if_pos hjl, if_true, if_pos rfl]
                  rfl
                · rw [if_neg e]
                  simp only [if_neg e, Option.map_map]
                  cases F.toList[q]? <;> rfl
              · rw [h6 u]
                intro p hp
                rcases List.mem_or_eq_of_mem_set hp with hp | rfl
                · exact h1c p hp
                · exact e3.2
              · rw [h6 u]
                exact pw_set hpw h8
          · cases hz
        · cases ho
      · cases ho
    · cases ho
  | store T p y =>
    simp only [opR] at ho
    split at ho
    · rename_i p' y' h1 h2
      split at ho
      · rename_i hc
        simp only [Option.map_eq_some_iff, Prod.mk.injEq] at ho
        obtain ⟨bs, h3, rfl, rfl⟩ := ho
        obtain ⟨h4, h5⟩ := RA.cells hc.1 (evo_sound he h2)
        obtain ⟨g, o, w', h6, h7, h8⟩ := stAt_sound (P := P) h (evo_sound he h1) h4 h5 h3
        have hsz : (a.eval y).cells.size = y'.cells.length := by rw [h4.length, Array.length_toList]
        refine .inr ⟨rfl, M, m, w', .skip, undef, ?_, .inr ⟨rfl, rfl, rfl⟩, h8⟩
        simp [execOp, Instr.storeAt, h6, Instr.sureAddr, storeVar, run_szT hc.2, hsz, h7]
      · cases ho
    · cases ho
  | call c =>
    obtain ⟨callee, args, ts⟩ := c
    cases callee with
    | builtin b =>
      cases b <;> try (simp [opR] at ho; done)
      case len =>
        simp only [opR] at ho
        split at ho
        · rename_i y T rest e1 e2
          simp only [Option.map_eq_some_iff, Prod.mk.injEq, Option.bind_eq_some_iff] at ho
          obtain ⟨y', ⟨p, h1, h2⟩, rfl, rfl⟩ := ho
          have ea : args = #[y] := by rw [← Array.toList_inj, e1]
          have et : ts[0]? = some T := by rw [← Array.getElem?_toList, e2]; rfl
          obtain ⟨r, h3, h4⟩ := lenV_sound (ty := ty) et (evo_sound he h1) h2
          exact sound_val h (by simp [execOp, resolve, ea, invoke, builtin, h3]) h4
        · cases ho
      case max =>
        simp only [opR] at ho
        split at ho
        · rename_i y z e1
          have ea : args = #[y, z] := by rw [← Array.toList_inj, e1]
          split at ho
          · rename_i y' z' h1 h2
            simp only [Option.map_eq_some_iff, Prod.mk.injEq] at ho
            obtain ⟨r, h3, rfl, rfl⟩ := ho
            unfold mmV at h3
            split at h3
            · cases h3
              have q1 := (evo_sound he h1).v_inv.1
              have q2 := (evo_sound he h2).v_inv.1
              exact sound_val h (by simp [execOp, resolve, ea, invoke, builtin, q1, q2, Builtin.max_, Builtin.max2]) (RA.v_mk rfl)
            · cases h3
          · cases ho
        · rename_i y1 y2 y3 y4 e1
          have ea : args = #[y1, y2, y3, y4] := by rw [← Array.toList_inj, e1]
          simp only [Option.map_eq_some_iff, Prod.mk.injEq, Option.bind_eq_some_iff] at ho
          obtain ⟨r, ⟨l, h1, h2⟩, rfl, rfl⟩ := ho
          have hr := evl_sound he h1
          unfold mm4 at h2
          split at h2
          · cases h2
            simp only [List.map_cons, List.map_nil, RAs, and_true] at hr
            obtain ⟨r1, r2, r3, r4⟩ := hr
            have q1 := r1.v_inv.1
            have q2 := r2.v_inv.1
            have q3 := r3.v_inv.1
            have q4 := r4.v_inv.1
            exact sound_val h (by simp [execOp, resolve, ea, invoke, builtin, q1, q2, q3, q4, Builtin.max_, Builtin.max2, mxI]) (RA.v_mk rfl)
          · cases h2
        · cases ho
      case min =>
        simp only [opR] at ho
        split at ho
        · rename_i y z e1
          have ea : args = #[y, z] := by rw [← Array.toList_inj, e1]
          split at ho
          · rename_i y' z' h1 h2
            simp only [Option.map_eq_some_iff, Prod.mk.injEq] at ho
            obtain ⟨r, h3, rfl, rfl⟩ := ho
            unfold mmV at h3
            split at h3
            · cases h3
              have q1 := (evo_sound he h1).v_inv.1
              have q2 := (evo_sound he h2).v_inv.1
              exact sound_val h (by simp [execOp, resolve, ea, invoke, builtin, q1, q2, Builtin.min_, Builtin.min2]) (RA.v_mk rfl)
            · cases h3
          · cases ho
        · cases ho
    | value f =>
      cases f with
      | func f =>
        simp only [opR] at ho
        split at ho
        · rename_i k y e1 e2
          simp only [Option.map_eq_some_iff, Prod.mk.injEq, Option.bind_eq_some_iff] at ho
          obtain ⟨y', ⟨p, h1, h2⟩, rfl, rfl⟩ := ho
          have ea : args = #[y] := by rw [← Array.toList_inj, e2]
          have hp := evo_sound he h1
          unfold bitsFn at e1
          split at e1
          · rename_i fn hf
            split at e1
            · rename_i hc
              have hex : (execOp a.eval ⟨dst, .call ⟨.value (.func f), args, ts⟩, ty, pos, af, gd⟩).run P w = (callFunc f #[a.eval y]).run P w := by
                simp [execOp, resolve, ea, Act.eval, Deferred.ofValue, invoke]
              split at e1
              · rename_i hn
                cases e1
                obtain ⟨g1, g2⟩ := find_bits fn hn hc.1
                obtain ⟨q, rfl, rfl⟩ := bitsV_true h2
                refine sound_val h ?_ (RA.v_mk rfl)
                rw [hex, hp.v_inv.1, run_callFunc_extern (P := P) hf (by rw [hn]; rfl) hc.2 g1 g2]
                rfl
              · split at e1
                · rename_i hn' hn
                  cases e1
                  obtain ⟨g1, g2⟩ := find_from fn hn hc.1
                  obtain ⟨q, rfl, rfl⟩ := bitsV_false h2
                  refine sound_val h ?_ (RA.v_mk rfl)
                  rw [hex, hp.v_inv.1, run_callFunc_extern (P := P) hf (by rw [hn]; rfl) hc.2 g1 g2]
                  rfl
                · cases e1
            · cases e1
          · cases e1
        · cases ho
      | _ => simp [opR] at ho
    | invoke r n => simp [opR] at ho
  | _ => simp [opR] at ho
theorem opR_sound {W0 : World} {E : En} {M : Nat → Prop} {m : Nat → Pl} {st : St} {a : Act} {w : World} (h : C W0 E M m st a w) {e : Nat → Option AV} (he : Kn M m w a e) {o : Oper} {x : AV} {bs' : List Box} (ho : opR P e st.bs o.op = some (x, bs')) : Sound P W0 E st a w o x bs' := by
  rcases opR_sound2 h he ho with ⟨v, h1, h2, rfl⟩ | ⟨_, h1⟩
  · exact ⟨M, m, w, _, v, h1, .inl ⟨rfl, h2⟩, h⟩
  · exact h1
end
end Go.Proofs.YtfbegbpipmgfiaaDoor.Lift
end
section
/- The lift: code in whatever round of a loop over a function, or in none: what is shown of operations alone holds there. No conditions: words and their laws. -/
set_option linter.unusedVariables false
set_option linter.unusedSimpArgs false
namespace Go.Proofs.YtfbegbpipmgfiaaDoor.Lift
open Go Go.RowKit

/-- Every program may run, in such a round. -/
def RFe (ro : Option Nat) : Fence := { Fence.wide with round := ro }
theorem callsIn_RF {ro : Option Nat} {nn : Nat} {P : Program} {f : FuncId} {us : Array Value} {w : World} {R : Ending → World → Prop} (h : Calls P f us w R) : CallsIn (RFe ro) nn P f us w R := (callsIn_wide (n := nn)).2 h
theorem rowsIn_RF {ro : Option Nat} {nn : Nat} {P : Program} {row : String} {us : Array Value} {w : World} {R : Value → World → Prop} (h : Rows P row us w R) : RowsIn (RFe ro) nn P row us w R :=
  fun c cs _ => let ⟨v, w', r, s⟩ := h c cs; ⟨v, w', r, (stepsIn_wide (P := P)).2 s⟩

/-- No deferred call. -/
def noDef (o : Oper) : Bool := match o.op with | .defer _ => false | _ => true
theorem noDef_iff {o : Oper} (h : noDef o = true) : ∀ c, o.op ≠ .defer c := by
  intro c hc
  unfold noDef at h
  rw [hc] at h
  cases h
theorem op_in {ro : Option Nat} {nn : Nat} {P : Program} {o : Oper} {a : Act} {w : World} {K : Act → World → Prop} {Q : Exit → Act → World → Prop} (hd : noDef o = true) (h : o.wp P a w K Q) : o.wpIn (RFe ro) nn P a w K Q := by
  refine ⟨fun _ _ => trivial, ?_⟩
  rw [Oper.semAt_eq _ _ _ (noDef_iff hd)]
  unfold Oper.wp at h
  generalize (execOp a.eval o).run P w = r at h
  cases r with
  | ok x w' =>
    cases x <;> simp only [Oper.upon, Oper.uponIn] at h ⊢ <;>
      first
        | exact h
        | exact ⟨fun e => (by cases e), callsIn_RF h⟩
        | exact ⟨fun e => (by cases e), rowsIn_RF h⟩
        | exact h.elim
  | halt x w' => cases x <;> simp only [Oper.upon, Oper.uponIn] at h ⊢ <;> exact h
theorem list_in {ro : Option Nat} {nn : Nat} {P : Program} {ops : Array Oper} {Q : Exit → Act → World → Prop} (hQ : ¬ LetsOut Q) : ∀ {l : List Oper} {a : Act} {w : World}, l.all noDef = true → wpList P ops Q l a w → wpListIn (RFe ro) nn P ops Q l a w
  | [], _, _, _, h => h
  | o :: l, a, w, hd, h => by
    simp only [List.all_cons, Bool.and_eq_true] at hd
    unfold wpList at h
    unfold wpListIn
    split
    · rename_i hw
      rw [if_pos hw] at h
      exact op_in hd.1 (Oper.wp_mono (fun a w hk => list_in hQ hd.2 hk) (h.resolve_right fun x => hQ x.2))
    · rename_i hw
      rw [if_neg hw] at h
      exact ⟨fun _ _ => trivial, list_in hQ hd.2 h⟩
theorem any_in {ro : Option Nat} {nn : Nat} {P : Program} {md : Region.Mode} {ops : Array Oper} {Q : Exit → Act → World → Prop} (hQ : ¬ LetsOut Q) (hd : ∀ (i : Nat) (o : Oper), ops[i]? = some o → noDef o = true) :
    ∀ (fuel : Nat) (listed : Array Bool) (a : Act) (w : World), wpAny P md ops Q fuel listed a w → wpAnyIn (RFe ro) nn P md ops Q fuel listed a w
  | 0, _, _, _, h => h
  | fuel + 1, listed, a, w, h => ⟨h.1, fun i hi => by
      have h1 := h.2 i hi
      unfold wpOp at h1
      unfold wpOpIn
      split
      · rename_i ho
        rw [ho] at h1
        exact any_in hQ hd fuel _ _ _ h1
      · rename_i o ho
        rw [ho] at h1
        simp only at h1
        split
        · rename_i hw
          rw [if_pos hw] at h1
          exact op_in (hd i o ho) (Oper.wp_mono (fun a w hk => any_in hQ hd fuel _ _ _ hk) (h1.resolve_right fun x => hQ x.2))
        · rename_i hw
          rw [if_neg hw] at h1
          exact ⟨fun _ _ => trivial, any_in hQ hd fuel _ _ _ h1⟩⟩

/-- In every round. -/
def wpR (P : Program) (c : Code) (Q : Exit → Act → World → Prop) (a : Act) (w : World) : Prop := ∀ (ro : Option Nat) (nn : Nat), c.wpIn (RFe ro) nn P Q a w
section
variable {P : Program} {Q : Exit → Act → World → Prop} {a : Act} {w : World}
theorem wpR.wp {c : Code} (h : wpR P c Q a w) : c.wp P Q a w := wpIn_wide.1 (h none 0)
theorem wpR_mono {c : Code} {Q' : Exit → Act → World → Prop} (h : wpR P c Q a w) (hq : ∀ e a w, Q e a w → Q' e a w) : wpR P c Q' a w := fun ro nn => wpIn_mono (h ro nn) hq
theorem wpR_skip (h : Q .normal a w) : wpR P .skip Q a w := fun _ _ => wpIn_skip h
theorem wpR_exit {id : Nat} (h : Q (.exit id) a w) : wpR P (.exit id) Q a w := fun _ _ => wpIn_exit h
theorem wpR_ret (h : Q .ret a w) : wpR P .ret Q a w := fun _ _ => wpIn_ret h
theorem wpR_seq {x y : Code} (h : wpR P x (Exit.then (wpR P y Q) Q) a w) : wpR P (.seq x y) Q a w := fun ro nn => wpIn_seq (wpIn_mono (h ro nn) fun e a w hq => by cases e <;> first | exact hq ro nn | exact hq)
theorem wpR_cond_split {c : Operand} {x y : Code} {t : Bool} (hc : a.eval c = .bool t) (ht : t = true → wpR P x Q a w) (hf : t = false → wpR P y Q a w) : wpR P (.cond c x y) Q a w := fun ro nn => wpIn_cond_split hc (fun e => ht e ro nn) (fun e => hf e ro nn)
theorem wpR_block {id : Nat} {c : Code} (h : wpR P c (Exit.inBlock id Q) a w) : wpR P (.block id c) Q a w := fun ro nn => wpIn_block (h ro nn)
theorem wpR_region_lit {id : Nat} {l : List Oper} (hQ : ¬ LetsOut Q) (hd : l.all noDef = true) (h : wpList P l.toArray Q l a w) : wpR P (.region id l.toArray false) Q a w := fun ro nn => wpIn_region_lit (list_in hQ hd h)
theorem wpR_region_any {id : Nat} {ops : Array Oper} (hQ : ¬ LetsOut Q) (hd : ops.toList.all noDef = true) (hm : P.follows .mixedOrders = true) (h : wpAny P .any ops Q ops.size (Array.replicate ops.size false) a { w with drawn := w.drawn + 1 }) : wpR P (.region id ops true) Q a w :=
  fun ro nn => wpIn_region_any hm (any_in hQ (fun i o ho => List.all_eq_true.1 hd o (List.mem_of_getElem? (by simpa using ho))) _ _ _ _ h)
theorem wpR_loop_ghost {c : Code} (I : Nat → Act → World → Prop) (n₀ : Nat) (h₀ : I n₀ a w) (round : ∀ n a w, I n a w → wpR P c (Exit.then (fun a' w' => ∃ n', n' < n ∧ I n' a' w') Q) a w) : wpR P (.loop c) Q a w :=
  fun ro nn => wpIn_loop_ghost I n₀ h₀ fun n a w h => round n a w h ro nn
end
end Go.Proofs.YtfbegbpipmgfiaaDoor.Lift
end
section
/- The lift, seventh part: code, and calls. No conditions: words and their laws. -/
set_option linter.unusedVariables false
set_option linter.unusedSimpArgs false
namespace Go.Proofs.YtfbegbpipmgfiaaDoor.Lift
open Go Go.RowKit

section
variable {P : Program} {W0 : World} {n : Nat}

/-- How code ends. -/
inductive Ax where
  | normal
  | exit (id : Nat)
  | goto (l : Nat)
  | ret
  | panic (x : AV)

def ExR (M : Nat → Prop) (m : Nat → Pl) (w : World) : Ax → Exit → Prop
  | .normal, .normal => True
  | .exit i, .exit j => i = j
  | .goto i, .goto j => i = j
  | .ret, .ret => True
  | .panic x, .panic chain => ∃ u, chain = [{ v := u, recovered := false }] ∧ RA M m w x u
  | _, _ => False

def LQ (W0 : World) (E : En) (Q : Ax → St → Prop) : Exit → Act → World → Prop := fun ex a w => ∃ M m st ax, C W0 E M m st a w ∧ Q ax st ∧ ExR M m w ax ex

def ACode (P : Program) (W0 : World) (n : Nat) (c : Code) (Q : Ax → St → Prop) (st : St) : Prop := ∀ E M m a w, E.n = n → C W0 E M m st a w → wpR P c (LQ W0 E Q) a w
def AOps (P : Program) (W0 : World) (n : Nat) (ops : Array Oper) (l : List Oper) (Q : Ax → St → Prop) (st : St) : Prop := ∀ E M m a w, E.n = n → C W0 E M m st a w → wpList P ops (LQ W0 E Q) l a w

theorem ACode.mono {c : Code} {Q Q' : Ax → St → Prop} {st : St} (h : ACode P W0 n c Q st) (hq : ∀ ax st, Q ax st → Q' ax st) : ACode P W0 n c Q' st :=
  fun E M m a w hn hc => wpR_mono (h E M m a w hn hc) fun e a w ⟨M, m, st, ax, h1, h2, h3⟩ => ⟨M, m, st, ax, h1, hq _ _ h2, h3⟩

def Thn (y : St → Prop) (Q : Ax → St → Prop) : Ax → St → Prop
  | .normal, st => y st
  | ax, st => Q ax st
def InB (id : Nat) (Q : Ax → St → Prop) : Ax → St → Prop
  | .exit i, st => if i = id then Q .normal st else Q (.exit i) st
  | ax, st => Q ax st

theorem A_skip {Q : Ax → St → Prop} {st : St} (h : Q .normal st) : ACode P W0 n .skip Q st := fun E M m a w _ hc => wpR_skip ⟨M, m, st, .normal, hc, h, trivial⟩
theorem A_ret {Q : Ax → St → Prop} {st : St} (h : Q .ret st) : ACode P W0 n .ret Q st := fun E M m a w _ hc => wpR_ret ⟨M, m, st, .ret, hc, h, trivial⟩
theorem A_exit {Q : Ax → St → Prop} {st : St} {id : Nat} (h : Q (.exit id) st) : ACode P W0 n (.exit id) Q st := fun E M m a w _ hc => wpR_exit ⟨M, m, st, .exit id, hc, h, rfl⟩
theorem A_seq {Q : Ax → St → Prop} {st : St} {x y : Code} (h : ACode P W0 n x (Thn (ACode P W0 n y Q) Q) st) : ACode P W0 n (.seq x y) Q st := by
  intro E M m a w hn hc
  refine wpR_seq (wpR_mono (h E M m a w hn hc) ?_)
  rintro e a' w' ⟨M', m', st', ax, h1, h2, h3⟩
  cases ax with
  | normal =>
    cases e <;> simp only [ExR] at h3
    exact h2 E M' m' a' w' hn h1
  | exit i =>
    cases e <;> simp only [ExR] at h3
    exact ⟨M', m', st', _, h1, h2, h3⟩
  | goto i =>
    cases e <;> simp only [ExR] at h3
    exact ⟨M', m', st', _, h1, h2, h3⟩
  | ret =>
    cases e <;> simp only [ExR] at h3
    exact ⟨M', m', st', _, h1, h2, trivial⟩
  | panic x =>
    cases e <;> simp only [ExR] at h3
    exact ⟨M', m', st', _, h1, h2, h3⟩
theorem A_cond {Q : Ax → St → Prop} {st : St} {c : Operand} {x y : Code} {t : Bool} (hc : evo (lk st.env) c = some (.d (.v (.bool t)))) (h1 : t = true → ACode P W0 n x Q st) (h2 : t = false → ACode P W0 n y Q st) : ACode P W0 n (.cond c x y) Q st :=
  fun E M m a w hn h => wpR_cond_split (evo_sound h.env hc).v_inv.1 (fun e => h1 e E M m a w hn h) (fun e => h2 e E M m a w hn h)
theorem A_condt {Q : Ax → St → Prop} {st : St} {c : Operand} {x y : Code} (hc : evo (lk st.env) c = some (.d (.v (.bool true)))) (h1 : ACode P W0 n x Q st) : ACode P W0 n (.cond c x y) Q st := A_cond hc (fun _ => h1) (fun h => by cases h)
theorem A_condf {Q : Ax → St → Prop} {st : St} {c : Operand} {x y : Code} (hc : evo (lk st.env) c = some (.d (.v (.bool false)))) (h1 : ACode P W0 n y Q st) : ACode P W0 n (.cond c x y) Q st := A_cond hc (fun h => by cases h) (fun _ => h1)
theorem A_block {Q : Ax → St → Prop} {st : St} {id : Nat} {c : Code} (h : ACode P W0 n c (InB id Q) st) : ACode P W0 n (.block id c) Q st := by
  intro E M m a w hn hc
  refine wpR_block (wpR_mono (h E M m a w hn hc) ?_)
  rintro e a' w' ⟨M', m', st', ax, h1, h2, h3⟩
  cases ax with
  | normal =>
    cases e <;> simp only [ExR] at h3
    exact ⟨M', m', st', .normal, h1, h2, trivial⟩
  | exit i =>
    cases e <;> simp only [ExR] at h3
    subst h3
    simp only [InB] at h2
    simp only [Exit.inBlock]
    split
    · rename_i e
      rw [if_pos e] at h2
      exact ⟨M', m', st', .normal, h1, h2, trivial⟩
    · rename_i e
      rw [if_neg e] at h2
      exact ⟨M', m', st', .exit i, h1, h2, rfl⟩
  | goto i =>
    cases e <;> simp only [ExR] at h3
    exact ⟨M', m', st', _, h1, h2, h3⟩
  | ret =>
    cases e <;> simp only [ExR] at h3
    exact ⟨M', m', st', .ret, h1, h2, trivial⟩
  | panic x =>
    cases e <;> simp only [ExR] at h3
    exact ⟨M', m', st', .panic x, h1, h2, h3⟩
theorem LQ_in {E : En} {Q : Ax → St → Prop} : ¬ LetsOut (LQ W0 E Q) := by
  rintro ⟨a, w, M, m, st, ax, _, _, h⟩
  cases ax <;> exact h
theorem A_region {Q : Ax → St → Prop} {st : St} {id : Nat} {l : List Oper} (h : AOps P W0 n l.toArray l Q st) (hnd : l.all noDef = true := by rfl) : ACode P W0 n (.region id l.toArray false) Q st :=
  fun E M m a w hn hc => wpR_region_lit LQ_in hnd (h E M m a w hn hc)

theorem A_nil {Q : Ax → St → Prop} {st : St} {ops : Array Oper} (h : Q .normal st) : AOps P W0 n ops [] Q st := fun E M m a w _ hc => wpList_nil ⟨M, m, st, .normal, hc, h, trivial⟩

def dOk (N : Nat) : Option Nat → Bool
  | none => true
  | some t => decide (t < N)
theorem dOk_iff {N : Nat} {o : Option Nat} (h : dOk N o = true) : ∀ t, o = some t → t < N := by
  rintro t rfl
  simpa [dOk] using h

/-- An operation whose temporary there is, and that is no deferred call. -/
def okO (N : Nat) (o : Oper) : Bool := dOk N o.dst && noDef o
theorem okO_d {N : Nat} {o : Oper} (h : okO N o = true) : dOk N o.dst = true := (Bool.and_eq_true _ _ ▸ h : dOk N o.dst = true ∧ noDef o = true).1
theorem okO_n {N : Nat} {l : List Oper} (h : l.all (okO N) = true) : l.all noDef = true := List.all_eq_true.2 fun o ho => (Bool.and_eq_true _ _ ▸ List.all_eq_true.1 h o ho : dOk N o.dst = true ∧ noDef o = true).2
theorem A_step {Q : Ax → St → Prop} {st : St} {ops : Array Oper} {o : Oper} {rest : List Oper} {x : AV} {bs' : List Box} (hg : o.guard = none) (ho : opR P (lk st.env) st.bs o.op = some (x, bs')) (hd : dOk st.N o.dst = true)
    (h : AOps P W0 n ops rest Q ((⟨st.N, st.env, bs'⟩ : St).put o.dst x)) : AOps P W0 n ops (o :: rest) Q st := by
  intro E M m a w hn hc
  refine wpList_plain hg fun K hK => ?_
  obtain ⟨M', m', w', nx, v, hr, hx, hc'⟩ := opR_sound hc hc.env ho
  have hv : RA M' m' w' x v := by
    rcases hx with ⟨_, h1⟩ | ⟨_, rfl, _⟩
    · exact h1
    · simp only [RA]
  have := hK _ _ (h E M' m' _ _ hn (hc'.value (o := o.dst) (dOk_iff (by simpa using hd)) hv))
  unfold Oper.wp
  rw [hr]
  rcases hx with ⟨rfl, _⟩ | ⟨rfl, _, rfl⟩
  · exact this
  · exact this

/-- What comes behind something that is there; else another thing. Nothing is looked at behind it until it is known. -/
def onSome {α : Type} (o : Option α) (f : α → Prop) (d : Prop) : Prop := match o with | some x => f x | none => d
@[congr] theorem onSome_congr {α : Type} {o o' : Option α} {f : α → Prop} {d : Prop} (h : o = o') : onSome o f d = onSome o' f d := by rw [h]
theorem onSome_some {α : Type} (x : α) (f : α → Prop) (d : Prop) : onSome (some x) f d = f x := rfl
theorem onSome_none {α : Type} (f : α → Prop) (d : Prop) : onSome none f d = d := rfl
def stepT (P : Program) (st : St) (o : Oper) : Option (AV × List Box) := match o.guard with | none => opR P (lk st.env) st.bs o.op | some _ => none
/-- As many steps as there are that call nobody. -/
def runTo (P : Program) : List Oper → St → (List Oper → St → Prop) → Prop
  | [], st, K => K [] st
  | o :: l, st, K => onSome (stepT P st o) (fun p => dOk st.N o.dst = true ∧ runTo P l ((⟨st.N, st.env, p.2⟩ : St).put o.dst p.1) K) (K (o :: l) st)
theorem A_run {Q : Ax → St → Prop} {ops : Array Oper} : ∀ {l : List Oper} {st : St}, runTo P l st (fun l' st' => AOps P W0 n ops l' Q st') → AOps P W0 n ops l Q st
  | [], st, h => h
  | o :: l, st, h => by
    simp only [runTo] at h
    cases hs : stepT P st o with
    | none =>
      rw [hs] at h
      exact h
    | some p =>
      rw [hs] at h
      have hg : o.guard = none := by
        unfold stepT at hs
        split at hs
        · assumption
        · cases hs
      exact A_step hg (by simpa only [stepT, hg] using hs) h.1 (A_run h.2)

/-- What a call comes to. -/
inductive Res where
  | ret (x : AV)
  | panic (x : AV)
def ResR (M : Nat → Prop) (m : Nat → Pl) (w : World) : Res → Ending → Prop
  | .ret x, .returned u => RA M m w x u
  | .panic x, .panicked chain => ∃ u, chain = [{ v := u, recovered := false }] ∧ RA M m w x u
  | _, _ => False

def nobody : Act := ⟨#[], []⟩
/-- A function's contract: handed such values and boxes it comes to what R says. -/
def ACalls (P : Program) (W0 : World) (f : FuncId) (args : List AV) (L : List Box) (R : Res → List Box → Prop) : Prop :=
  ∀ M m w us, C W0 ⟨w, M, m, L.length, []⟩ M m ⟨0, [], L⟩ nobody w → RAs M m w args us.toList →
    Calls P f us w fun e w' => ∃ r L' M' m', R r L' ∧ ResR M' m' w' r e ∧ C W0 ⟨w, M, m, L.length, []⟩ M' m' ⟨0, [], L'⟩ nobody w'
theorem ACalls.mono {f : FuncId} {args : List AV} {L : List Box} {R R' : Res → List Box → Prop} (h : ACalls P W0 f args L R) (hr : ∀ r L', R r L' → R' r L') : ACalls P W0 f args L R' :=
  fun M m w us hc ha => (h M m w us hc ha).mono fun _ _ ⟨r, L', M', m', h1, h2⟩ => ⟨r, L', M', m', hr _ _ h1, h2⟩

def mkEnv : Nat → List AV → List (Nat × AV)
  | _, [] => []
  | i, x :: l => (i, x) :: mkEnv (i + 1) l
theorem lk_mkEnv : ∀ (l : List AV) (i t : Nat) (x : AV), lkA (mkEnv i l) t = some x → i ≤ t ∧ l[t - i]? = some x
  | [], i, t, x, h => by simp [mkEnv, lkA] at h
  | y :: l, i, t, x, h => by
    simp only [mkEnv, lkA] at h
    split at h
    · rename_i e
      subst e
      cases h
      simp
    · obtain ⟨h1, h2⟩ := lk_mkEnv l (i + 1) t x h
      refine ⟨by omega, ?_⟩
      rw [show t - i = (t - (i + 1)) + 1 by omega]
      simpa using h2

/-- A result variable. -/
def rv1 (P : Program) (st : St) : ResultVar → Option AV
  | .tmp t => lk st.env t
  | .cell p T => ((lk st.env p).bind (ldAt st.bs)).bind (ldV P T)
def rvs (P : Program) (st : St) : List ResultVar → Option (List AV)
  | [] => some []
  | r :: l => match rv1 P st r, rvs P st l with | some x, some xs => some (x :: xs) | _, _ => none
def resV (P : Program) (st : St) (rs : List ResultVar) : Option AV :=
  match rvs P st rs with
  | some [x] => some x
  | some l => some (.tup l)
  | none => none
theorem rvs_sound {E : En} {M : Nat → Prop} {m : Nat → Pl} {st : St} {a : Act} {w : World} (h : C W0 E M m st a w) : ∀ {rs : List ResultVar} {xs : List AV}, rvs P st rs = some xs →
    ∃ us : List Value, (rs.mapM (fun | .tmp t => pure (a.tmps.getD t undef) | .cell p t => do loadVar t (← asAddr (a.tmps.getD p undef)) : ResultVar → Sem Value)).run P w = .ok us w ∧ RAs M m w xs us
  | [], xs, hr => by
    simp only [rvs, Option.some.injEq] at hr
    subst hr
    exact ⟨[], by simp, by simp only [RAs]⟩
  | r :: rs, xs, hr => by
    simp only [rvs] at hr
    split at hr
    · rename_i x xs' h1 h2
      cases hr
      obtain ⟨us, h3, h4⟩ := rvs_sound h h2
      cases r with
      | tmp t =>
        simp only [rv1] at h1
        refine ⟨a.tmps.getD t undef :: us, ?_, by simp only [RAs]; exact ⟨h.env t x h1, h4⟩⟩
        simp only [List.mapM_cons, Sem.run_bind, Sem.run_pure, Result.andThen_ok, h3]
      | cell p T =>
        simp only [rv1, Option.bind_eq_some_iff] at h1
        obtain ⟨cs, ⟨y, h5, h6⟩, h7⟩ := h1
        obtain ⟨g, o, h8, h9⟩ := ldAt_sound h (h.env p y h5) h6
        obtain ⟨u, h10, h11⟩ := ldV_sound (P := P) h9 h7
        refine ⟨u :: us, ?_, by simp only [RAs]; exact ⟨h11, h4⟩⟩
        have hp : (asAddr (a.tmps.getD p undef)).run P w = .ok ⟨g, o, none⟩ w := by rw [h8]; rfl
        simp only [List.mapM_cons, Sem.run_bind, hp, Sem.run_pure, Result.andThen_ok, h10, h3]
    · cases hr
theorem resV_sound {E : En} {M : Nat → Prop} {m : Nat → Pl} {st : St} {a : Act} {w : World} (h : C W0 E M m st a w) {fn : Func} {x : AV} (hr : resV P st fn.results.toList = some x) : ∃ u, (results fn a.tmps).run P w = .ok u w ∧ RA M m w x u := by
  unfold resV at hr
  have key : ∀ xs, rvs P st fn.results.toList = some xs → ∃ us : List Value, (results fn a.tmps).run P w = .ok (if h : us.toArray.size = 1 then us.toArray[0] else .tuple us.toArray) w ∧ RAs M m w xs us := by
    intro xs hx
    obtain ⟨us, h1, h2⟩ := rvs_sound (P := P) h hx
    refine ⟨us, ?_, h2⟩
    unfold results
    rw [Array.mapM_eq_mapM_toList]
    simp only [Sem.run_bind, Sem.run_map]
    erw [h1]
    rfl
  split at hr
  · rename_i y hy
    cases hr
    obtain ⟨us, h1, h2⟩ := key _ hy
    match us, h2 with
    | [u], h2 =>
      simp only [RAs] at h2
      exact ⟨u, by simpa using h1, h2.1⟩
    | [], h2 => simp only [RAs] at h2
    | _ :: _ :: _, h2 => simp only [RAs, and_false] at h2
  · rename_i l hl hy
    cases hr
    obtain ⟨us, h1, h2⟩ := key _ hy
    have hlen := h2.length
    refine ⟨.tuple us.toArray, ?_, by simp only [RA]; exact ⟨_, rfl, h2⟩⟩
    rw [h1, dif_neg]
    intro e
    have : l.length = 1 := by simpa [hlen] using e
    obtain ⟨z, rfl⟩ := List.length_eq_one_iff.1 this
    exact hl z rfl
  · cases hr

/-- From one state to another that says no more. -/
def Fin (W0 : World) (n : Nat) (st : St) (x : AV) (L' : List Box) (x' : AV) : Prop := ∀ E M m a w u, E.n = n → C W0 E M m st a w → RA M m w x u → ∃ M' m', C W0 E M' m' ⟨0, [], L'⟩ ⟨#[], E.d⟩ w ∧ RA M' m' w x' u

theorem C.frame {E : En} {M : Nat → Prop} {m : Nat → Pl} {st : St} {a : Act} {w : World} (h : C W0 E M m st a w) {args : List AV} {us : Array Value} {N : Nat} (ha : RAs M m w args us.toList) (hN : args.length ≤ N) :
    C W0 E M m ⟨N, ofL (mkEnv 0 args), st.bs⟩ ⟨us ++ Array.replicate (N - us.size) undef, E.d⟩ w := by
  have hl : args.length = us.size := by rw [ha.length, Array.length_toList]
  refine { h with env := fun t x hx => ?_, wide := by simp; omega, defers := rfl, mNo := h.mNo, oldv := h.oldv, box := h.box, len := h.len }
  simp only [lk_ofL] at hx
  obtain ⟨_, h1⟩ := lk_mkEnv args 0 t x hx
  simp only [Nat.sub_zero] at h1
  obtain ⟨u, h2, h3⟩ := ha.get h1
  have ht : t < us.size := by rw [← hl]; exact (List.getElem?_eq_some_iff.1 h1).1
  have h4 : us[t]? = some u := by simpa using h2
  have : (us ++ Array.replicate (N - us.size) undef).getD t undef = u := by
    simp [Array.getElem?_append_left ht, h4]
  simp only [this]
  exact h3
theorem C.bare {E : En} {M : Nat → Prop} {m : Nat → Pl} {st : St} {a : Act} {w : World} (h : C W0 E M m st a w) : C W0 E M m ⟨0, [], st.bs⟩ ⟨#[], E.d⟩ w :=
  { h with env := fun t x hx => by simp [lk_nil] at hx, wide := rfl, defers := rfl, mNo := h.mNo, oldv := h.oldv, box := h.box, len := h.len }

/-- What a body owes at its ends. -/
def AEnd (P : Program) (W0 : World) (n : Nat) (rs : List ResultVar) (R : Res → List Box → Prop) : Ax → St → Prop
  | .normal, st | .ret, st => ∃ x, resV P st rs = some x ∧ ∃ L' x', Fin W0 n st x L' x' ∧ R (.ret x') L'
  | .panic x, st => ∃ L' x', Fin W0 n st x L' x' ∧ R (.panic x') L'
  | _, _ => False

theorem A_body {f : FuncId} {fn : Func} {c : Code} {args : List AV} {L : List Box} {R : Res → List Box → Prop} (hf : P.funcs[f]? = some fn) (hb : fn.body = some c) (hN : args.length ≤ fn.ntmps)
    (h : ACode P W0 L.length c (AEnd P W0 L.length fn.results.toList R) ⟨fn.ntmps, ofL (mkEnv 0 args), L⟩) : ACalls P W0 f args L R := by
  intro M m w us hc ha
  refine calls_of_wp hf hb (wpR.wp (wpR_mono (h _ _ _ _ _ rfl (hc.frame ha hN)) ?_))
  rintro e a' w' ⟨M', m', st', ax, h1, h2, h3⟩
  have fin : ∀ x, resV P st' fn.results.toList = some x → (∃ L' x', Fin W0 L.length st' x L' x' ∧ R (.ret x') L') → a'.defers = [] ∧ ∃ v, (results fn a'.tmps).run P w' = .ok v w' ∧
      ∃ r L' M'' m'', R r L' ∧ ResR M'' m'' w' r (.returned v) ∧ C W0 ⟨w, M, m, L.length, []⟩ M'' m'' ⟨0, [], L'⟩ nobody w' := by
    rintro x hx ⟨L', x', hfin, hR⟩
    obtain ⟨u, h4, h5⟩ := resV_sound (P := P) h1 hx
    obtain ⟨M'', m'', h6, h7⟩ := hfin _ _ _ _ _ u rfl h1 h5
    exact ⟨h1.defers, u, h4, .ret x', L', M'', m'', hR, h7, h6⟩
  cases ax with
  | normal =>
    cases e <;> simp only [ExR] at h3
    obtain ⟨x, hx, hy⟩ := h2
    exact fin x hx hy
  | exit i => exact h2.elim
  | goto i => exact h2.elim
  | ret =>
    cases e <;> simp only [ExR] at h3
    obtain ⟨x, hx, hy⟩ := h2
    exact fin x hx hy
  | panic x =>
    cases e <;> simp only [ExR] at h3
    obtain ⟨u, rfl, h4⟩ := h3
    obtain ⟨L', x', hfin, hR⟩ := h2
    obtain ⟨M'', m'', h6, h7⟩ := hfin _ _ _ _ _ u rfl h1 h4
    exact ⟨h1.defers, .panic x', L', M'', m'', hR, ⟨u, rfl, h7⟩, h6⟩

/-- A function that code may call. -/
def callable (P : Program) (f : FuncId) : Bool := match P.funcs[f]? with | some fn => fn.name != "runtime.NumGoroutine" && fn.body.isSome | none => false
theorem run_callFunc {f : FuncId} (h : callable P f = true) (us : Array Value) (w : World) : (callFunc f us).run P w = .ok (.enter f us) w := by
  unfold callable at h
  split at h
  · rename_i fn hf
    simp only [Bool.and_eq_true, bne_iff_ne, ne_eq] at h
    unfold callFunc
    obtain ⟨c, h2⟩ := Option.isSome_iff_exists.1 h.2
    simp [hf, h.1, h2]
  · cases h

/-- A call of a function, seen from the caller. -/
theorem run_call {E : En} {M : Nat → Prop} {m : Nat → Pl} {st : St} {a : Act} {w : World} (h : C W0 E M m st a w) {o : Oper} {fo : Operand} {args : Array Operand} {ts : Array TypeId} (ho : o.op = .call ⟨.value fo, args, ts⟩) {f : FuncId} {caps xs : List AV}
    (hf : evo (lk st.env) fo = some (.fn f caps)) (ha : evl (lk st.env) args.toList = some xs) (hc : callable P f = true) : ∃ us : Array Value, (execOp a.eval o).run P w = .ok (.enter f us) w ∧ RAs M m w (xs ++ caps) us.toList := by
  have h1 := evo_sound h.env hf
  simp only [RA] at h1
  obtain ⟨cs, h2, h3⟩ := h1
  have h4 := evl_sound h.env ha
  refine ⟨args.map a.eval ++ cs, ?_, by simpa using h4.append h3⟩
  simp [execOp, ho, resolve, h2, Deferred.ofValue, invoke, run_callFunc hc]

def noName : AV → Bool := AV.names fun _ => false
def noNames : List AV → Bool := namesAll fun _ => false
def Res.all (p : AV → Prop) : Res → Prop
  | .ret x => p x
  | .panic x => p x

/-- A function that is handed data alone, and turns nothing. -/
def APure (P : Program) (W0 : World) (f : FuncId) (args : List AV) (R : Res → Prop) : Prop := ACalls P W0 f args [] fun r L' => R r ∧ L' = []

theorem C.callee {E : En} {M : Nat → Prop} {m : Nat → Pl} {st : St} {a : Act} {w : World} (h : C W0 E M m st a w) : C W0 ⟨w, M, fun _ => .no, 0, []⟩ M (fun _ => .no) ⟨0, [], []⟩ nobody w where
  base := h.base
  fr := Fr.refl _ _
  eLt := h.mLt
  mLow := h.mLow
  mUp := fun _ x => x
  mNew := fun _ x => .inl x
  mLt := h.mLt
  mNo := fun _ _ => rfl
  mIn := fun b k hb => by cases hb
  inj := fun b b' k hb => by cases hb
  oldv := fun b cs hb => by cases hb
  oldr := fun b k hb => by cases hb
  new := fun b k _ hb => by cases hb
  len := Nat.le_refl _
  box := fun b x hb => by simp at hb
  env := fun t x hx => by simp [lk_nil] at hx
  wide := rfl
  defers := rfl

theorem C.after {E : En} {M M' : Nat → Prop} {m m' : Nat → Pl} {st : St} {a : Act} {w w' : World} {L' : List Box} (h : C W0 E M m st a w) (h' : C W0 ⟨w, M, fun _ => .no, 0, []⟩ M' m' ⟨0, [], L'⟩ nobody w') : C W0 E M' m st a w' := by
  have hf : Fr (fun _ => False) w w' := Fr.weak h'.fr fun k _ ⟨b, hb, _⟩ => by simp at hb
  have hM : ∀ k, k < w.heap.size → M' k → M k := fun k hk hm => (h'.mNew k hm).resolve_right (by simp; omega)
  exact {
    base := h'.base
    fr := h.fr.trans (Fr.weak hf fun _ _ x => x.elim)
    eLt := h.eLt
    mLow := h'.mLow
    mUp := fun k hk => h'.mUp k (h.mUp k hk)
    mNew := fun k hk => (h'.mNew k hk).elim (h.mNew k) fun hw => .inr (Nat.le_trans h.fr.size hw)
    mLt := h'.mLt
    mNo := h.mNo
    mIn := fun b k hb => h'.mUp k (h.mIn b k hb)
    inj := h.inj
    oldv := h.oldv
    oldr := h.oldr
    new := h.new
    len := h.len
    box := fun b x hb => (h.box b x hb).mono hf (fun _ _ x => x.elim) hM (fun _ _ x => x)
    env := fun t x hx => RA.mono hf (fun _ _ x => x.elim) hM x _ (h.env t x hx)
    wide := h.wide
    defers := h.defers }

theorem A_call {Q : Ax → St → Prop} {st : St} {ops : Array Oper} {o : Oper} {rest : List Oper} {fo : Operand} {args : Array Operand} {ts : Array TypeId} {f : FuncId} {caps xs : List AV} {R : Res → Prop} (hcall : APure P W0 f (xs ++ caps) R) (hg : o.guard = none) (ho : o.op = .call ⟨.value fo, args, ts⟩)
    (hf : evo (lk st.env) fo = some (.fn f caps)) (ha : evl (lk st.env) args.toList = some xs) (hc : callable P f = true) (hd : dOk st.N o.dst = true) (hn : noNames (xs ++ caps) = true)
    (h : ∀ r, R r → match r with | .ret x => noName x = true ∧ AOps P W0 n ops rest Q (st.put o.dst x) | .panic x => noName x = true ∧ Q (.panic x) st) : AOps P W0 n ops (o :: rest) Q st := by
  intro E M m a w hE hC
  refine wpList_plain hg fun K hK => ?_
  obtain ⟨us, h1, h2⟩ := run_call (P := P) hC ho hf ha hc
  unfold Oper.wp
  rw [h1, Oper.upon_enter]
  refine (hcall M (fun _ => .no) w us hC.callee (RAs.remap (p := fun _ => false) (fun b hb => by cases hb) _ _ hn h2)).mono ?_
  rintro e w' ⟨r, L', M', m', ⟨hR, rfl⟩, hres, hC'⟩
  have hC2 := hC.after hC'
  have hr := h r hR
  cases r with
  | ret x =>
    cases e with
    | returned u =>
      exact hK _ _ (hr.2 E M' m _ _ hE (hC2.value (dOk_iff hd) (RA.remap (p := fun _ => false) (fun b hb => by cases hb) _ _ hr.1 hres)))
    | panicked c => exact hres.elim
    | outgrown => exact hres.elim
  | panic x =>
    cases e with
    | returned u => exact hres.elim
    | panicked c =>
      obtain ⟨u, rfl, h3⟩ := hres
      exact ⟨M', m, st, .panic x, hC2, hr.2, u, rfl, RA.remap (p := fun _ => false) (fun b hb => by cases hb) _ _ hr.1 h3⟩
    | outgrown => exact hres.elim

/-- A panic of one's own. -/
theorem A_panic {Q : Ax → St → Prop} {st : St} {ops : Array Oper} {o : Oper} {rest : List Oper} {y : Operand} {t : TypeId} {u : Value} (hg : o.guard = none) (ho : o.op = .panic y) (hy : evo (lk st.env) y = some (.d (.v (.iface t u)))) (h : Q (.panic (.d (.v (.iface t u)))) st) : AOps P W0 n ops (o :: rest) Q st := by
  intro E M m a w hE hC
  refine wpList_plain hg fun K hK => ?_
  have h1 := (evo_sound hC.env hy).v_inv.1
  have hr : (execOp a.eval o).run P w = .halt (.panic (.iface t u)) w := by simp [execOp, ho, h1, Instr.panic]
  unfold Oper.wp
  rw [hr, Oper.upon_panic]
  exact ⟨M, m, st, .panic _, hC, h, _, rfl, RA.v_mk rfl⟩
end
end Go.Proofs.YtfbegbpipmgfiaaDoor.Lift
end
section
/- The lift, eighth part: regions without effect, in whatever order. No conditions: words and their laws. -/
set_option linter.unusedVariables false
set_option linter.unusedSimpArgs false
namespace Go.Proofs.YtfbegbpipmgfiaaDoor.Lift
open Go Go.RowKit

section
variable {P : Program} {W0 : World} {n : Nat}

/-- What is known only where a guard holds, where it holds. -/
def resA (g : Bool) : AV → AV
  | .opt g' x => if (!g || g') = true then x else .opt g' x
  | x => x
def resE (g : Bool) (e : Nat → Option AV) : Nat → Option AV := fun t => (e t).map (resA g)
theorem Kn.res {M : Nat → Prop} {m : Nat → Pl} {w : World} {a : Act} {e : Nat → Option AV} (h : Kn M m w a e) {g : Bool} (hg : g = true) : Kn M m w a (resE g e) := by
  intro t x hx
  simp only [resE, Option.map_eq_some_iff] at hx
  obtain ⟨y, h1, rfl⟩ := hx
  have h2 := h t y h1
  unfold resA
  split
  · split
    · rename_i hc
      simp only [RA] at h2
      exact h2.1 (by simpa [hg] using hc)
    · exact h2
  · exact h2

/-- The value of an operation that makes and turns nothing. -/
def opV (P : Program) (e : Nat → Option AV) (bs : List Box) (op : Op) : Option AV := if mkOp op = true then none else (opR P e bs op).map (·.1)
theorem opV_sound {E : En} {M : Nat → Prop} {m : Nat → Pl} {st : St} {a : Act} {w : World} (h : C W0 E M m st a w) {e : Nat → Option AV} (he : Kn M m w a e) {o : Oper} {x : AV} (hx : opV P e st.bs o.op = some x) : ∃ v, (execOp a.eval o).run P w = .ok (.value v) w ∧ RA M m w x v := by
  unfold opV at hx
  split at hx
  · cases hx
  · rename_i hm
    simp only [Option.map_eq_some_iff] at hx
    obtain ⟨⟨y, bs'⟩, h1, rfl⟩ := hx
    rcases opR_sound2 h he h1 with ⟨v, h2, h3, _⟩ | ⟨h2, _⟩
    · exact ⟨v, h2, h3⟩
    · exact (hm h2).elim

/-- A slice built, as data. -/
def bsD (P : Program) (e : Nat → Option AV) (op : Op) : Option AV :=
  match op with
  | .buildSlice T len parts => ((evs e parts.toList).bind (bsV P T len)).bind fun | .vec sz bt l => some (.d (.rows sz bt l)) | _ => none
  | _ => none

/-- An operation that turns nothing, and what it comes to. -/
inductive Q1 (P : Program) (W0 : World) (bs : List Box) (e : Nat → Option AV) (o : Oper) : AV → Prop
  | op (x : AV) (h : opV P e bs o.op = some x) : Q1 P W0 bs e o x
  | data (x : AV) (h : bsD P e o.op = some x) : Q1 P W0 bs e o x
  | call (fo : Operand) (args : Array Operand) (ts : Array TypeId) (f : FuncId) (caps xs : List AV) (y : AV) (ho : o.op = .call ⟨.value fo, args, ts⟩) (hf : evo e fo = some (.fn f caps)) (ha : evl e args.toList = some xs) (hc : callable P f = true)
      (hn : noNames (xs ++ caps) = true) (hr : APure P W0 f (xs ++ caps) fun r => r = .ret y) (hy : noName y = true) : Q1 P W0 bs e o y

def upd (e : Nat → Option AV) (o : Option Nat) (x : AV) : Nat → Option AV := match o with | none => e | some t => fun t' => if t' = t then some x else e t'

/-- The boxes, and what is known of the temporaries. -/
def CE (W0 : World) (E : En) (M : Nat → Prop) (m : Nat → Pl) (N : Nat) (bs : List Box) (e : Nat → Option AV) (a : Act) (w : World) : Prop := C W0 E M m ⟨N, [], bs⟩ a w ∧ Kn M m w a e
theorem CE.of {E : En} {M : Nat → Prop} {m : Nat → Pl} {st : St} {a : Act} {w : World} (h : C W0 E M m st a w) : CE W0 E M m st.N st.bs (lk st.env) a w :=
  ⟨{ h with env := fun t x hx => by simp [lk_nil] at hx, wide := h.wide, mNo := h.mNo, oldv := h.oldv, box := h.box, len := h.len }, h.env⟩
theorem CE.to {E : En} {M : Nat → Prop} {m : Nat → Pl} {N : Nat} {bs : List Box} {env : List (List (Option AV))} {a : Act} {w : World} (h : CE W0 E M m N bs (lk env) a w) : C W0 E M m ⟨N, env, bs⟩ a w :=
  { h.1 with env := h.2, wide := h.1.wide, mNo := h.1.mNo, oldv := h.1.oldv, box := h.1.box, len := h.1.len }
theorem CE.put {E : En} {M : Nat → Prop} {m : Nat → Pl} {N : Nat} {bs : List Box} {e : Nat → Option AV} {a : Act} {w : World} (h : CE W0 E M m N bs e a w) {o : Option Nat} (ho : dOk N o = true) {x : AV} {u : Value} (hx : RA M m w x u) : CE W0 E M m N bs (upd e o x) (a.put o u) w := by
  cases o with
  | none => exact h
  | some t =>
    have ht : t < a.tmps.size := by rw [h.1.wide]; simpa [dOk] using ho
    refine ⟨{ h.1 with env := fun t x hx => by simp [lk_nil] at hx, wide := by simpa [Act.put] using h.1.wide, defers := h.1.defers, mNo := h.1.mNo, oldv := h.1.oldv, box := h.1.box, len := h.1.len }, fun t' y hy => ?_⟩
    simp only [upd] at hy
    simp only [Act.put]
    by_cases e1 : t' = t
    · subst e1
      rw [if_pos rfl] at hy
      cases hy
      simpa [ht] using hx
    · rw [if_neg e1] at hy
      have := h.2 t' y hy
      simpa [Array.getElem?_setIfInBounds, Ne.symm e1] using this

theorem C.chg {E : En} {M M' : Nat → Prop} {m : Nat → Pl} {st : St} {a : Act} {w w' : World} (h : C W0 E M m st a w) (hf : Fr (fun _ => False) w w') (hb : Fr (fun _ => False) W0 w') (hU : ∀ k, M k → M' k) (hM : ∀ k, M' k → M k ∨ w.heap.size ≤ k) (hL : ∀ k, M' k → k < w'.heap.size) : C W0 E M' m st a w' := by
  have hM' : ∀ k, k < w.heap.size → M' k → M k := fun k hk hm => (hM k hm).resolve_right (by omega)
  exact { base := hb, fr := h.fr.trans (Fr.weak hf fun _ _ x => x.elim), eLt := h.eLt, mLow := fun k hk => (hM k hk).elim (h.mLow k) fun h1 => Nat.le_trans h.base.size h1, mUp := fun k hk => hU k (h.mUp k hk), mNew := fun k hk => (hM k hk).elim (h.mNew k) fun hw => .inr (Nat.le_trans h.fr.size hw), mLt := hL, mNo := h.mNo, mIn := fun b k hb => hU k (h.mIn b k hb), inj := h.inj, oldv := h.oldv, oldr := h.oldr, new := h.new, len := h.len, box := fun b x hb => (h.box b x hb).mono hf (fun _ _ x => x.elim) hM' (fun _ _ x => x), env := fun t x hx => RA.mono hf (fun _ _ x => x.elim) hM' x _ (h.env t x hx), wide := h.wide, defers := h.defers }
theorem Kn.chg {M M' : Nat → Prop} {m : Nat → Pl} {a : Act} {w w' : World} {e : Nat → Option AV} (h : Kn M m w a e) (hf : Fr (fun _ => False) w w') (hM : ∀ k, M' k → M k ∨ w.heap.size ≤ k) : Kn M' m w' a e :=
  fun t x hx => RA.mono hf (fun _ _ x => x.elim) (fun k hk hm => (hM k hm).resolve_right (by omega)) x _ (h t x hx)

theorem Q1_sound {E : En} {M : Nat → Prop} {m : Nat → Pl} {N : Nat} {bs : List Box} {e e' : Nat → Option AV} {a : Act} {w : World} (h : CE W0 E M m N bs e a w) (he : Kn M m w a e') {o : Oper} {x : AV} (hq : Q1 P W0 bs e' o x) {K : Act → World → Prop} {Q : Exit → Act → World → Prop}
    (hK : ∀ M' u w', CE W0 E M' m N bs e a w' → RA M' m w' x u → K (a.put o.dst u) w') : o.wp P a w K Q := by
  cases hq with
  | op _ hx =>
    obtain ⟨v, h1, h2⟩ := opV_sound h.1 he hx
    unfold Oper.wp
    rw [h1]
    exact hK M v w h h2
  | data _ hx =>
    unfold bsD at hx
    split at hx
    · rename_i T len parts hop
      simp only [Option.bind_eq_some_iff] at hx
      obtain ⟨bx, ⟨r, h1, h2⟩, h3⟩ := hx
      obtain ⟨h4, h5⟩ := evs_sound he h1
      obtain ⟨Cs, T', sz, bt, ds, hrun, rfl, g1, g2, g3, g4, g5⟩ := bsV_sound (P := P) (w := w) (ps := parts.map fun (i, x) => (i, a.eval x)) (by simp [h4]) (by simpa using h5) h2
      simp only [Option.some.injEq] at h3
      subst h3
      have hex : (execOp a.eval o).run P w = .ok (.value (.slice (some ⟨w.heap.size, 0, none⟩) len len)) (w.alloc (.cells Cs T')) := by
        simp only [execOp, hop, Sem.run_bind, hrun, Result.andThen_ok, Sem.run_pure]
      have hf : Fr (fun _ => False) w (w.alloc (.cells Cs T')) := Fr.alloc w _
      have hL : ∀ k, M k → k < (w.alloc (.cells Cs T')).heap.size := fun k hk => Nat.lt_of_lt_of_le (h.1.mLt k hk) hf.size
      unfold Oper.wp
      rw [hex]
      refine hK M _ _ ⟨h.1.chg hf (h.1.base.trans hf) (fun _ x => x) (fun _ x => .inl x) hL, h.2.chg hf (fun _ x => .inl x)⟩ ?_
      have g6 := RAs.mono (E := fun _ => False) hf (fun _ _ x => x.elim) (M' := M) (fun k hk hx => hx) _ _ g5
      have g7 := vec_ofDs g4 g6
      have nM : ¬ M w.heap.size := fun hk => by have := h.1.mLt _ hk; omega
      simp only [RA]
      have hl : (chunk sz len ds).length = len := chunk_len sz len ds
      have := RD.rows (M := M) (w := w.alloc (.cells Cs T')) sz bt (chunk sz len ds) (some ⟨w.heap.size, 0, none⟩) len (fun i j => Cs.getD (i * sz + j) default) g2 (by rw [hl]; exact g3) (by omega) (fun i row hr => ?_) (fun i row j d hr hd => ?_)
      · rw [hl] at this
        exact this
      · obtain ⟨g8, g9⟩ := g7 i row hr
        refine ⟨g8, w.heap.size, 0, rfl, fun j hj => ⟨nM, ?_⟩⟩
        obtain ⟨u, g10, _⟩ := g9 j row[j] (List.getElem?_eq_getElem (by omega))
        rw [cell_of_row _ _ _ Cs T' (0, 0) (heap_alloc_new w _), Nat.zero_add, g10]
        simp [Array.getD_eq_getD_getElem?, g10]
      · obtain ⟨g8, g9⟩ := g7 i row hr
        obtain ⟨u, g10, g11⟩ := g9 j d hd
        simpa [Array.getD_eq_getD_getElem?, g10] using g11
    · cases hx
  | call fo args ts f caps xs _ ho hf ha hc hn hr hy =>
    have h1 := evo_sound he hf
    simp only [RA] at h1
    obtain ⟨cs, h2, h3⟩ := h1
    have h4 := evl_sound he ha
    have hex : (execOp a.eval o).run P w = .ok (.enter f (args.map a.eval ++ cs)) w := by simp [execOp, ho, resolve, h2, Deferred.ofValue, invoke, run_callFunc hc]
    unfold Oper.wp
    rw [hex, Oper.upon_enter]
    refine (hr M (fun _ => .no) w _ h.1.callee (RAs.remap (p := fun _ => false) (fun b hb => by cases hb) _ _ hn (by simpa using h4.append h3))).mono ?_
    rintro e2 w' ⟨r, L', M', m', ⟨rfl, rfl⟩, hres, hC'⟩
    have hfr : Fr (fun _ => False) w w' := Fr.weak hC'.fr fun k _ ⟨b, hb, _⟩ => by simp at hb
    cases e2 with
    | returned u => exact hK M' u w' ⟨h.1.after hC', h.2.chg hfr hC'.mNew⟩ (RA.remap (p := fun _ => false) (fun b hb => by cases hb) _ _ hy hres)
    | panicked c => exact hres.elim
    | outgrown => exact hres.elim

/-- Whether a guard holds. -/
def gdV (want : Bool) : Option AV → Option Bool
  | some (.d (.v (.bool b))) => some (if want then b else !b)
  | some (.opt g (.d (.v (.bool b)))) => some (g && (if want then b else !b))
  | _ => none
/-- What an operation of a region yields, its guard seen to. -/
def Yl (P : Program) (W0 : World) (bs : List Box) (ops : Array Oper) (e : Nat → Option AV) (o : Oper) (x : AV) : Prop :=
  match o.guard with
  | none => Q1 P W0 bs e o x
  | some (j, want) => ∃ t G y, (ops[j]?).bind (·.dst) = some t ∧ gdV want (e t) = some G ∧ x = .opt G y ∧ (G = true → Q1 P W0 bs (resE G e) o y)

theorem Yl_sound {E : En} {M : Nat → Prop} {m : Nat → Pl} {N : Nat} {bs : List Box} {ops : Array Oper} {e : Nat → Option AV} {a : Act} {w : World} (h : CE W0 E M m N bs e a w) {o : Oper} {x : AV} (hd : dOk N o.dst = true) (hy : Yl P W0 bs ops e o x) {K : Act → World → Prop} {Q : Exit → Act → World → Prop}
    (hK : ∀ M' a' w', CE W0 E M' m N bs (upd e o.dst x) a' w' → K a' w') : if Region.wanted o (yielded ops a.tmps) then o.wp P a w K Q else K (a.put o.dst undef) w := by
  unfold Yl at hy
  cases hg : o.guard with
  | none =>
    simp only [hg] at hy
    rw [if_pos (by simp [Region.wanted, hg])]
    exact Q1_sound h h.2 hy fun M' u w' h1 h2 => hK M' _ _ (h1.put hd h2)
  | some g =>
    obtain ⟨j, want⟩ := g
    simp only [hg] at hy
    obtain ⟨t, G, y, h1, h2, rfl, h3⟩ := hy
    have hw : Region.wanted o (yielded ops a.tmps) = G := by
      have key : ∀ b : Bool, a.tmps.getD t undef = .bool b → yielded ops a.tmps j = some b := by
        intro b h5
        have hlt : t < a.tmps.size := by
          rcases Nat.lt_or_ge t a.tmps.size with h6 | h6
          · exact h6
          · rw [Array.getD_eq_getD_getElem?, Array.getElem?_eq_none h6] at h5
            cases h5
        have h6 : a.tmps[t]? = some (.bool b) := by
          rw [Array.getElem?_eq_getElem hlt]
          rw [← h5]
          rw [Array.getD_eq_getD_getElem?, Array.getElem?_eq_getElem hlt]
          rfl
        simp only [yielded, h1, Option.bind_some, h6]
      have key2 : a.tmps.getD t undef = undef → yielded ops a.tmps j = none := by
        intro h5
        simp only [yielded, h1, Option.bind_some]
        cases h6 : a.tmps[t]? with
        | none => rfl
        | some u =>
          rw [Array.getD_eq_getD_getElem?, h6] at h5
          rw [show u = undef from h5]
          rfl
      have h4 : ∀ x, e t = some x → RA M m w x (a.tmps.getD t undef) := fun x hx => h.2 t x hx
      simp only [Region.wanted, hg]
      cases he : e t with
      | none => rw [he] at h2; cases h2
      | some x =>
        rw [he] at h2
        have h5 := h4 x he
        unfold gdV at h2
        split at h2
        · rename_i b hx
          cases hx
          cases h2
          rw [key b h5.v_inv.1]
          cases b <;> cases want <;> rfl
        · rename_i g b hx
          cases hx
          cases h2
          simp only [RA] at h5
          cases g with
          | false =>
            rw [key2 (h5.2 rfl)]
            rfl
          | true =>
            have h7 := RA.v_inv (M := M) (m := m) (w := w) (x := .bool b) (by simp only [RA]; exact h5.1 rfl)
            rw [key b h7.1]
            cases b <;> cases want <;> rfl
        · cases h2
    rw [hw]
    cases G with
    | true =>
      rw [if_pos rfl]
      exact Q1_sound h (h.2.res rfl) (h3 rfl) fun M' u w' h1 h2 => hK M' _ _ (h1.put hd (by simpa [RA] using h2))
    | false =>
      rw [if_neg (by simp)]
      exact hK M _ _ (h.put hd (by simp [RA]))

theorem evo_congr {e e' : Nat → Option AV} {o : Operand} (h : ∀ t, o = .tmp t → e t = e' t) : evo e o = evo e' o := by
  cases o with
  | tmp t => exact h t rfl
  | _ => rfl
theorem evs_congr {e e' : Nat → Option AV} : ∀ {l : List (Nat × Operand)}, (∀ p ∈ l, ∀ t, p.2 = .tmp t → e t = e' t) → evs e l = evs e' l
  | [], _ => rfl
  | (i, o) :: l, h => by
    simp only [evs]
    rw [evo_congr (h (i, o) (by simp)), evs_congr fun p hp => h p (by simp [hp])]
theorem evl_congr {e e' : Nat → Option AV} : ∀ {l : List Operand}, (∀ o ∈ l, ∀ t, o = .tmp t → e t = e' t) → evl e l = evl e' l
  | [], _ => rfl
  | o :: l, h => by
    simp only [evl]
    rw [evo_congr (h o (by simp)), evl_congr fun p hp => h p (by simp [hp])]
theorem evm_congr {e e' : Nat → Option AV} {o : Option Operand} (h : ∀ t, o = some (.tmp t) → e t = e' t) : evm e o = evm e' o := by
  cases o with
  | none => rfl
  | some o =>
    simp only [evm]
    rw [evo_congr fun t ht => h t (by rw [ht])]

theorem opR_congr {e e' : Nat → Option AV} {bs : List Box} {op : Op} (h : ∀ x ∈ op.operands, ∀ t, x = .tmp t → e t = e' t) : opR P e bs op = opR P e' bs op := by
  have key : ∀ x ∈ op.operands, evo e x = evo e' x := fun x hx => evo_congr (h x hx)
  cases op with
  | build T parts => simp only [opR]; rw [evs_congr fun p hp => h p.2 (by simp [Op.operands]; exact ⟨p.1, by simpa using hp⟩)]
  | buildSlice T n parts => simp only [opR]; rw [evs_congr fun p hp => h p.2 (by simp [Op.operands]; exact ⟨p.1, by simpa using hp⟩)]
  | makeFunc fn first caps =>
    cases fn <;> try rfl
    simp only [opR]
    rw [evl_congr fun p hp => h p (by simp [Op.operands]; exact .inr (by simpa using hp))]
  | slice T x lo hi mx =>
    simp only [opR]
    rw [key x (by simp [Op.operands]), evm_congr fun t ht => h (.tmp t) (by simp [Op.operands, ht]) t rfl, evm_congr fun t ht => h (.tmp t) (by simp [Op.operands, ht]) t rfl, evm_congr (o := mx) fun t ht => h (.tmp t) (by simp [Op.operands, ht]) t rfl]
  | call c =>
    obtain ⟨callee, args, ts⟩ := c
    cases callee with
    | builtin b =>
      have key' : ∀ x ∈ args.toList, evo e x = evo e' x := fun x hx => key x (by simpa [Op.operands, Call.operands] using hx)
      cases b <;> try rfl
      all_goals simp only [opR]
      case len =>
        cases hl : args.toList with
        | nil => rfl
        | cons o l =>
          cases l with
          | nil => cases ts.toList <;> simp [key' o (by simp [hl])]
          | cons => rfl
      case max =>
        split
        · rename_i o o' hl
          rw [key' o (by simp [hl]), key' o' (by simp [hl])]
        · rename_i a b c d hl
          rw [evl_congr (l := [a, b, c, d]) fun p hp => h p (by simp only [Op.operands, Call.operands]; simpa [← hl] using hp)]
        · rfl
      case min =>
        cases hl : args.toList with
        | nil => rfl
        | cons o l =>
          cases l with
          | nil => rfl
          | cons o' l => cases l with
            | nil => simp only [key' o (by simp [hl]), key' o' (by simp [hl])]
            | cons => rfl
    | value f =>
      have key' : ∀ x ∈ args.toList, evo e x = evo e' x := fun x hx => key x (by simp [Op.operands, Call.operands]; exact .inr (by simpa using hx))
      cases f with
      | func f =>
        simp only [opR]
        cases hl : args.toList with
        | nil => cases bitsFn P f <;> rfl
        | cons o l =>
          cases l with
          | nil => cases bitsFn P f <;> simp only [key' o (by simp [hl])]
          | cons => cases bitsFn P f <;> rfl
      | _ => rfl
    | invoke r n => rfl
  | move x => simp only [opR, key x (by simp [Op.operands])]
  | assign x => simp only [opR, key x (by simp [Op.operands])]
  | pick c x y => simp only [opR, key c (by simp [Op.operands]), key x (by simp [Op.operands]), key y (by simp [Op.operands])]
  | load T x => simp only [opR, key x (by simp [Op.operands])]
  | store T x y => simp only [opR, key x (by simp [Op.operands]), key y (by simp [Op.operands])]
  | nilCheck x => simp only [opR, key x (by simp [Op.operands])]
  | binOp op T x y U => simp only [opR, key x (by simp [Op.operands]), key y (by simp [Op.operands])]
  | unOp op T x => simp only [opR, key x (by simp [Op.operands])]
  | convert s d x => simp only [opR, key x (by simp [Op.operands])]
  | makeInterface T x => simp only [opR, key x (by simp [Op.operands])]
  | fieldAddr T x i => simp only [opR, key x (by simp [Op.operands])]
  | field T x i => simp only [opR, key x (by simp [Op.operands])]
  | indexAddr T x i => simp only [opR, key x (by simp [Op.operands]), key i (by simp [Op.operands])]
  | index T x i => simp only [opR, key x (by simp [Op.operands]), key i (by simp [Op.operands])]
  | extract x i => simp only [opR, key x (by simp [Op.operands])]
  | typeAssert x xT T ok => simp only [opR, key x (by simp [Op.operands])]
  | box T x => simp only [opR, key x (by simp [Op.operands])]
  | makeMap T r => cases r <;> rfl
  | lookup T x i ok => cases ok <;> simp only [opR, key x (by simp [Op.operands]), key i (by simp [Op.operands])]
  | mapUpdate T x i y => simp only [opR, key x (by simp [Op.operands]), key i (by simp [Op.operands]), key y (by simp [Op.operands])]
  | insert T x i y => simp only [opR, key x (by simp [Op.operands]), key i (by simp [Op.operands]), key y (by simp [Op.operands])]
  | _ => rfl

theorem Q1_congr {bs : List Box} {e e' : Nat → Option AV} {o : Oper} {x : AV} (h : ∀ y ∈ o.op.operands, ∀ t, y = .tmp t → e t = e' t) (hq : Q1 P W0 bs e o x) : Q1 P W0 bs e' o x := by
  cases hq with
  | op _ hx => exact .op x (by unfold opV at hx ⊢; rwa [← opR_congr h])
  | data _ hx =>
    refine .data x ?_
    unfold bsD at hx ⊢
    split at hx
    · rename_i T len parts hop
      rw [hop] at h
      rw [← evs_congr (e := e) fun p hp => h p.2 (by simp [Op.operands]; exact ⟨p.1, by simpa using hp⟩)]
      exact hx
    · cases hx
  | call fo args ts f caps xs _ ho hf ha hc hn hr hy =>
    rw [ho] at h
    refine .call fo args ts f caps xs x ho ?_ ?_ hc hn hr hy
    · rw [← evo_congr (e := e) (h fo (by simp [Op.operands, Call.operands]))]
      exact hf
    · rw [← evl_congr (e := e) fun y hy => h y (by simp [Op.operands, Call.operands]; exact .inr (by simpa using hy))]
      exact ha
theorem Yl_congr {bs : List Box} {ops : Array Oper} {e e' : Nat → Option AV} {o : Oper} {x : AV} (h : ∀ t ∈ o.looksAt ops, e t = e' t) (hq : Yl P W0 bs ops e o x) : Yl P W0 bs ops e' o x := by
  have hop : ∀ y ∈ o.op.operands, ∀ t, y = .tmp t → e t = e' t := fun y hy t ht => h t (List.mem_append_left _ (List.mem_filterMap.2 ⟨.tmp t, by subst ht; simpa using hy, rfl⟩))
  unfold Yl at hq ⊢
  cases hg : o.guard with
  | none =>
    simp only [hg] at hq ⊢
    exact Q1_congr hop hq
  | some g =>
    obtain ⟨j, want⟩ := g
    simp only [hg] at hq ⊢
    obtain ⟨t, b, y, h1, h2, h3, h4⟩ := hq
    refine ⟨t, b, y, h1, ?_, h3, fun hgv => Q1_congr (fun z hz t' ht' => ?_) (h4 hgv)⟩
    · rw [← h t (List.mem_append_right _ (by simp [hg, h1]))]
      exact h2
    · unfold resE
      rw [hop z hz t' ht']
theorem upd_comm (e : Nat → Option AV) {o o' : Option Nat} (x x' : AV) (h : ∀ d, o = some d → o' ≠ some d) : upd (upd e o x) o' x' = upd (upd e o' x') o x := by
  cases o with
  | none => rfl
  | some d =>
    cases o' with
    | none => rfl
    | some d' =>
      have hne : d ≠ d' := fun he => h d rfl (he ▸ rfl)
      funext t
      simp only [upd]
      split
      · rename_i e1
        subst e1
        rw [if_neg (Ne.symm hne)]
      · rfl
theorem Yl_upd {bs : List Box} {ops : Array Oper} {e : Nat → Option AV} {o : Oper} {x : AV} {d : Option Nat} {y : AV} (h : ∀ t, d = some t → t ∉ o.looksAt ops) : Yl P W0 bs ops (upd e d y) o x ↔ Yl P W0 bs ops e o x := by
  have key : ∀ t ∈ o.looksAt ops, upd e d y t = e t := fun t ht => by
    cases d with
    | none => rfl
    | some d =>
      simp only [upd]
      rw [if_neg]
      rintro rfl
      exact h t rfl ht
  exact ⟨Yl_congr key, Yl_congr fun t ht => (key t ht).symm⟩

/-- Whatever order is picked from here on. -/
def qO (P : Program) (W0 : World) (bs : List Box) (ops : Array Oper) (i : Nat) (K : (Nat → Option AV) → Prop) (e : Nat → Option AV) : Prop := match ops[i]? with | none => K e | some o => ∃ x, Yl P W0 bs ops e o x ∧ K (upd e o.dst x)
def anyO (P : Program) (W0 : World) (bs : List Box) (md : Region.Mode) (ops : Array Oper) (Q : (Nat → Option AV) → Prop) : Nat → Array Bool → (Nat → Option AV) → Prop
  | 0, listed, e => Region.ready md ops listed = [] ∧ Q e
  | fuel + 1, listed, e => (Region.ready md ops listed = [] → Q e) ∧ ∀ i ∈ Region.ready md ops listed, qO P W0 bs ops i (anyO P W0 bs md ops Q fuel (listed.setIfInBounds i true)) e

theorem wpAny_of {E : En} {m : Nat → Pl} {N : Nat} {bs : List Box} {md : Region.Mode} {ops : Array Oper} {Q : (Nat → Option AV) → Prop} {Q' : Exit → Act → World → Prop} (hd : ∀ (i : Nat) (o : Oper), ops[i]? = some o → dOk N o.dst = true) (hQ : ∀ M e a w, CE W0 E M m N bs e a w → Q e → Q' .normal a w) :
    ∀ (fuel : Nat) (listed : Array Bool) (M : Nat → Prop) (e : Nat → Option AV) (a : Act) (w : World), CE W0 E M m N bs e a w → anyO P W0 bs md ops Q fuel listed e → wpAny P md ops Q' fuel listed a w
  | 0, _, M, e, a, w, hw, h => ⟨h.1, hQ M e a w hw h.2⟩
  | fuel + 1, listed, M, e, a, w, hw, h => ⟨fun h0 => hQ M e a w hw (h.1 h0), fun i hi => by
      have h1 := h.2 i hi
      unfold qO at h1
      unfold wpOp
      split
      · rename_i ho
        simp only [ho] at h1
        exact wpAny_of hd hQ fuel _ M e a w hw h1
      · rename_i o ho
        simp only [ho] at h1
        obtain ⟨x, hy, hk⟩ := h1
        have := Yl_sound (K := wpAny P md ops Q' fuel (listed.setIfInBounds i true)) (Q := Q') hw (hd i o ho) hy fun M' a' w' hc => wpAny_of hd hQ fuel _ M' _ a' w' hc hk
        split
        · rename_i hwt
          rw [if_pos hwt] at this
          exact .inl this
        · rename_i hwt
          rw [if_neg hwt] at this
          exact this⟩

theorem anyO_first {bs : List Box} {md : Region.Mode} {ops : Array Oper} {Q : (Nat → Option AV) → Prop} {i : Nat} {oi : Oper} {x : AV} (hi : ops[i]? = some oi) :
    ∀ (fuel : Nat) (listed : Array Bool) (e : Nat → Option AV),
      (∀ j oj, ops[j]? = some oj → j ≠ i → listed.getD j true = false → (∀ e ∈ oj.after, Region.binds md e = true → e.on ≠ i) → oi.apart ops oj = true) →
      i ∈ Region.ready md ops listed → Yl P W0 bs ops e oi x →
      anyO P W0 bs md ops Q fuel (listed.setIfInBounds i true) (upd e oi.dst x) → anyO P W0 bs md ops Q (fuel + 1) listed e := by
  intro fuel
  have own : ∀ (K : (Nat → Option AV) → Prop) (e : Nat → Option AV), Yl P W0 bs ops e oi x → K (upd e oi.dst x) → qO P W0 bs ops i K e := fun K e hy hk => by
    unfold qO
    simp only [hi]
    exact ⟨x, hy, hk⟩
  induction fuel with
  | zero =>
    intro listed e _ hr hy H
    refine ⟨fun h => (by rw [h] at hr; cases hr), fun j hj => ?_⟩
    by_cases hji : j = i
    · subst hji; exact own _ _ hy H
    · have := ready_mono hj hji
      rw [H.1] at this
      cases this
  | succ fuel ih =>
    intro listed e hfree hr hy H
    refine ⟨fun h => (by rw [h] at hr; cases hr), fun j hj => ?_⟩
    by_cases hji : j = i
    · subst hji; exact own _ _ hy H
    · have h1 := H.2 j (ready_mono hj hji)
      obtain ⟨hjun, oj, hoj, hall⟩ := mem_ready.1 hj
      have hnot : ∀ e ∈ oj.after, Region.binds md e = true → e.on ≠ i := fun e he hb heq => by
        have h1 := hall e he hb
        have h0 := (mem_ready.1 hr).1
        rw [heq] at h1
        rcases Nat.lt_or_ge i listed.size with h' | h'
        · simp [h'] at h0 h1; rw [h0] at h1; cases h1
        · simp [Array.getElem?_eq_none h'] at h1
      obtain ⟨p1, p2, p3⟩ := Oper.apart_spec (hfree j oj hoj hji hjun hnot)
      have hfree' : ∀ k ok, ops[k]? = some ok → k ≠ i → (listed.setIfInBounds j true).getD k true = false →
          (∀ e ∈ ok.after, Region.binds md e = true → e.on ≠ i) → oi.apart ops ok = true := fun k ok hk hki hun hno => by
        refine hfree k ok hk hki ?_ hno
        by_cases hjk : j = k
        · subst hjk; exact hjun
        · rw [getD_set_ne true hjk] at hun; exact hun
      unfold qO at h1 ⊢
      simp only [hoj] at h1 ⊢
      obtain ⟨y, hy1, hy2⟩ := h1
      refine ⟨y, (Yl_upd p1).1 hy1, ih (listed.setIfInBounds j true) _ hfree' (ready_mono hr (Ne.symm hji)) ((Yl_upd p3).2 hy) ?_⟩
      rw [Array.setIfInBounds_comm _ _ hji, ← upd_comm e x y p2]
      exact hy2

def putL (o : Option Nat) (x : AV) (env : List (List (Option AV))) : List (List (Option AV)) := match o with | none => env | some t => putE env t x
theorem lk_putL (o : Option Nat) (x : AV) (env : List (List (Option AV))) : lk (putL o x env) = upd (lk env) o x := by
  cases o with
  | none => rfl
  | some t =>
    funext t'
    simp only [putL, lk_putE, upd]
/-- The order of the text. -/
def aqs (P : Program) (W0 : World) (bs : List Box) (ops : Array Oper) (K : List (List (Option AV)) → Prop) : List Oper → List (List (Option AV)) → Prop
  | [], env => K env
  | o :: l, env => ∃ x, Yl P W0 bs ops (lk env) o x ∧ aqs P W0 bs ops K l (putL o.dst x env)

theorem anyO_lex {bs : List Box} {md : Region.Mode} {ops : Array Oper} {Q : (Nat → Option AV) → Prop} : ∀ (l : List Oper) (k : Nat) (listed : Array Bool) (env : List (List (Option AV))), (∀ j : Nat, l[j]? = ops[k + j]?) →
    Region.lexFrom md ops l.length k listed = true → aqs P W0 bs ops (fun env => Q (lk env)) l env → anyO P W0 bs md ops Q l.length listed (lk env)
  | [], _, _, _, _, hB, h => ⟨by simpa [Region.lexFrom] using hB, h⟩
  | o :: l, k, listed, env, hl, hB, h => by
    have h0 : ops[k]? = some o := by simpa using (hl 0).symm
    simp only [List.length_cons, Region.lexFrom, Bool.and_eq_true] at hB
    obtain ⟨⟨hr, hf⟩, hB'⟩ := hB
    obtain ⟨x, hy, hk⟩ := h
    refine anyO_first h0 l.length listed (lk env) (Region.free_spec h0 hf) (by simpa using hr) hy ?_
    rw [← lk_putL]
    exact anyO_lex l (k + 1) _ _ (fun j => by have := hl (j + 1); simpa [Nat.add_assoc, Nat.add_comm 1 j] using this) hB' hk

/-- A region that asks for its order, and turns nothing. -/
theorem A_quiet {Q : Ax → St → Prop} {st : St} {id : Nat} {l : List Oper} (hm : P.follows .mixedOrders = true) (hB : Region.lexB .any l.toArray = true) (hd : l.all (okO st.N) = true)
    (h : aqs P W0 st.bs l.toArray (fun env => Q .normal ⟨st.N, env, st.bs⟩) l st.env) : ACode P W0 n (.region id l.toArray true) Q st := by
  intro E M m a w hn hC
  have hd' : ∀ (i : Nat) (o : Oper), l.toArray[i]? = some o → dOk st.N o.dst = true := fun i o ho => okO_d (List.all_eq_true.1 hd o (List.mem_of_getElem? (by simpa using ho)))
  simp only [Region.lexB, Bool.and_eq_true] at hB
  have h2 : aqs P W0 st.bs l.toArray (fun env => ∃ env', lk env' = lk env ∧ Q .normal ⟨st.N, env', st.bs⟩) l st.env := by
    have mono : ∀ (l' : List Oper) (env : List (List (Option AV))), aqs P W0 st.bs l.toArray (fun env => Q .normal ⟨st.N, env, st.bs⟩) l' env → aqs P W0 st.bs l.toArray (fun env => ∃ env', lk env' = lk env ∧ Q .normal ⟨st.N, env', st.bs⟩) l' env := by
      intro l'
      induction l' with
      | nil => exact fun env h => ⟨env, rfl, h⟩
      | cons o l' ih => exact fun env ⟨x, h1, h2⟩ => ⟨x, h1, ih _ h2⟩
    exact mono _ _ h
  refine wpR_region_any LQ_in (okO_n hd) hm (wpAny_of (P := P) (Q := fun e => ∃ env', lk env' = e ∧ Q .normal ⟨st.N, env', st.bs⟩) hd' (fun M e a w hc ⟨env', he, hq⟩ => ⟨M, m, ⟨st.N, env', st.bs⟩, .normal, CE.to (by rw [he]; exact hc), hq, trivial⟩) _ _ M (lk st.env) a _ (CE.of hC.drew) ?_)
  have := anyO_lex (P := P) (W0 := W0) (bs := st.bs) (md := .any) (ops := l.toArray) (Q := fun e => ∃ env', lk env' = e ∧ Q .normal ⟨st.N, env', st.bs⟩) l 0 (Array.replicate l.length false) st.env (by simp) (by simpa using hB.2) h2
  simpa using this

/-- A region in the order of the text that turns nothing. -/
theorem A_calm {Q : Ax → St → Prop} {st : St} {id : Nat} {l : List Oper} (hd : l.all (okO st.N) = true)
    (h : aqs P W0 st.bs l.toArray (fun env => Q .normal ⟨st.N, env, st.bs⟩) l st.env) : ACode P W0 n (.region id l.toArray false) Q st := by
  refine A_region (fun E M m a w hn hC => ?_) (okO_n hd)
  have key : ∀ (l' : List Oper), (∀ o ∈ l', dOk st.N o.dst = true) → ∀ (env : List (List (Option AV))) (M : Nat → Prop) (a : Act) (w : World), CE W0 E M m st.N st.bs (lk env) a w → aqs P W0 st.bs l.toArray (fun env => Q .normal ⟨st.N, env, st.bs⟩) l' env → wpList P l.toArray (LQ W0 E Q) l' a w := by
    intro l'
    induction l' with
    | nil => exact fun _ env M a w hc hq => wpList_nil ⟨M, m, _, .normal, hc.to, hq, trivial⟩
    | cons o l' ih =>
      intro hd env M a w hc ⟨x, hy, hk⟩
      refine wpList_step fun K hK => Yl_sound hc (hd o (by simp)) hy fun M' a' w' hc' => hK _ _ (ih (fun o ho => hd o (by simp [ho])) _ M' a' w' (by rw [lk_putL]; exact hc') hk)
  exact key l (fun o ho => okO_d (List.all_eq_true.1 hd o ho)) st.env M a w (CE.of hC) h

end
end Go.Proofs.YtfbegbpipmgfiaaDoor.Lift
end
section
/- The lift, ninth part: what is known is let go; loops; rows that grow. No conditions: words and their laws. -/
set_option linter.unusedVariables false
set_option linter.unusedSimpArgs false
namespace Go.Proofs.YtfbegbpipmgfiaaDoor.Lift
open Go Go.RowKit

section
variable {P : Program} {W0 : World} {n : Nat}

/-- One says no more than the other. -/
def LeD (d d' : D) : Prop := ∀ (M : Nat → Prop) w u, RD M w d u → RD M w d' u
def Le (x x' : AV) : Prop := ∀ M m w u, RA M m w x u → RA M m w x' u
def LeL (l l' : List AV) : Prop := ∀ M m w us, RAs M m w l us → RAs M m w l' us
theorem Le.refl (x : AV) : Le x x := fun _ _ _ _ h => h
theorem Le.junk (x : AV) : Le x .junk := fun _ _ _ _ _ => by simp only [RA]
theorem LeD.refl (d : D) : LeD d d := fun _ _ _ h => h
theorem LeD.nil {sz bt : Nat} (h : 0 < bt) : LeD .e (.rows sz bt []) := fun _ _ _ hr => hr.nil sz bt h
theorem Le.d {d d' : D} (h : LeD d d') : Le (.d d) (.d d') := fun M m w u hr => by
  simp only [RA] at hr ⊢
  exact h M w u hr
theorem Le.nil {sz bt : Nat} (h : 0 < bt) : Le (.d .e) (.d (.rows sz bt [])) := Le.d (LeD.nil h)
theorem LeL.nil : LeL [] [] := fun _ _ _ _ h => h
theorem LeL.cons {x x' : AV} {l l' : List AV} (h : Le x x') (h' : LeL l l') : LeL (x :: l) (x' :: l') := fun M m w us hr => by
  cases us with
  | nil => simp only [RAs] at hr
  | cons u us =>
    simp only [RAs] at hr ⊢
    exact ⟨h _ _ _ _ hr.1, h' _ _ _ _ hr.2⟩
theorem LeL.refl (l : List AV) : LeL l l := fun _ _ _ _ h => h
theorem Le.agg {l l' : List AV} (h : LeL l l') : Le (.agg l) (.agg l') := fun M m w u hr => by
  simp only [RA] at hr ⊢
  obtain ⟨us, h1, h2⟩ := hr
  exact ⟨us, h1, h _ _ _ _ h2⟩
theorem Le.tup {l l' : List AV} (h : LeL l l') : Le (.tup l) (.tup l') := fun M m w u hr => by
  simp only [RA] at hr ⊢
  obtain ⟨us, h1, h2⟩ := hr
  exact ⟨us, h1, h _ _ _ _ h2⟩
theorem LeD.rows {sz bt : Nat} {l l' : List (List D)} (hl : l.length = l'.length) (h : ∀ (i : Nat) (r r' : List D), l[i]? = some r → l'[i]? = some r' → r.length = r'.length ∧ ∀ (j : Nat) (d d' : D), r[j]? = some d → r'[j]? = some d' → LeD d d') : LeD (.rows sz bt l) (.rows sz bt l') := by
  intro M w u hr
  obtain ⟨A, c, U, rfl, hA, hU⟩ := hr.rows_inv
  have hb := hr.rows_len
  have hc : l.length ≤ c := by
    cases hr
    assumption
  rw [hl]
  refine .rows sz bt l' A c U hb.1 (hl ▸ hb.2) (hl ▸ hc) (fun i r' hi => ?_) (fun i r' j d' hi hj => ?_)
  · have hlt : i < l.length := by rw [hl]; exact (List.getElem?_eq_some_iff.1 hi).1
    obtain ⟨h1, h2⟩ := hA i _ (List.getElem?_eq_getElem hlt)
    exact ⟨(h i _ r' (List.getElem?_eq_getElem hlt) hi).1 ▸ h1, h2⟩
  · have hlt : i < l.length := by rw [hl]; exact (List.getElem?_eq_some_iff.1 hi).1
    obtain ⟨h1, h2⟩ := h i _ r' (List.getElem?_eq_getElem hlt) hi
    have hjlt : j < l[i].length := by rw [h1]; exact (List.getElem?_eq_some_iff.1 hj).1
    exact h2 j _ d' (List.getElem?_eq_getElem hjlt) hj M w _ (hU i _ j _ (List.getElem?_eq_getElem hlt) (List.getElem?_eq_getElem hjlt))

/-- From one state to another that says no more. -/
def Sb (W0 : World) (n : Nat) (st st' : St) : Prop := ∀ E M m a w, E.n = n → C W0 E M m st a w → ∃ M' m', C W0 E M' m' st' a w
theorem Sb.refl (st : St) : Sb W0 n st st := fun E M m a w _ h => ⟨M, m, h⟩
theorem Sb.trans {a b c : St} (h : Sb W0 n a b) (h' : Sb W0 n b c) : Sb W0 n a c := fun E M m x w hn hc => let ⟨M', m', h1⟩ := h E M m x w hn hc; h' E M' m' x w hn h1
theorem A_sub {Q : Ax → St → Prop} {c : Code} {st : St} (st' : St) (hs : Sb W0 n st st') (h : ACode P W0 n c Q st') : ACode P W0 n c Q st := fun E M m a w hn hc => let ⟨M', m', h1⟩ := hs E M m a w hn hc; h E M' m' a w hn h1
theorem O_sub {Q : Ax → St → Prop} {ops : Array Oper} {l : List Oper} {st : St} (st' : St) (hs : Sb W0 n st st') (h : AOps P W0 n ops l Q st') : AOps P W0 n ops l Q st := fun E M m a w hn hc => let ⟨M', m', h1⟩ := hs E M m a w hn hc; h E M' m' a w hn h1

def eSub (env : List (List (Option AV))) : List (Nat × AV) → Prop
  | [] => True
  | (t, x) :: l => (∃ y, lk env t = some y ∧ Le y x) ∧ eSub env l
theorem eSub_lk {env : List (List (Option AV))} : ∀ {l : List (Nat × AV)} {t : Nat} {x : AV}, eSub env l → lkA l t = some x → ∃ y, lk env t = some y ∧ Le y x
  | [], t, x, _, h => by simp [lkA] at h
  | (t', x') :: l, t, x, hs, h => by
    simp only [eSub] at hs
    simp only [lkA] at h
    split at h
    · rename_i e
      subst e
      cases h
      exact hs.1
    · exact eSub_lk hs.2 h
/-- The boxes that are named are among the first so many. -/
def envBelow (k : Nat) (env : List (Nat × AV)) : Bool := env.all fun p => p.2.names fun b => decide (b < k)
def boxBelow (k : Nat) : Box → Bool
  | .var cs | .own _ _ cs => namesAll (fun b => decide (b < k)) cs
  | _ => true

theorem BoxR.cut {M : Nat → Prop} {m m' : Nat → Pl} {w : World} {b k : Nat} {x : Box} (h : BoxR M m w b x) (hk : boxBelow k x = true) (hb : b < k) (hm : ∀ b, b < k → m' b = m b) : BoxR M m' w b x := by
  cases x with
  | dead => trivial
  | var cs =>
    obtain ⟨q, C, T, h1, h2, h3⟩ := h
    exact ⟨q, C, T, (hm b hb).trans h1, h2, RAs.remap (fun b hb _ => hm b (by simpa using hb)) _ _ hk h3⟩
  | vec sz bt l =>
    obtain ⟨h0, h1, h2, h3⟩ := h
    refine ⟨h0, h1, h2, ?_⟩
    rcases h3 with ⟨h4, h5⟩ | ⟨q, C, T, h4, h5⟩
    · exact .inl ⟨(hm b hb).trans h4, h5⟩
    · exact .inr ⟨q, C, T, (hm b hb).trans h4, h5⟩
  | mp es =>
    obtain ⟨q, F, c, h1, h2⟩ := h
    exact ⟨q, F, c, (hm b hb).trans h1, h2⟩
  | own sz bt cs =>
    obtain ⟨h0, h1, h2, h3⟩ := h
    refine ⟨h0, h1, h2, ?_⟩
    rcases h3 with ⟨h4, h5⟩ | ⟨q, C, T, h4, h5, h6, h7⟩
    · exact .inl ⟨(hm b hb).trans h4, h5⟩
    · exact .inr ⟨q, C, T, (hm b hb).trans h4, h5, h6, RAs.remap (fun b hb _ => hm b (by simpa using hb)) _ _ hk h7⟩

theorem lk_mem : ∀ {l : List (Nat × AV)} {t : Nat} {x : AV}, lkA l t = some x → (t, x) ∈ l
  | [], t, x, h => by simp [lkA] at h
  | (t', x') :: l, t, x, h => by
    simp only [lkA] at h
    split at h
    · rename_i e
      subst e
      cases h
      simp
    · exact List.mem_cons_of_mem _ (lk_mem h)

/-- Some temporaries and the last boxes are let go. -/
theorem Sb.mk {st : St} {N : Nat} {env : List (Nat × AV)} {bs : List Box} (hN : N = st.N) (he : eSub st.env env) (hb : ∃ ex, st.bs = bs ++ ex) (hl : n ≤ bs.length) (h1 : envBelow bs.length env = true) (h2 : bs.all (boxBelow bs.length) = true) : Sb W0 n st ⟨N, ofL env, bs⟩ := by
  intro E M m a w hn h
  obtain ⟨ex, hbs⟩ := hb
  have hm : ∀ b, b < bs.length → (fun b => if b < bs.length then m b else Pl.no) b = m b := fun b hb => if_pos hb
  have at_ : ∀ b k, (if b < bs.length then m b else Pl.no) = .at_ k → b < bs.length ∧ m b = .at_ k := fun b k hk => by
    split at hk
    · exact ⟨by assumption, hk⟩
    · cases hk
  have get : ∀ b x, bs[b]? = some x → st.bs[b]? = some x := fun b x hx => by
    rw [hbs, List.getElem?_append_left (List.getElem?_eq_some_iff.1 hx).1]
    exact hx
  refine ⟨M, fun b => if b < bs.length then m b else .no, { h with mNo := fun b hb => if_neg (by simp only at hb; omega), mIn := fun b k hk => h.mIn b k (at_ b k hk).2, inj := fun b b' k hk hk' => h.inj b b' k (at_ b k hk).2 (at_ b' k hk').2, oldv := ?_, oldr := fun b k hb hk => h.oldr b k hb (at_ b k hk).2, new := fun b k hb hk => h.new b k hb (at_ b k hk).2, len := by simp only; omega, box := ?_, env := ?_, wide := by simp only; rw [hN]; exact h.wide }⟩
  · intro b cs hb hc
    rw [if_pos (List.getElem?_eq_some_iff.1 hc).1]
    exact h.oldv b cs hb (get b _ hc)
  · intro b x hx
    have hlt := (List.getElem?_eq_some_iff.1 hx).1
    exact (h.box b x (get b x hx)).cut (List.all_eq_true.1 h2 x (List.mem_of_getElem? hx)) hlt hm
  · intro t x hx
    simp only [lk_ofL] at hx
    obtain ⟨y, h3, h4⟩ := eSub_lk he hx
    exact RA.remap (p := fun b => decide (b < bs.length)) (fun b hb _ => hm b (by simpa using hb)) x _ (List.all_eq_true.1 h1 _ (lk_mem hx)) (h4 _ _ _ _ (h.env t y h3))

/-- A loop, its rounds' heads numbered by what falls. -/
theorem A_loop {σ : Type} {Q : Ax → St → Prop} {st : St} {c : Code} (S : σ → St) (μ : σ → Nat) (s0 : σ) (h0 : Sb W0 n st (S s0)) (round : ∀ s, ACode P W0 n c (Thn (fun st' => ∃ s', μ s' < μ s ∧ Sb W0 n st' (S s')) Q) (S s)) : ACode P W0 n (.loop c) Q st := by
  intro E M m a w hn hc
  obtain ⟨M0, m0, hc0⟩ := h0 E M m a w hn hc
  refine wpR_loop_ghost (fun k a w => ∃ s M m, μ s = k ∧ C W0 E M m (S s) a w) (μ s0) ⟨s0, M0, m0, rfl, hc0⟩ fun k a w => ?_
  rintro ⟨s, M, m, rfl, hs⟩
  refine wpR_mono (round s E M m a w hn hs) ?_
  rintro e a' w' ⟨M', m', st', ax, h1, h2, h3⟩
  cases ax with
  | normal =>
    cases e <;> simp only [ExR] at h3
    obtain ⟨s', h4, h5⟩ := h2
    obtain ⟨M'', m'', h6⟩ := h5 E M' m' a' w' hn h1
    exact ⟨μ s', h4, s', M'', m'', rfl, h6⟩
  | exit i =>
    cases e <;> simp only [ExR] at h3
    exact ⟨M', m', st', _, h1, h2, h3⟩
  | goto i =>
    cases e <;> simp only [ExR] at h3
    exact ⟨M', m', st', _, h1, h2, h3⟩
  | ret =>
    cases e <;> simp only [ExR] at h3
    exact ⟨M', m', st', _, h1, h2, trivial⟩
  | panic x =>
    cases e <;> simp only [ExR] at h3
    exact ⟨M', m', st', _, h1, h2, h3⟩

/-- A function that was handed no box is done. -/
theorem fin_pure {st : St} {x x' : AV} (hn : noName x' = true) (hle : Le x x') : Fin W0 0 st x [] x' := by
  intro E M m a w u hE h hx
  refine ⟨M, fun _ => .no, { h.bare with mNo := (fun _ _ => rfl), mIn := (fun b k hb => (by cases hb)), inj := (fun b b' k hb => (by cases hb)), oldv := (fun b cs hb hc => (by simp at hc)), oldr := (fun b k hb hk => (by cases hk)), new := (fun b k hb hk => (by cases hk)), len := (by simp [hE]), box := (fun b x hb => (by simp at hb)), env := (fun t x hx => (by simp [lk_nil] at hx)) }, ?_⟩
  exact RA.remap (p := fun _ => false) (fun b hb => by cases hb) x' u hn (hle _ _ _ _ hx)

mutual
/-- A box is no more what it was: whoever names it knows nothing. -/
def killA (b : Nat) : AV → AV
  | .ptr b' j => if b' = b then .junk else .ptr b' j
  | .ep b' sz i j => if b' = b then .junk else .ep b' sz i j
  | .sl b' sz lo n => if b' = b then .junk else .sl b' sz lo n
  | .fn f l => .fn f (killL b l)
  | .yd r ts l => .yd r ts (killL b l)
  | .agg l => .agg (killL b l)
  | .tup l => .tup (killL b l)
  | .opt g x => .opt g (killA b x)
  | .mref b' => if b' = b then .junk else .mref b'
  | x => x
def killL (b : Nat) : List AV → List AV
  | [] => []
  | x :: l => killA b x :: killL b l
end
mutual
theorem RA.kill {M : Nat → Prop} {m m' : Nat → Pl} {w : World} {b : Nat} (hm : ∀ b', b' ≠ b → m' b' = m b') : ∀ (x : AV) (u : Value), RA M m w x u → RA M m' w (killA b x) u
  | .d x, u, h => by simpa only [killA, RA] using h
  | .dp ds, u, h => by simpa only [killA, RA] using h
  | .ptr b' j, u, h => by
    simp only [killA]
    split
    · simp only [RA]
    · rename_i e
      simp only [RA] at h ⊢
      rwa [hm b' e]
  | .ep b' sz i j, u, h => by
    simp only [killA]
    split
    · simp only [RA]
    · rename_i e
      simp only [RA] at h ⊢
      rwa [hm b' e]
  | .sl b' sz lo n, u, h => by
    simp only [killA]
    split
    · simp only [RA]
    · rename_i e
      simp only [RA] at h ⊢
      rwa [hm b' e]
  | .fn f l, u, h => by
    simp only [killA, RA] at h ⊢
    obtain ⟨us, h1, h2⟩ := h
    exact ⟨us, h1, RAs.kill hm _ _ h2⟩
  | .yd r ts l, u, h => by
    simp only [killA, RA] at h ⊢
    obtain ⟨k, h1, g1, g2, h2⟩ := h
    exact ⟨k, h1, g1, g2, RAs.kill hm _ _ h2⟩
  | .agg l, u, h => by
    simp only [killA, RA] at h ⊢
    obtain ⟨us, h1, h2⟩ := h
    exact ⟨us, h1, RAs.kill hm _ _ h2⟩
  | .tup l, u, h => by
    simp only [killA, RA] at h ⊢
    obtain ⟨us, h1, h2⟩ := h
    exact ⟨us, h1, RAs.kill hm _ _ h2⟩
  | .opt g x, u, h => by
    simp only [killA, RA] at h ⊢
    exact ⟨fun hg => RA.kill hm x u (h.1 hg), h.2⟩
  | .mref b', u, h => by
    simp only [killA]
    split
    · simp only [RA]
    · rename_i e
      simp only [RA] at h ⊢
      rwa [hm b' e]
  | .junk, u, h => by simp only [killA, RA]
theorem RAs.kill {M : Nat → Prop} {m m' : Nat → Pl} {w : World} {b : Nat} (hm : ∀ b', b' ≠ b → m' b' = m b') : ∀ (l : List AV) (us : List Value), RAs M m w l us → RAs M m' w (killL b l) us
  | [], [], h => by simp only [killL, RAs]
  | x :: l, u :: us, h => by
    simp only [killL, RAs] at h ⊢
    exact ⟨RA.kill hm x u h.1, RAs.kill hm l us h.2⟩
  | [], _ :: _, h => by simp only [RAs] at h
  | _ :: _, [], h => by simp only [RAs] at h
end
def killE (b : Nat) (e : List (List (Option AV))) : List (List (Option AV)) := mapE (killA b) e
def killB (b : Nat) : Box → Box
  | .var cs => .var (killL b cs)
  | .own sz bt cs => .own sz bt (killL b cs)
  | x => x
theorem killL_len (b : Nat) : ∀ l : List AV, (killL b l).length = l.length
  | [] => rfl
  | x :: l => by simp only [killL, List.length_cons, killL_len b l]
theorem lk_killE {b : Nat} {l : List (List (Option AV))} {t : Nat} {x : AV} (h : lk (killE b l) t = some x) : ∃ y, lk l t = some y ∧ x = killA b y := by
  rw [killE, lk_mapE, Option.map_eq_some_iff] at h
  obtain ⟨y, h1, h2⟩ := h
  exact ⟨y, h1, h2.symm⟩

/-- A row of the call's own lies elsewhere now, and holds other elements. -/
theorem C.regrowG {E : En} {M : Nat → Prop} {m : Nat → Pl} {st : St} {a : Act} {w w' : World} (h : C W0 E M m st a w) {b k : Nat} {x y : Box} (hb : st.bs[b]? = some x)
    {Cn : Array Value} {T : TypeId} (hw : w'.heap[k]? = some (Obj.cells Cn T (0, 0))) (hyv : ∀ cs, y ≠ .var cs)
    (hcase : (m b = .at_ k ∧ Fr (fun i => i = k) w w') ∨ (w.heap.size ≤ k ∧ Fr (fun _ => False) w w'))
    (hbox : (∀ b', b' ≠ b → mAdd m b (.at_ k) b' = m b') → Fr (fun i => i = k) w w' → (∀ i, i < w.heap.size → i = k → M i) → (∀ i, i < w.heap.size → (M i ∨ i = k) → M i) → BoxR (fun i => M i ∨ i = k) (mAdd m b (.at_ k)) w' b y) :
    C W0 E (fun i => M i ∨ i = k) (mAdd m b (.at_ k)) ⟨st.N, killE b st.env, (st.bs.map (killB b)).set b y⟩ a w' := by
  have hklt : k < w'.heap.size := (Array.getElem?_eq_some_iff.1 hw).1
  have hblt : b < st.bs.length := (List.getElem?_eq_some_iff.1 hb).1
  have hm : ∀ b', b' ≠ b → mAdd m b (.at_ k) b' = m b' := fun b' e => if_neg e
  have hmb : mAdd m b (.at_ k) b = .at_ k := if_pos rfl
  have low : W0.heap.size ≤ k := by
    rcases hcase with ⟨h1, _⟩ | ⟨h1, _⟩
    · exact h.mLow k (h.mIn b k h1)
    · exact Nat.le_trans h.base.size h1
  have hf : Fr (fun i => i = k) w w' := by
    rcases hcase with ⟨_, h1⟩ | ⟨_, h1⟩
    · exact h1
    · exact Fr.weak h1 fun _ _ x => x.elim
  have hE : ∀ i, i < w.heap.size → i = k → M i := fun i hi e => by
    rcases hcase with ⟨h1, _⟩ | ⟨h1, _⟩
    · exact e ▸ h.mIn b k h1
    · omega
  have hM : ∀ i, i < w.heap.size → (M i ∨ i = k) → M i := fun i hi hx => hx.elim id fun e => hE i hi e
  have own : (∃ b, b < E.n ∧ E.m b = .at_ k) ∨ E.w.heap.size ≤ k := by
    rcases hcase with ⟨h1, _⟩ | ⟨h1, _⟩
    · exact h.own h1
    · exact .inr (Nat.le_trans h.fr.size h1)
  have at_ : ∀ b' i, mAdd m b (.at_ k) b' = .at_ i → (b' = b ∧ i = k) ∨ (b' ≠ b ∧ m b' = .at_ i) := fun b' i hi => by
    by_cases e : b' = b
    · subst e
      rw [hmb] at hi
      cases hi
      exact .inl ⟨rfl, rfl⟩
    · rw [hm b' e] at hi
      exact .inr ⟨e, hi⟩
  have noother : ∀ b', b' ≠ b → m b' ≠ .at_ k := fun b' e he => by
    rcases hcase with ⟨h1, _⟩ | ⟨h1, _⟩
    · exact e (h.inj b' b k he h1)
    · have := h.mLt k (h.mIn b' k he)
      omega
  refine { base := ?_, fr := ?_, eLt := h.eLt, mLow := ?_, mUp := fun i hi => .inl (h.mUp i hi), mNew := ?_, mLt := ?_, mNo := ?_, mIn := ?_, inj := ?_, oldv := ?_, oldr := ?_, new := ?_, len := by simpa using h.len, box := ?_, env := ?_, wide := h.wide, defers := h.defers }
  · exact ⟨hf.os.trans h.base.os, hf.tape.trans h.base.tape, hf.output.trans h.base.output, Nat.le_trans h.base.size hf.size, fun i hi he => (hf.block i (Nat.lt_of_lt_of_le hi h.base.size) (by omega)).trans (h.base.block i hi he),
      fun i D t hi => by
        obtain ⟨D', h1, h2⟩ := h.base.keep i D t hi
        obtain ⟨D'', h3, h4⟩ := hf.keep i D' t h1
        exact ⟨D'', h3, h4.trans h2⟩⟩
  · refine ⟨hf.os.trans h.fr.os, hf.tape.trans h.fr.tape, hf.output.trans h.fr.output, Nat.le_trans h.fr.size hf.size, fun i hi he => ?_, fun i D t hi => ?_⟩
    · refine (hf.block i (Nat.lt_of_lt_of_le hi h.fr.size) fun e => ?_).trans (h.fr.block i hi he)
      subst e
      rcases own with h1 | h1
      · exact he h1
      · omega
    · obtain ⟨D', h1, h2⟩ := h.fr.keep i D t hi
      obtain ⟨D'', h3, h4⟩ := hf.keep i D' t h1
      exact ⟨D'', h3, h4.trans h2⟩
  · rintro i (hi | rfl)
    · exact h.mLow i hi
    · exact low
  · rintro i (hi | rfl)
    · exact h.mNew i hi
    · rcases hcase with ⟨h1, _⟩ | ⟨h1, _⟩
      · exact h.mNew _ (h.mIn b _ h1)
      · exact .inr (Nat.le_trans h.fr.size h1)
  · rintro i (hi | rfl)
    · exact Nat.lt_of_lt_of_le (h.mLt i hi) hf.size
    · exact hklt
  · intro b' hb'
    simp at hb'
    rw [hm b' (by omega)]
    exact h.mNo b' hb'
  · intro b' i hi
    rcases at_ b' i hi with ⟨_, e⟩ | ⟨_, e⟩
    · exact .inr e
    · exact .inl (h.mIn b' i e)
  · intro b1 b2 i h1 h2
    rcases at_ b1 i h1 with ⟨e1, e1'⟩ | ⟨e1, e1'⟩ <;> rcases at_ b2 i h2 with ⟨e2, e2'⟩ | ⟨e2, e2'⟩
    · rw [e1, e2]
    · exact (noother b2 e2 (e1' ▸ e2')).elim
    · exact (noother b1 e1 (e2' ▸ e1')).elim
    · exact h.inj b1 b2 i e1' e2'
  · intro b' cs hb' hc
    simp only at hc
    by_cases e : b' = b
    · subst e
      rw [List.getElem?_set_self (by simpa using hblt)] at hc
      exact absurd (Option.some.inj hc) (hyv cs)
    · rw [List.getElem?_set_ne (Ne.symm e), List.getElem?_map] at hc
      cases hx : st.bs[b']? with
      | none => simp [hx] at hc
      | some y =>
        cases y <;> simp only [hx, Option.map_some, killB, Option.some.injEq] at hc <;> first
          | (cases hc; done)
          | skip
        rw [hm b' e]
        exact h.oldv b' _ hb' hx
  · intro b' i hb' hi
    rcases at_ b' i hi with ⟨e1, e2⟩ | ⟨_, e⟩
    · subst e1
      subst e2
      rcases hcase with ⟨h1, _⟩ | ⟨h1, _⟩
      · exact h.oldr _ _ hb' h1
      · exact .inr (Nat.le_trans h.fr.size h1)
    · exact h.oldr b' i hb' e
  · intro b' i hb' hi
    rcases at_ b' i hi with ⟨e1, e2⟩ | ⟨_, e⟩
    · subst e1
      subst e2
      rcases hcase with ⟨h1, _⟩ | ⟨h1, _⟩
      · exact h.new _ _ hb' h1
      · exact Nat.le_trans h.fr.size h1
    · exact h.new b' i hb' e
  · intro b' y hy
    simp only at hy
    by_cases e : b' = b
    · subst e
      rw [List.getElem?_set_self (by simpa using hblt)] at hy
      cases hy
      exact hbox hm hf hE hM
    · rw [List.getElem?_set_ne (Ne.symm e), List.getElem?_map] at hy
      cases hx : st.bs[b']? with
      | none => simp [hx] at hy
      | some z =>
        simp only [hx, Option.map_some, Option.some.injEq] at hy
        subst hy
        have hz := (h.box b' z hx).mono hf hE hM fun i hi e2 => noother b' e (e2 ▸ hi)
        cases z with
        | dead => trivial
        | var cs =>
          obtain ⟨q, C, T, h1, h2, h3⟩ := hz
          exact ⟨q, C, T, (hm b' e).trans h1, h2, RAs.kill hm _ _ h3⟩
        | vec sz bt l =>
          obtain ⟨g0, g1, g2, g3⟩ := hz
          refine ⟨g0, g1, g2, ?_⟩
          rcases g3 with ⟨h4, h5⟩ | ⟨q, C, T, h4, h5⟩
          · exact .inl ⟨(hm b' e).trans h4, h5⟩
          · exact .inr ⟨q, C, T, (hm b' e).trans h4, h5⟩
        | mp es =>
          obtain ⟨q, F, c, h1, h2⟩ := hz
          exact ⟨q, F, c, (hm b' e).trans h1, h2⟩
        | own sz bt cs =>
          obtain ⟨g0, g1, g2, g3⟩ := hz
          refine ⟨g0, g1, by simpa only [killL_len] using g2, ?_⟩
          rcases g3 with ⟨h4, h5⟩ | ⟨q, C, T, h4, h5, h6, h7⟩
          · exact .inl ⟨(hm b' e).trans h4, by rw [h5]; rfl⟩
          · refine .inr ⟨q, C, T, (hm b' e).trans h4, h5, by simpa only [killL_len] using h6, ?_⟩
            rw [killL_len]
            exact RAs.kill hm _ _ h7
  · intro t y hy
    obtain ⟨z, h1, rfl⟩ := lk_killE hy
    exact RA.kill hm _ _ (RA.mono hf hE hM z _ (h.env t z h1))
theorem C.regrow {E : En} {M : Nat → Prop} {m : Nat → Pl} {st : St} {a : Act} {w w' : World} (h : C W0 E M m st a w) {b k : Nat} {sz bt : Nat} {l l' : List (List D)} (hb : st.bs[b]? = some (.vec sz bt l))
    {Cn : Array Value} {T : TypeId} (hw : w'.heap[k]? = some (Obj.cells Cn T (0, 0))) (hsz : 0 < sz) (hbt : 0 < bt) (hlb : l'.length * bt ≤ 140737488355328) (hlen : l'.length * sz ≤ Cn.size)
    (hcase : (m b = .at_ k ∧ Fr (fun i => i = k) w w') ∨ (w.heap.size ≤ k ∧ Fr (fun _ => False) w w'))
    (hrows : ∀ (i : Nat) (row : List D), l'[i]? = some row → row.length = sz ∧ ∀ (j : Nat) (d : D), row[j]? = some d → ∃ u, Cn[i * sz + j]? = some u ∧ RD (fun i => M i ∨ i = k) w' d u) :
    C W0 E (fun i => M i ∨ i = k) (mAdd m b (.at_ k)) ⟨st.N, killE b st.env, (st.bs.map (killB b)).set b (.vec sz bt l')⟩ a w' :=
  h.regrowG hb hw (fun _ e => by cases e) hcase fun _ _ _ _ => ⟨hsz, hbt, hlb, .inr ⟨k, Cn, T, if_pos rfl, hw, hlen, hrows⟩⟩

/-- What an appended slice holds. -/
def apR (bs : List Box) (sz bt : Nat) : AV → Option (List (List D))
  | .d (.rows sz' bt' l) => if sz' = sz ∧ bt' = bt then some l else none
  | .d .e => some []
  | .sl b sz' lo n => match bs[b]? with
    | some (.vec sz2 _ l) => if sz' = sz ∧ sz2 = sz ∧ lo + n ≤ l.length then some ((l.drop lo).take n) else none
    | _ => none
  | _ => none
theorem apR_sound {E : En} {M : Nat → Prop} {m : Nat → Pl} {st : St} {a : Act} {w : World} (h : C W0 E M m st a w) {sz bt : Nat} {x : AV} {u : Value} {l : List (List D)} (hx : RA M m w x u) (hsz : 0 < sz) (hr : apR st.bs sz bt x = some l) :
    ∃ (A : Option Addr) (c : Nat) (U : List Value), u = .slice A l.length c ∧ U.length = l.length * sz ∧ (∀ v ∈ U, v.oneCell' = true) ∧ (l ≠ [] → ∃ g o, A = some ⟨g, o, none⟩ ∧ ∀ (j : Nat) (v : Value), U[j]? = some v → w.cell? ⟨g, o + j, none⟩ = some v) ∧
      ∀ (i : Nat) (row : List D), l[i]? = some row → row.length = sz ∧ ∀ (j : Nat) (d : D), row[j]? = some d → ∃ v, U[i * sz + j]? = some v ∧ RD M w d v := by
  have build : ∀ (l : List (List D)) (V : Nat → Nat → Value), (∀ (i : Nat) (row : List D), l[i]? = some row → row.length = sz ∧ ∀ (j : Nat) (d : D), row[j]? = some d → RD M w d (V i j)) →
      ∃ U : List Value, U.length = l.length * sz ∧ (∀ v ∈ U, v.oneCell' = true) ∧ (∀ (q : Nat) (v : Value), U[q]? = some v → ∃ i j, i < l.length ∧ j < sz ∧ q = i * sz + j ∧ v = V i j) ∧ ∀ (i : Nat) (row : List D), l[i]? = some row → ∀ (j : Nat) (d : D), row[j]? = some d → U[i * sz + j]? = some (V i j) := by
    intro l V hV
    have hlt : ∀ q, q < l.length * sz → q / sz < l.length := fun q hq => (Nat.div_lt_iff_lt_mul hsz).2 hq
    have hmod : ∀ q, q % sz < sz := fun q => Nat.mod_lt _ hsz
    have get : ∀ q, q < l.length * sz → ((List.range (l.length * sz)).map fun q => V (q / sz) (q % sz))[q]? = some (V (q / sz) (q % sz)) := fun q hq => by rw [List.getElem?_map, List.getElem?_range hq]; rfl
    refine ⟨(List.range (l.length * sz)).map fun q => V (q / sz) (q % sz), by simp, fun v hv => ?_, fun q v hq => ?_, fun i row hi j d hj => ?_⟩
    · obtain ⟨q, hq, rfl⟩ := List.mem_map.1 hv
      have hq' := List.mem_range.1 hq
      obtain ⟨row, h1⟩ : ∃ row, l[q / sz]? = some row := ⟨_, List.getElem?_eq_getElem (hlt q hq')⟩
      obtain ⟨h2, h3⟩ := hV _ _ h1
      have h4 : q % sz < row.length := by rw [h2]; exact hmod q
      exact (h3 (q % sz) row[q % sz] (List.getElem?_eq_getElem h4)).one
    · have hq' : q < l.length * sz := by
        have := (List.getElem?_eq_some_iff.1 hq).1
        simpa using this
      rw [get q hq'] at hq
      cases hq
      exact ⟨q / sz, q % sz, hlt q hq', hmod q, by rw [Nat.mul_comm]; exact (Nat.div_add_mod q sz).symm, rfl⟩
    · have hi' : i < l.length := (List.getElem?_eq_some_iff.1 hi).1
      have hj' : j < sz := by rw [← (hV i row hi).1]; exact (List.getElem?_eq_some_iff.1 hj).1
      have hq : i * sz + j < l.length * sz := by
        have : (i + 1) * sz ≤ l.length * sz := Nat.mul_le_mul_right _ hi'
        rw [Nat.add_mul] at this
        omega
      rw [get _ hq]
      congr 2
      · rw [Nat.mul_comm, Nat.mul_add_div hsz, Nat.div_eq_of_lt hj', Nat.add_zero]
      · rw [Nat.mul_comm, Nat.mul_add_mod, Nat.mod_eq_of_lt hj']
  unfold apR at hr
  split at hr
  · rename_i sz' bt' l'
    split at hr
    · rename_i hc
      obtain ⟨rfl, rfl⟩ := hc
      cases hr
      simp only [RA] at hx
      obtain ⟨A, c, V, rfl, hA, hU⟩ := hx.rows_inv
      obtain ⟨U, h1, h2, h3, h4⟩ := build l V fun i row hi => ⟨(hA i row hi).1, fun j d hd => hU i row j d hi hd⟩
      refine ⟨A, c, U, rfl, h1, h2, fun hne => ?_, fun i row hi => ⟨(hA i row hi).1, fun j d hd => ⟨V i j, h4 i row hi j d hd, hU i row j d hi hd⟩⟩⟩
      have h0 : l[0]? = some (l[0]'(List.length_pos_iff.2 hne)) := List.getElem?_eq_getElem _
      obtain ⟨_, g, o, rfl, _⟩ := hA 0 _ h0
      refine ⟨g, o, rfl, fun q v hq => ?_⟩
      obtain ⟨i, j, hi, hj, rfl, rfl⟩ := h3 q v hq
      obtain ⟨_, g', o', e, h5⟩ := hA i _ (List.getElem?_eq_getElem hi)
      cases e
      rw [← Nat.add_assoc]
      exact (h5 j hj).2
    · cases hr
  · cases hr
    simp only [RA] at hx
    cases hx with
    | e A => exact ⟨A, 0, [], rfl, by simp, by simp, fun h => absurd rfl h, fun i row hi => by simp at hi⟩
  · rename_i b sz' lo k
    split at hr
    · rename_i sz2 bt2 l0 hb
      split at hr
      · rename_i hc
        obtain ⟨rfl, rfl, hle⟩ := hc
        cases hr
        have hlen : ((l0.drop lo).take k).length = k := by simp; omega
        simp only [RA] at hx
        rcases hx with ⟨rfl, rfl, hv, A, rfl⟩ | ⟨q, cap, C1, T1, h1, rfl, h2, h3, h4⟩
        · exact ⟨A, 0, [], by simp, by simp, by simp, fun h => absurd (by simp) h, fun i row hi => by simp at hi⟩
        · obtain ⟨_, _, _, h5 | ⟨q', C2, T2, h5, h6, h7, h8⟩⟩ := h.box b _ hb
          · rw [h1] at h5
            cases h5.1
          · rw [h1] at h5
            cases h5
            have get : ∀ (i : Nat) (row : List D), ((l0.drop lo).take k)[i]? = some row → l0[lo + i]? = some row := fun i row hi => by
              rw [List.getElem?_take] at hi
              split at hi
              · rwa [List.getElem?_drop] at hi
              · cases hi
            obtain ⟨U, g1, g2, g3, g4⟩ := build ((l0.drop lo).take k) (fun i j => C2.getD ((lo + i) * sz2 + j) default) fun i row hi => ⟨(h8 _ row (get i row hi)).1, fun j d hd => by
              obtain ⟨v, g5, g6⟩ := (h8 _ row (get i row hi)).2 j d hd
              simpa [Array.getD_eq_getD_getElem?, g5] using g6⟩
            refine ⟨_, cap, U, by rw [hlen], by rw [g1], g2, fun hne => ⟨q, lo * sz2, rfl, fun z v hz => ?_⟩, fun i row hi => ⟨(h8 _ row (get i row hi)).1, fun j d hd => ?_⟩⟩
            · obtain ⟨i, j, hi, hj, rfl, rfl⟩ := g3 z v hz
              rw [hlen] at hi
              have hi2 : lo + i < l0.length := by omega
              obtain ⟨g5, g6⟩ := h8 (lo + i) l0[lo + i] (List.getElem?_eq_getElem hi2)
              have hj2 : j < l0[lo + i].length := by rw [g5]; exact hj
              obtain ⟨v, g7, _⟩ := g6 j _ (List.getElem?_eq_getElem hj2)
              rw [cell_of_row w q _ C2 T2 (0, 0) h6, show lo * sz2 + (i * sz2 + j) = (lo + i) * sz2 + j by rw [Nat.add_mul]; omega, g7]
              simp [Array.getD_eq_getD_getElem?, g7]
            · obtain ⟨v, g5, g6⟩ := (h8 _ row (get i row hi)).2 j d hd
              exact ⟨v, by rw [g4 i row hi j d hd]; simp [Array.getD_eq_getD_getElem?, g5], g6⟩
      · cases hr
    · cases hr
  · cases hr

theorem run_append_room' (w : World) (t ty e : TypeId) {sz : Nat} (ht : P.underlying t = some (.slice e)) (hi : szT P e = some sz)
    (g sLen sCap : Nat) (cur : Array Value) (T : TypeId) (hg : w.heap[g]? = some (.cells cur T (0, 0)))
    (A : Option Addr) (m c : Nat) (news : List Value) (hl : news.length = m * sz) (hA : (A = none ∧ m = 0) ∨ ∃ a, A = some a ∧ ∀ j u, news[j]? = some u → w.cell? (a.add j) = some u) (h1 : ∀ u ∈ news, u.oneCell' = true)
    (hroom : sLen + m ≤ sCap) (hfit : sLen * sz + news.length ≤ cur.size) :
    (Builtin.append_ #[t, t] ty #[.slice (some ⟨g, 0, none⟩) sLen sCap, .slice A m c]).run P w =
      .ok (.slice (some ⟨g, 0, none⟩) (sLen + m) sCap) (w.setRow g (over cur.toList (sLen * sz) news).toArray) := by
  unfold szT at hi
  cases hq : P.info? e with
  | none => simp [hq] at hi
  | some i =>
    simp [hq] at hi
    subst hi
    have hst := run_storeCells_at P g (sLen * i.size) T news 0 cur w hg (by simpa using hfit) h1
    simp only [Nat.add_zero] at hst
    rcases hA with ⟨rfl, rfl⟩ | ⟨a, rfl, hnews⟩
    · have hn : news = [] := List.eq_nil_of_length_eq_zero (by simpa using hl)
      subst hn
      have hr : sLen ≤ sCap := by simpa using hroom
      simp [Builtin.append_, run_underlying ht, sizeOf, typeInfo, hq, Builtin.lenOf, hr, run_firstCells_none, Addr.add_lit, over] at hst ⊢
      simp [hst]
    · have hf := run_firstCells_some (P := P) w i.size m a m c news hl hnews
      simp [Builtin.append_, run_underlying ht, sizeOf, typeInfo, hq, Builtin.lenOf, hroom, hf, Addr.add_lit, hst, over]

theorem rows_append {M : Nat → Prop} {w : World} {sz : Nat} {l l' : List (List D)} {Cn : List Value} (h1 : ∀ (i : Nat) (row : List D), l[i]? = some row → row.length = sz ∧ ∀ (j : Nat) (d : D), row[j]? = some d → ∃ u, Cn[i * sz + j]? = some u ∧ RD M w d u)
    (h2 : ∀ (i : Nat) (row : List D), l'[i]? = some row → row.length = sz ∧ ∀ (j : Nat) (d : D), row[j]? = some d → ∃ u, Cn[(l.length + i) * sz + j]? = some u ∧ RD M w d u) :
    ∀ (i : Nat) (row : List D), (l ++ l')[i]? = some row → row.length = sz ∧ ∀ (j : Nat) (d : D), row[j]? = some d → ∃ u, Cn[i * sz + j]? = some u ∧ RD M w d u := by
  intro i row hi
  by_cases hlt : i < l.length
  · rw [List.getElem?_append_left hlt] at hi
    exact h1 i row hi
  · rw [List.getElem?_append_right (by omega)] at hi
    have := h2 (i - l.length) row hi
    rwa [show l.length + (i - l.length) = i by omega] at this

theorem C.killedG {E : En} {M : Nat → Prop} {m : Nat → Pl} {st : St} {a : Act} {w : World} (h : C W0 E M m st a w) {b : Nat} {x : Box} (hb : st.bs[b]? = some x) (hv : ∀ cs, x ≠ .var cs) : C W0 E M m ⟨st.N, killE b st.env, (st.bs.map (killB b)).set b (killB b x)⟩ a w := by
  have hblt : b < st.bs.length := (List.getElem?_eq_some_iff.1 hb).1
  have get : ∀ (b' : Nat) (y : Box), ((st.bs.map (killB b)).set b (killB b x))[b']? = some y → ∃ z, st.bs[b']? = some z ∧ y = killB b z := by
    intro b' y hy
    by_cases e : b' = b
    · subst e
      rw [List.getElem?_set_self (by simpa using hblt)] at hy
      cases hy
      exact ⟨_, hb, rfl⟩
    · rw [List.getElem?_set_ne (Ne.symm e), List.getElem?_map] at hy
      cases hx : st.bs[b']? with
      | none => simp [hx] at hy
      | some z =>
        simp only [hx, Option.map_some, Option.some.injEq] at hy
        exact ⟨z, rfl, hy.symm⟩
  refine { h with mNo := by simpa using h.mNo, oldv := ?_, len := by simpa using h.len, box := ?_, env := ?_ }
  · intro b' cs hb' hc
    obtain ⟨z, h1, h2⟩ := get b' _ hc
    cases z <;> simp only [killB] at h2 <;> first
      | (cases h2; done)
      | exact h.oldv b' _ hb' h1
  · intro b' y hy
    obtain ⟨z, h1, rfl⟩ := get b' y hy
    have hz := h.box b' z h1
    cases z with
    | dead => trivial
    | var cs =>
      obtain ⟨q, C, T, h1, h2, h3⟩ := hz
      exact ⟨q, C, T, h1, h2, RAs.kill (fun _ _ => rfl) _ _ h3⟩
    | vec sz bt l => exact hz
    | mp es => exact hz
    | own sz bt cs =>
      obtain ⟨g0, g1, g2, g3⟩ := hz
      refine ⟨g0, g1, by simpa only [killL_len] using g2, ?_⟩
      rcases g3 with ⟨h4, h5⟩ | ⟨q, C, T, h4, h5, h6, h7⟩
      · exact .inl ⟨h4, by rw [h5]; rfl⟩
      · refine .inr ⟨q, C, T, h4, h5, by simpa only [killL_len] using h6, ?_⟩
        rw [killL_len]
        exact RAs.kill (fun _ _ => rfl) _ _ h7
  · intro t y hy
    obtain ⟨z, h1, rfl⟩ := lk_killE hy
    exact RA.kill (fun _ _ => rfl) _ _ (h.env t z h1)

theorem C.killed {E : En} {M : Nat → Prop} {m : Nat → Pl} {st : St} {a : Act} {w : World} (h : C W0 E M m st a w) {b sz bt : Nat} {l : List (List D)} (hb : st.bs[b]? = some (.vec sz bt l)) : C W0 E M m ⟨st.N, killE b st.env, (st.bs.map (killB b)).set b (.vec sz bt l)⟩ a w := h.killedG hb (fun _ e => by cases e)

/-- An append to a row of one's own: it is that row still, wherever it lies. -/
theorem A_append {Q : Ax → St → Prop} {st : St} {ops : Array Oper} {o : Oper} {rest : List Oper} {s x : Operand} {T e sz bt b k : Nat} {X : AV} {l l2 : List (List D)} {z : List Value} (hg : o.guard = none) (ho : o.op = .call ⟨.builtin .append, #[s, x], #[T, T]⟩) (he : elT P T = some e) (hs : szT P e = some sz) (hbt : btT P e = some bt) (hz : zrT P e = some z) (hzl : z.length = sz)
    (h1 : evo (lk st.env) s = some (.sl b sz 0 k)) (hk : k = l.length) (hb : st.bs[b]? = some (.vec sz bt l)) (h2 : evo (lk st.env) x = some X) (hX : apR st.bs sz bt X = some l2) (hd : dOk st.N o.dst = true) (hbound : (l.length + l2.length) * bt ≤ 140737488355328)
    (h : AOps P W0 n ops rest Q ((⟨st.N, killE b st.env, (st.bs.map (killB b)).set b (.vec sz bt (l ++ l2))⟩ : St).put o.dst (.sl b sz 0 (l ++ l2).length))) : AOps P W0 n ops (o :: rest) Q st := by
  subst hk
  intro E M m a w hE hC
  refine wpList_plain hg fun K hK => ?_
  have hu := elT_iff he
  obtain ⟨hsz, hbt0, hb47, hbox⟩ := hC.box b _ hb
  have hs1 := evo_sound hC.env h1
  have hx1 := evo_sound hC.env h2
  obtain ⟨A, c, U, hxe, hUl, hU1, hUA, hUr⟩ := apR_sound hC hx1 hsz hX
  unfold btT at hbt
  unfold zrT at hz
  cases hi : P.info? e with
  | none => simp [hi] at hbt
  | some it =>
  simp only [hi, Option.map_some, Option.some.injEq] at hbt
  simp only [hi, Option.bind_some, Option.map_eq_some_iff] at hz
  obtain ⟨zv, hzr, hzv⟩ := hz
  have hits : it.size = sz := by simpa [szT, hi] using hs
  have hzs : zv.cells.size = sz := by rw [← Array.length_toList, hzv]; exact hzl
  have hex : ∀ v w', (Builtin.append_ #[T, T] o.type #[a.eval s, a.eval x]).run P w = .ok v w' → (execOp a.eval o).run P w = .ok (.value v) w' := fun v w' hr => by
    simp only [execOp, ho, resolve, invoke, builtin, Sem.run_bind, Sem.run_pure, Result.andThen_ok, List.map_toArray, List.map_cons, List.map_nil, hr]
  have fin : ∀ (v : Value) (w' : World) (q : Nat) (Cn : Array Value) (T' : TypeId) (cap : Nat), (Builtin.append_ #[T, T] o.type #[a.eval s, a.eval x]).run P w = .ok v w' → v = .slice (some ⟨q, 0, none⟩) (l ++ l2).length cap → (l ++ l2).length ≤ cap → cap * sz ≤ Cn.size →
      w'.heap[q]? = some (Obj.cells Cn T' (0, 0)) → ((m b = .at_ q ∧ Fr (fun i => i = q) w w') ∨ (w.heap.size ≤ q ∧ Fr (fun _ => False) w w')) →
      (∀ (i : Nat) (row : List D), (l ++ l2)[i]? = some row → row.length = sz ∧ ∀ (j : Nat) (d : D), row[j]? = some d → ∃ u, Cn.toList[i * sz + j]? = some u ∧ RD (fun i => M i ∨ i = q) w' d u) → o.wp P a w K (LQ W0 E Q) := by
    intro v w' q Cn T' cap hr hv hcap hfit hw hcase hrows
    have hle : (l ++ l2).length * sz ≤ Cn.size := Nat.le_trans (Nat.mul_le_mul_right _ hcap) hfit
    have hC' := hC.regrow hb hw hsz hbt0 (by rw [List.length_append]; exact hbound) hle hcase (fun i row hi => by simpa using hrows i row hi)
    unfold Oper.wp
    rw [hex v w' hr]
    refine hK _ _ (h E _ _ _ _ hE (hC'.value (dOk_iff hd) ?_))
    simp only [RA]
    exact .inr ⟨q, cap, Cn, T', if_pos rfl, by rw [hv]; simp, hcap, hw, by simpa using hfit⟩
  have hA : (A = none ∧ l2.length = 0) ∨ ∃ a, A = some a ∧ ∀ j u, U[j]? = some u → w.cell? (a.add j) = some u := by
    by_cases hne : l2 = []
    · subst hne
      have hU0 : U = [] := List.eq_nil_of_length_eq_zero (by simpa using hUl)
      cases A with
      | none => exact .inl ⟨rfl, rfl⟩
      | some a => exact .inr ⟨a, rfl, fun j u hj => by simp [hU0] at hj⟩
    · obtain ⟨g, o', rfl, hc⟩ := hUA hne
      exact .inr ⟨_, rfl, fun j u hj => by rw [Addr.add_lit]; exact hc j u hj⟩
  have newRD : ∀ (w' : World) (q : Nat), Fr (fun i => i = q) w w' → (q < w.heap.size → M q) → ∀ (d : D) (u : Value), RD M w d u → RD (fun i => M i ∨ i = q) w' d u := fun w' q hf hq d u hr =>
    hr.mono hf (fun i hi e => e ▸ hq (e ▸ hi)) (fun i hi hx => hx.elim id fun e => e ▸ hq (e ▸ hi))
  simp only [RA] at hs1
  have grow : ∀ (bA : Option Addr) (olds : List Value) (cap0 : Nat), a.eval s = .slice bA l.length cap0 → l.length ≤ cap0 → (bA = none → cap0 = 0 ∧ l.length = 0) → olds.length = l.length * sz → (∀ ba, bA = some ba → ∀ j v, olds[j]? = some v → w.cell? (ba.add j) = some v) → cap0 < l.length + l2.length →
      (∀ (i : Nat) (row : List D), l[i]? = some row → row.length = sz ∧ ∀ (j : Nat) (d : D), row[j]? = some d → ∃ u, olds[i * sz + j]? = some u ∧ RD M w d u) → o.wp P a w K (LQ W0 E Q) := by
    intro bA olds cap0 hse hlc hnone hol hold hcap hrows
    have hsum : ((l.length + l2.length : Nat) : Int) ≤ 9223372036854775807 := by
      have : l.length + l2.length ≤ (l.length + l2.length) * bt := Nat.le_mul_of_pos_right _ hbt0
      omega
    have hb48 : (l.length + l2.length) * it.bytes ≤ 140737488355328 := by rw [hbt]; omega
    have hge := grownCap_ge w (l.length + l2.length) cap0 e
    -- the appended part is there, or is empty
    have key : ∃ w' cap, (Builtin.append_ #[T, T] o.type #[a.eval s, a.eval x]).run P w = .ok (.slice (some ⟨w.heap.size, 0, none⟩) (l.length + l2.length) cap) w' ∧ l.length + l2.length ≤ cap ∧ Fr (fun _ => False) w w' ∧
        ∃ Cn : Array Value, w'.heap[w.heap.size]? = some (Obj.cells Cn e (0, 0)) ∧ Cn.size = cap * sz ∧ ∃ r, Cn.toList = olds ++ U ++ r := by
      have sizes : ((olds.toArray ++ U.toArray ++ Builtin.zeroCells zv.cells (grownCap w (l.length + l2.length) cap0 e - (l.length + l2.length)))).size = grownCap w (l.length + l2.length) cap0 e * sz := by
        simp only [Array.size_append, List.size_toArray, size_zeroCells, hzs, hol, hUl, ← Nat.add_mul]
        congr 1
        omega
      have lists : ∃ r, (olds.toArray ++ U.toArray ++ Builtin.zeroCells zv.cells (grownCap w (l.length + l2.length) cap0 e - (l.length + l2.length))).toList = olds ++ U ++ r := ⟨(Builtin.zeroCells zv.cells (grownCap w (l.length + l2.length) cap0 e - (l.length + l2.length))).toList, by simp only [Array.toList_append]⟩
      rw [hse, hxe]
      cases bA with
      | none =>
        obtain ⟨rfl, hl0⟩ := hnone rfl
        have hol0 : olds = [] := List.eq_nil_of_length_eq_zero (by rw [hol, hl0, Nat.zero_mul])
        have hpos : 0 < l2.length := by omega
        have hne : l2 ≠ [] := List.length_pos_iff.1 hpos
        obtain ⟨g, o', rfl, hc⟩ := hUA hne
        have hr := run_append_nil (P := P) w T o.type e it zv hu hi hzr ⟨g, o', none⟩ l2.length c U (by rw [hits]; exact hUl) (fun j v hj => by rw [Addr.add_lit]; exact hc j v hj) hpos (by omega) (by rw [hl0, Nat.zero_add] at hb48; omega)
        simp only [hl0, Nat.zero_add] at sizes lists ⊢
        subst hol0
        simp only [List.nil_append, Array.empty_append] at sizes lists ⊢
        exact ⟨_, _, hr, by simpa [hl0] using hge, (Fr.drew w).trans (Fr.alloc _ _), _, heap_alloc_new w.drew _, sizes, lists⟩
      | some ba =>
        rcases hA with ⟨rfl, h0⟩ | ⟨xa, rfl, hnews⟩
        · omega
        · have hr := run_append_grow (P := P) w T o.type e it zv hu hi hzr ba l.length cap0 olds (by rw [hits]; exact hol) (hold ba rfl) xa l2.length c U (by rw [hits]; exact hUl) hnews hcap hsum (growslice_fits hcap hb48)
          exact ⟨_, _, hr, hge, (Fr.drew w).trans (Fr.alloc _ _), _, heap_alloc_new w.drew _, sizes, lists⟩
    obtain ⟨w', cap, hr, hcp, hf, Cn, hw, hCs, r, hCl⟩ := key
    refine fin _ w' w.heap.size Cn e cap hr (by rw [List.length_append]) (by rw [List.length_append]; exact hcp) (by rw [hCs]; exact Nat.le_refl _) hw (.inr ⟨Nat.le_refl _, hf⟩) ?_
    have hf' : Fr (fun i => i = w.heap.size) w w' := Fr.weak hf fun _ _ x => x.elim
    refine rows_append (fun i row hi => ?_) (fun i row hi => ?_)
    · obtain ⟨g1, g2⟩ := hrows i row hi
      refine ⟨g1, fun j d hj => ?_⟩
      obtain ⟨u, g3, g4⟩ := g2 j d hj
      have hlt := (List.getElem?_eq_some_iff.1 g3).1
      exact ⟨u, by rw [hCl, List.append_assoc, List.getElem?_append_left hlt]; exact g3, newRD w' _ hf' (fun hh => absurd hh (Nat.lt_irrefl _)) d u g4⟩
    · obtain ⟨g1, g2⟩ := hUr i row hi
      refine ⟨g1, fun j d hj => ?_⟩
      obtain ⟨u, g3, g4⟩ := g2 j d hj
      have hlt := (List.getElem?_eq_some_iff.1 g3).1
      refine ⟨u, ?_, newRD w' _ hf' (fun hh => absurd hh (Nat.lt_irrefl _)) d u g4⟩
      rw [hCl, List.append_assoc, List.getElem?_append_right (by rw [hol, Nat.add_mul]; omega), hol, show (l.length + i) * sz + j - l.length * sz = i * sz + j by rw [Nat.add_mul]; omega, List.getElem?_append_left hlt]
      exact g3
  rcases hbox with ⟨hmv, hl0⟩ | ⟨q, Cs, T', hmk, hw, hlen, hrows⟩
  · subst hl0
    rcases hs1 with ⟨_, _, _, bA, hse⟩ | ⟨q, cap, C1, T1, h3, _⟩
    · by_cases hne : l2 = []
      · subst hne
        have hU0 : U = [] := List.eq_nil_of_length_eq_zero (by simpa using hUl)
        have hr : (Builtin.append_ #[T, T] o.type #[a.eval s, a.eval x]).run P w = .ok (.slice bA 0 0) w := by
          rw [hse, hxe]
          have hf : (Builtin.firstCells it.size 0 (.slice A 0 c)).run P w = .ok #[] w := by
            cases A with
            | none => exact run_firstCells_none (P := P) w it.size 0 0 c
            | some xa => exact run_firstCells_some (P := P) w it.size 0 xa 0 c [] (by simp) (fun j v hj => by simp at hj)
          have hf' : (Builtin.firstCells it.size 0 (.slice A ([] : List (List D)).length c)).run P w = .ok #[] w := hf
          cases bA <;> simp [Builtin.append_, run_underlying hu, sizeOf, typeInfo, hi, Builtin.lenOf, hf, storeCells]
        have hC' := hC.killed hb
        unfold Oper.wp
        rw [hex _ _ hr]
        refine hK _ _ (h E _ _ _ _ hE (hC'.value (dOk_iff hd) ?_))
        simp only [RA]
        exact .inl ⟨by simp, trivial, hmv, bA, by simp⟩
      · exact grow bA [] 0 hse (Nat.le_refl _) (fun _ => ⟨rfl, rfl⟩) (by simp) (fun _ _ j v hj => by simp at hj) (by have := List.length_pos_iff.2 hne; simpa using this) (fun i row hi => by simp at hi)
    · rw [hmv] at h3
      cases h3
  · rcases hs1 with ⟨_, _, h3, _⟩ | ⟨q', cap, C1, T1, h3, hse, hlc, hw1, hfit⟩
    · rw [hmk] at h3
      cases h3
    · rw [hmk] at h3
      cases h3
      rw [hw] at hw1
      cases hw1
      simp only [Nat.zero_mul, Nat.zero_add] at hse hfit
      by_cases hroom : l.length + l2.length ≤ cap
      · have hroom' : (l.length + l2.length) * sz ≤ Cs.size := Nat.le_trans (Nat.mul_le_mul_right _ hroom) hfit
        rw [Nat.add_mul] at hroom'
        have hr := run_append_room' (P := P) w T o.type e hu hs q l.length cap Cs T' hw A l2.length c U hUl hA hU1 hroom (by rw [hUl]; exact hroom')
        rw [← hse, ← hxe] at hr
        have hol : (over Cs.toList (l.length * sz) U).length = Cs.size := by rw [over_len _ _ _ (by rw [hUl]; simpa using hroom'), Array.length_toList]
        have hf : Fr (fun i => i = q) w (w.setRow q (over Cs.toList (l.length * sz) U).toArray) := Fr.setRow w q Cs _ T' hw rfl (by simpa using hol)
        refine fin _ _ q _ T' cap hr (by rw [List.length_append]) (by rw [List.length_append]; exact hroom) (by simp [hol]; exact hfit) (setRow_heap w q Cs _ T' (0, 0) hw) (.inl ⟨hmk, hf⟩) ?_
        have hMq : q < w.heap.size → M q := fun _ => hC.mIn b q hmk
        refine rows_append (fun i row hi => ?_) (fun i row hi => ?_)
        · obtain ⟨g1, g2⟩ := hrows i row hi
          refine ⟨g1, fun j d hj => ?_⟩
          obtain ⟨u, g3, g4⟩ := g2 j d hj
          refine ⟨u, ?_, newRD _ q hf hMq d u g4⟩
          have hi' : i < l.length := (List.getElem?_eq_some_iff.1 hi).1
          have hj' : j < sz := by rw [← g1]; exact (List.getElem?_eq_some_iff.1 hj).1
          have : (i + 1) * sz ≤ l.length * sz := Nat.mul_le_mul_right _ hi'
          rw [Nat.add_mul] at this
          rw [over_get _ _ _ (by rw [hUl]; simpa using hroom'), if_neg (by omega)]
          simpa using g3
        · obtain ⟨g1, g2⟩ := hUr i row hi
          refine ⟨g1, fun j d hj => ?_⟩
          obtain ⟨u, g3, g4⟩ := g2 j d hj
          have hlt := (List.getElem?_eq_some_iff.1 g3).1
          refine ⟨u, ?_, newRD _ q hf hMq d u g4⟩
          rw [over_get _ _ _ (by rw [hUl]; simpa using hroom'), if_pos (by rw [Nat.add_mul]; omega), show (l.length + i) * sz + j - l.length * sz = i * sz + j by rw [Nat.add_mul]; omega]
          exact g3
      · refine grow _ (Cs.toList.take (l.length * sz)) cap hse hlc (fun hn => by cases hn) (by simp; omega) (fun ba hba j v hj => ?_) (by omega) (fun i row hi => ?_)
        · cases hba
          rw [Addr.add_lit, Nat.zero_add, cell_of_row w q j Cs T' (0, 0) hw]
          rw [List.getElem?_take] at hj
          split at hj
          · simpa using hj
          · cases hj
        · obtain ⟨g1, g2⟩ := hrows i row hi
          refine ⟨g1, fun j d hj => ?_⟩
          obtain ⟨u, g3, g4⟩ := g2 j d hj
          have hi' : i < l.length := (List.getElem?_eq_some_iff.1 hi).1
          have hj' : j < sz := by rw [← g1]; exact (List.getElem?_eq_some_iff.1 hj).1
          have : (i + 1) * sz ≤ l.length * sz := Nat.mul_le_mul_right _ hi'
          rw [Nat.add_mul] at this
          exact ⟨u, by rw [List.getElem?_take, if_pos (by omega)]; simpa using g3, g4⟩
end
end Go.Proofs.YtfbegbpipmgfiaaDoor.Lift
end
section
/- The lift, tenth part: a row that becomes data; a row without elements. No conditions: words and their laws. -/
set_option linter.unusedVariables false
set_option linter.unusedSimpArgs false
set_option linter.unusedSectionVars false
namespace Go.Proofs.YtfbegbpipmgfiaaDoor.Lift
open Go Go.RowKit

section
variable {P : Program} {W0 : World} {n : Nat}

/-- A slice without room is taken for a row of one's own, without elements. -/
theorem Sb.opn {st : St} {t sz bt : Nat} (h : lk st.env t = some (.d .e)) (hsz : 0 < sz) (hbt : 0 < bt) : Sb W0 n st ⟨st.N, putE st.env t (.sl st.bs.length sz 0 0), st.bs ++ [.vec sz bt []]⟩ := by
  intro E M m a w hn hC
  have hg : ∀ b, m b ≠ .no → mAdd m st.bs.length .virt b = m b := fun b hb => by
    unfold mAdd
    rw [if_neg]
    intro e
    exact hb (hC.mNo b (by omega))
  have at_ : ∀ b k, mAdd m st.bs.length .virt b = .at_ k → m b = .at_ k := fun b k hb => by
    unfold mAdd at hb
    split at hb
    · cases hb
    · exact hb
  refine ⟨M, mAdd m st.bs.length .virt, { hC with mNo := ?_, mIn := fun b k hb => hC.mIn b k (at_ b k hb), inj := fun b b' k hb hb' => hC.inj b b' k (at_ b k hb) (at_ b' k hb'), oldv := ?_, oldr := fun b k hb hk => hC.oldr b k hb (at_ b k hk), new := fun b k hb hk => hC.new b k hb (at_ b k hk), len := ?_, box := ?_, env := ?_ }⟩
  · intro b hb
    simp at hb
    unfold mAdd
    rw [if_neg (by omega)]
    exact hC.mNo b (by omega)
  · intro b cs hb hc
    have := hC.len
    simp only at hc
    rw [List.getElem?_append_left (by omega)] at hc
    rw [← hC.oldv b cs hb hc]
    unfold mAdd
    rw [if_neg (by omega)]
  · have := hC.len
    simp
    omega
  · intro b y hb
    by_cases hlt : b < st.bs.length
    · simp only at hb
      rw [List.getElem?_append_left hlt] at hb
      exact (hC.box b y hb).grow hg
    · have hbe : b = st.bs.length := by
        have := (List.getElem?_eq_some_iff.1 hb).1
        simp at this
        omega
      subst hbe
      simp at hb
      subst hb
      exact ⟨hsz, hbt, by simp, .inl ⟨if_pos rfl, rfl⟩⟩
  · intro t' y hy
    simp only [lk_putE] at hy
    split at hy
    · rename_i e
      subst e
      cases hy
      have h1 := hC.env t' _ h
      simp only [RA] at h1 ⊢
      refine .inl ⟨trivial, trivial, if_pos rfl, ?_⟩
      generalize a.tmps.getD t' undef = u at h1
      cases h1 with
      | e A => exact ⟨A, rfl⟩
    · exact RA.grow hg (hC.env t' y hy)

mutual
/-- A row becomes data: whoever names it has its elements. -/
def fzA (b sz bt : Nat) (l : List (List D)) : AV → AV
  | .ptr b' j => if b' = b then .junk else .ptr b' j
  | .ep b' sz' i j => if b' = b then .junk else .ep b' sz' i j
  | .sl b' sz' lo n => if b' = b then (if sz' = sz ∧ lo + n ≤ l.length then .d (.rows sz bt ((l.drop lo).take n)) else .junk) else .sl b' sz' lo n
  | .fn f x => .fn f (fzL b sz bt l x)
  | .yd r ts x => .yd r ts (fzL b sz bt l x)
  | .agg x => .agg (fzL b sz bt l x)
  | .tup x => .tup (fzL b sz bt l x)
  | .opt g x => .opt g (fzA b sz bt l x)
  | .mref b' => if b' = b then .junk else .mref b'
  | x => x
def fzL (b sz bt : Nat) (l : List (List D)) : List AV → List AV
  | [] => []
  | x :: xs => fzA b sz bt l x :: fzL b sz bt l xs
end
def fzE (b sz bt : Nat) (l : List (List D)) (e : List (List (Option AV))) : List (List (Option AV)) := mapE (fzA b sz bt l) e
def fzB (b sz bt : Nat) (l : List (List D)) : Box → Box
  | .var cs => .var (fzL b sz bt l cs)
  | .own sz' bt' cs => .own sz' bt' (fzL b sz bt l cs)
  | x => x
theorem fzL_len (b sz bt : Nat) (r : List (List D)) : ∀ l : List AV, (fzL b sz bt r l).length = l.length
  | [] => rfl
  | x :: l => by simp only [fzL, List.length_cons, fzL_len b sz bt r l]

section
variable {M M' : Nat → Prop} {m m' : Nat → Pl} {w : World} {b sz bt : Nat} {l : List (List D)} (hm : ∀ b', b' ≠ b → m' b' = m b') (hM : ∀ k, M' k → M k) (hsl : ∀ lo n u, lo + n ≤ l.length → RA M m w (.sl b sz lo n) u → RD M' w (.rows sz bt ((l.drop lo).take n)) u)
include hm hM hsl
mutual
theorem RA.fz : ∀ (x : AV) (u : Value), RA M m w x u → RA M' m' w (fzA b sz bt l x) u
  | .d x, u, h => by
    simp only [fzA, RA] at h ⊢
    exact h.mono (Fr.refl (fun _ => False) w) (fun _ _ x => x.elim) (fun k _ hk => hM k hk)
  | .dp ds, u, h => by
    simp only [fzA, RA] at h ⊢
    obtain ⟨g, o, h1, h2⟩ := h
    exact ⟨g, o, h1, h2.mono (Fr.refl (fun _ => False) w) (fun _ _ x => x.elim) (fun k _ hk => hM k hk)⟩
  | .ptr b' j, u, h => by
    simp only [fzA]
    split
    · simp only [RA]
    · rename_i e
      simp only [RA] at h ⊢
      rwa [hm b' e]
  | .ep b' sz' i j, u, h => by
    simp only [fzA]
    split
    · simp only [RA]
    · rename_i e
      simp only [RA] at h ⊢
      rwa [hm b' e]
  | .sl b' sz' lo n, u, h => by
    simp only [fzA]
    split
    · rename_i e
      subst e
      split
      · rename_i hc
        obtain ⟨rfl, hle⟩ := hc
        simp only [RA]
        exact hsl lo n u hle h
      · simp only [RA]
    · rename_i e
      simp only [RA] at h ⊢
      rwa [hm b' e]
  | .fn f x, u, h => by
    simp only [fzA, RA] at h ⊢
    obtain ⟨us, h1, h2⟩ := h
    exact ⟨us, h1, RAs.fz _ _ h2⟩
  | .yd r ts x, u, h => by
    simp only [fzA, RA] at h ⊢
    obtain ⟨k, h1, g1, g2, h2⟩ := h
    exact ⟨k, h1, fun x => g1 (hM k x), g2, RAs.fz _ _ h2⟩
  | .agg x, u, h => by
    simp only [fzA, RA] at h ⊢
    obtain ⟨us, h1, h2⟩ := h
    exact ⟨us, h1, RAs.fz _ _ h2⟩
  | .tup x, u, h => by
    simp only [fzA, RA] at h ⊢
    obtain ⟨us, h1, h2⟩ := h
    exact ⟨us, h1, RAs.fz _ _ h2⟩
  | .opt g x, u, h => by
    simp only [fzA, RA] at h ⊢
    exact ⟨fun hg => RA.fz x u (h.1 hg), h.2⟩
  | .mref b', u, h => by
    simp only [fzA]
    split
    · simp only [RA]
    · rename_i e
      simp only [RA] at h ⊢
      rwa [hm b' e]
  | .junk, u, h => by simp only [fzA, RA]
theorem RAs.fz : ∀ (x : List AV) (us : List Value), RAs M m w x us → RAs M' m' w (fzL b sz bt l x) us
  | [], [], h => by simp only [fzL, RAs]
  | x :: xs, u :: us, h => by
    simp only [fzL, RAs] at h ⊢
    exact ⟨RA.fz x u h.1, RAs.fz xs us h.2⟩
  | [], _ :: _, h => by simp only [RAs] at h
  | _ :: _, [], h => by simp only [RAs] at h
end
end
theorem lk_fzE {b sz bt : Nat} {l : List (List D)} {x : List (List (Option AV))} {t : Nat} {y : AV} (h : lk (fzE b sz bt l x) t = some y) : ∃ z, lk x t = some z ∧ y = fzA b sz bt l z := by
  rw [fzE, lk_mapE, Option.map_eq_some_iff] at h
  obtain ⟨z, h1, h2⟩ := h
  exact ⟨z, h1, h2.symm⟩

theorem Sb.freeze {st : St} (b : Nat) {sz bt : Nat} {l : List (List D)} (hb : st.bs[b]? = some (.vec sz bt l)) (hn : n ≤ b) : Sb W0 n st ⟨st.N, fzE b sz bt l st.env, (st.bs.map (fzB b sz bt l)).set b .dead⟩ := by
  intro E M m a w hE h
  have hblt : b < st.bs.length := (List.getElem?_eq_some_iff.1 hb).1
  obtain ⟨hsz, hbt, hb47, hbox⟩ := h.box b _ hb
  have hm : ∀ b', b' ≠ b → mAdd m b .no b' = m b' := fun b' e => if_neg e
  have hmb : mAdd m b .no b = .no := if_pos rfl
  have hMM : ∀ k, (M k ∧ m b ≠ .at_ k) → M k := fun k hk => hk.1
  have at_ : ∀ b' k, mAdd m b .no b' = .at_ k → b' ≠ b ∧ m b' = .at_ k := fun b' k hk => by
    by_cases e : b' = b
    · subst e
      rw [hmb] at hk
      cases hk
    · rw [hm b' e] at hk
      exact ⟨e, hk⟩
  have hsl : ∀ lo n u, lo + n ≤ l.length → RA M m w (.sl b sz lo n) u → RD (fun k => M k ∧ m b ≠ .at_ k) w (.rows sz bt ((l.drop lo).take n)) u := by
    intro lo n u hle hr
    have hlen : ((l.drop lo).take n).length = n := by simp; omega
    have hbn : ((l.drop lo).take n).length * bt ≤ 140737488355328 := Nat.le_trans (Nat.mul_le_mul_right _ (by omega)) hb47
    have get : ∀ (i : Nat) (row : List D), ((l.drop lo).take n)[i]? = some row → l[lo + i]? = some row := fun i row hi => by
      rw [List.getElem?_take] at hi
      split at hi
      · rwa [List.getElem?_drop] at hi
      · cases hi
    simp only [RA] at hr
    rcases hr with ⟨rfl, rfl, _, A, rfl⟩ | ⟨k, cap, C1, T1, h1, rfl, h2, h3, h4⟩
    · have := RD.rows (M := fun k => M k ∧ m b ≠ .at_ k) (w := w) sz bt [] A 0 (fun _ _ => default) hbt (by simp) (by simp) (fun i row h => by simp at h) (fun i row j d h => by simp at h)
      simpa using this
    · rcases hbox with ⟨h5, _⟩ | ⟨k', C2, T2, h5, h6, h7, h8⟩
      · rw [h1] at h5
        cases h5
      · rw [h1] at h5
        cases h5
        have := RD.rows (M := fun i => M i ∧ m b ≠ .at_ i) (w := w) sz bt ((l.drop lo).take n) (some ⟨k, lo * sz, none⟩) cap (fun i j => C2.getD ((lo + i) * sz + j) default) hbt hbn (by omega) (fun i row hi => ?_) (fun i row j d hi hj => ?_)
        · rw [hlen] at this
          exact this
        · obtain ⟨g1, g2⟩ := h8 _ row (get i row hi)
          refine ⟨g1, k, lo * sz, rfl, fun j hj => ⟨fun hk => hk.2 h1, ?_⟩⟩
          obtain ⟨v, g3, _⟩ := g2 j row[j] (List.getElem?_eq_getElem (by omega))
          rw [cell_of_row w k _ C2 T2 (0, 0) h6, show lo * sz + i * sz + j = (lo + i) * sz + j by rw [Nat.add_mul], g3]
          simp [Array.getD_eq_getD_getElem?, g3]
        · obtain ⟨g1, g2⟩ := h8 _ row (get i row hi)
          obtain ⟨v, g3, g4⟩ := g2 j d hj
          have : C2.getD ((lo + i) * sz + j) default = v := by simp [Array.getD_eq_getD_getElem?, g3]
          simp only [this]
          exact g4.mono (Fr.refl (fun _ => False) w) (fun _ _ x => x.elim) (fun k _ hk => hk.1)
  have getb : ∀ (b' : Nat) (y : Box), ((st.bs.map (fzB b sz bt l)).set b .dead)[b']? = some y → (b' = b ∧ y = .dead) ∨ ∃ z, b' ≠ b ∧ st.bs[b']? = some z ∧ y = fzB b sz bt l z := by
    intro b' y hy
    by_cases e : b' = b
    · subst e
      rw [List.getElem?_set_self (by simpa using hblt)] at hy
      cases hy
      exact .inl ⟨rfl, rfl⟩
    · rw [List.getElem?_set_ne (Ne.symm e), List.getElem?_map] at hy
      cases hx : st.bs[b']? with
      | none => simp [hx] at hy
      | some z =>
        simp only [hx, Option.map_some, Option.some.injEq] at hy
        exact .inr ⟨z, e, rfl, hy.symm⟩
  refine ⟨fun k => M k ∧ m b ≠ .at_ k, mAdd m b .no, { h with mLow := fun k hk => h.mLow k hk.1, mUp := ?_, mNew := fun k hk => h.mNew k hk.1, mLt := fun k hk => h.mLt k hk.1, mNo := ?_, mIn := ?_, inj := ?_, oldv := ?_, oldr := fun b' k hb' hk => h.oldr b' k hb' (at_ b' k hk).2, new := fun b' k hb' hk => h.new b' k hb' (at_ b' k hk).2, len := by simpa using h.len, box := ?_, env := ?_ }⟩
  · intro k hk
    refine ⟨h.mUp k hk, fun e => ?_⟩
    have h1 := h.new b k (by omega) e
    have h2 := h.eLt k hk
    omega
  · intro b' hb'
    simp at hb'
    rw [hm b' (by omega)]
    exact h.mNo b' hb'
  · intro b' k hk
    obtain ⟨e, h1⟩ := at_ b' k hk
    exact ⟨h.mIn b' k h1, fun e2 => e (h.inj b' b k h1 e2)⟩
  · intro b1 b2 k h1 h2
    exact h.inj b1 b2 k (at_ b1 k h1).2 (at_ b2 k h2).2
  · intro b' cs hb' hc
    rcases getb b' _ hc with ⟨_, h1⟩ | ⟨z, e, h1, h2⟩
    · cases h1
    · rw [hm b' e]
      cases z <;> simp only [fzB] at h2 <;> first
        | (cases h2; done)
        | exact h.oldv b' _ hb' h1
  · intro b' y hy
    rcases getb b' y hy with ⟨_, rfl⟩ | ⟨z, e, h1, rfl⟩
    · trivial
    · have hz := h.box b' z h1
      cases z with
      | dead => trivial
      | var cs =>
        obtain ⟨q, C, T, h1, h2, h3⟩ := hz
        exact ⟨q, C, T, (hm b' e).trans h1, h2, RAs.fz hm hMM hsl _ _ h3⟩
      | vec sz' bt' l' =>
        have hz' := BoxR.mono (M' := fun k => M k ∧ m b ≠ .at_ k) hz (Fr.refl (fun _ => False) w) (fun _ _ x => x.elim) (fun k _ hk => hk.1) (fun _ _ x => x)
        obtain ⟨g0, g1, g2, g3⟩ := hz'
        refine ⟨g0, g1, g2, ?_⟩
        rcases g3 with ⟨h4, h5⟩ | ⟨q, C, T, h4, h5⟩
        · exact .inl ⟨(hm b' e).trans h4, h5⟩
        · exact .inr ⟨q, C, T, (hm b' e).trans h4, h5⟩
      | mp es =>
        obtain ⟨q, F, c, h1, h2⟩ := hz
        exact ⟨q, F, c, (hm b' e).trans h1, h2⟩
      | own sz' bt' cs =>
        obtain ⟨g0, g1, g2, g3⟩ := hz
        refine ⟨g0, g1, by simpa only [fzL_len] using g2, ?_⟩
        rcases g3 with ⟨h4, h5⟩ | ⟨q, C, T, h4, h5, h6, h7⟩
        · exact .inl ⟨(hm b' e).trans h4, by rw [h5]; rfl⟩
        · refine .inr ⟨q, C, T, (hm b' e).trans h4, h5, by simpa only [fzL_len] using h6, ?_⟩
          rw [fzL_len]
          exact RAs.fz hm hMM hsl _ _ h7
  · intro t y hy
    obtain ⟨z, h1, rfl⟩ := lk_fzE hy
    exact RA.fz hm hMM hsl z _ (h.env t z h1)
end
end Go.Proofs.YtfbegbpipmgfiaaDoor.Lift
end
