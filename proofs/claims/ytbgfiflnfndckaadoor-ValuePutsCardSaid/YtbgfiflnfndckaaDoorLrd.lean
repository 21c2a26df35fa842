/- Values with all that they hold: as plain trees, and how they lie in memory. No conditions. -/
import Derived.Test.YtbgfiflnfndckaaDoorOv
set_option linter.unusedVariables false
set_option linter.unusedSimpArgs false
namespace Go.Proofs.YtbgfiflnfndckaaDoor
open Go.RowKit Go.Proofs.YtbgfiflnfndckaaDoorW.PrintWords Go.ChangeShapes Go.WideShapes Go.Deep Go.Joins

namespace Vs
/-- A value. -/
inductive V where
  | mk (x : Sc) (l : List V) (m : List (ByteArray × V))
def V.x : V → Sc | .mk x _ _ => x
def V.l : V → List V | .mk _ l _ => l
def V.m : V → List (ByteArray × V) | .mk _ _ m => m
end Vs

theorem cell_lt {w : World} {a : Addr} {v : Value} (h : w.cell? a = some v) : a.block < w.heap.size := by
  rcases Nat.lt_or_ge a.block w.heap.size with h1 | h1
  · exact h1
  · simp [World.cell?, Array.getElem?_eq_none h1] at h
/-- The cells at a place. -/
def At (w : World) (a : Addr) (cs : Array Value) : Prop := ∀ j u, cs[j]? = some u → w.cell? (a.add j) = some u
theorem At.below {w w' : World} {a : Addr} {cs : Array Value} (h : At w a cs) (hb : Below w.heap.size w w') : At w' a cs := fun j u hj => by
  have h1 := h j u hj
  have h2 : (a.add j).block < w.heap.size := cell_lt h1
  exact (hb.cell h2).trans h1

/-- A value lies in memory: its seven cells. -/
inductive Rd (w : World) : Vs.V → Array Value → Prop
  | mk (x : Vs.Sc) (l : List Vs.V) (m : List (ByteArray × Vs.V)) (A : Option Addr) (ca : Nat) (B : Option Addr) (cb : Nat) (Cs Ds : Nat → Array Value)
      (hx : FitsS x) (hl : l.length * 96 ≤ 140737488351232) (hm : m.length * 112 ≤ 140737488351232) (hca : l.length ≤ ca) (hcb : m.length ≤ cb)
      (hA : ∀ i, i < l.length → ∃ a, A = some a ∧ At w (a.add (i * 7)) (Cs i))
      (hCs : ∀ i v, l[i]? = some v → Rd w v (Cs i))
      (hB : ∀ i p, m[i]? = some p → ∃ b, B = some b ∧ w.cell? (b.add (i * 8)) = some (.string p.1) ∧ p.1.size ≤ 140737488351232 ∧ At w ((b.add (i * 8)).add 1) (Ds i))
      (hDs : ∀ i p, m[i]? = some p → Rd w p.2 (Ds i)) : Rd w (.mk x l m) (cellsV x (.slice A l.length ca) (.slice B m.length cb))
theorem Rd.lower {w w' : World} {v : Vs.V} {cs : Array Value} (h : Rd w v cs) (hb : Below w.heap.size w w') : Rd w' v cs := by
  induction h with
  | mk x l m A ca B cb Cs Ds hx hl hm hca hcb hA hCs hB hDs ih1 ih2 =>
    refine .mk x l m A ca B cb Cs Ds hx hl hm hca hcb (fun i hi => ?_) ih1 (fun i p hp => ?_) ih2
    · obtain ⟨a, h1, h2⟩ := hA i hi
      exact ⟨a, h1, h2.below hb⟩
    · obtain ⟨b, h1, h2, h3, h4⟩ := hB i p hp
      exact ⟨b, h1, (hb.cell (cell_lt h2)).trans h2, h3, h4.below hb⟩
/-- A row of values; a row of pairs. -/
def RdL (w : World) (A : Option Addr) (l : List Vs.V) : Prop := ∃ Cs : Nat → Array Value, l.length * 96 ≤ 140737488351232 ∧ (∀ i, i < l.length → ∃ a, A = some a ∧ At w (a.add (i * 7)) (Cs i)) ∧ ∀ i v, l[i]? = some v → Rd w v (Cs i)
def RdP (w : World) (B : Option Addr) (m : List (ByteArray × Vs.V)) : Prop := ∃ Ds : Nat → Array Value, m.length * 112 ≤ 140737488351232 ∧
  (∀ i p, m[i]? = some p → ∃ b, B = some b ∧ w.cell? (b.add (i * 8)) = some (.string p.1) ∧ p.1.size ≤ 140737488351232 ∧ At w ((b.add (i * 8)).add 1) (Ds i)) ∧ ∀ i p, m[i]? = some p → Rd w p.2 (Ds i)
end Go.Proofs.YtbgfiflnfndckaaDoor
