/- The walk of the document's own reading of a field. No conditions but that the text is no longer than a message may be. -/
import Derived.Test.YtehmneckcfchmaaMe
import Derived.Test.YtehmneckcfchmaaPn
set_option linter.unusedVariables false
set_option linter.unusedSimpArgs false
namespace Go.Proofs.Ytehmneckcfchmaa
open Go.RowKit Go.Proofs.YtehmneckcfchmaaW.PrintWords

theorem Ws.rd_suffix : ∀ (l : List UInt8) (i n m : Nat) (r : List UInt8), Ws.rd l i n = some (m, r) → ∃ j, j ≤ l.length ∧ r = l.drop j
  | [], i, n, m, r, h => by simp [Ws.rd] at h
  | b :: l, i, n, m, r, h => by
    rw [Ws.rd] at h
    split at h; · cases h
    split at h; · cases h
    split at h
    · simp only [Option.some.injEq, Prod.mk.injEq] at h
      exact ⟨1, by simp, by rw [← h.2]; rfl⟩
    · obtain ⟨j, hj, hr⟩ := Ws.rd_suffix l _ _ m r h
      exact ⟨j + 1, by simpa using hj, by simpa using hr⟩
theorem rreadnum_no (l : List UInt8) (w : World) (hs : l.length ≤ 65536) (h : Ws.num l = none) :
    Calls Try.prog 20 #[.string ⟨l.toArray⟩] w fun e w' => e = .returned (.tuple #[.int .u64 0, .int .i64 0, .int .i64 9]) ∧ w' = w :=
  (rreadnum_calls ⟨l.toArray⟩ w (by show l.length ≤ _; unfold maxLen; omega)).mono fun e w' hh => by
    have h2 : Ws.num (⟨l.toArray⟩ : ByteArray).data.toList = none := h
    rw [h2] at hh
    exact hh
theorem rreadnum_yes (l : List UInt8) (w : World) (hs : l.length ≤ 65536) {m j : Nat} (hj : j ≤ l.length) (h : Ws.num l = some (m, l.drop j)) :
    Calls Try.prog 20 #[.string ⟨l.toArray⟩] w fun e w' => e = .returned (.tuple #[.int .u64 m, .int .i64 j, .int .i64 0]) ∧ w' = w := by
  refine (rreadnum_calls ⟨l.toArray⟩ w (by show l.length ≤ _; unfold maxLen; omega)).mono fun e w' hh => ?_
  have h2 : Ws.num (⟨l.toArray⟩ : ByteArray).data.toList = some (m, l.drop j) := h
  rw [h2] at hh
  have hz : (⟨l.toArray⟩ : ByteArray).size = l.length := by simp [ByteArray.size]
  have e1 : ((⟨l.toArray⟩ : ByteArray).size - (l.drop j).length : Int) = (j : Int) := by
    rw [hz, List.length_drop]
    omega
  obtain ⟨h3, h4⟩ := hh
  refine ⟨?_, h4⟩
  rw [← e1]
  exact h3
theorem num_at {l : List UInt8} {m : Nat} {r : List UInt8} (h : Ws.num l = some (m, r)) : ∃ j, j ≤ l.length ∧ r = l.drop j := Ws.rd_suffix l 0 0 m r h

/-- What the document's reading of a field answers. -/
def FirstPost (w : World) (r : Except Nat (Ws.Fd × List UInt8)) (e : Ending) (w' : World) : Prop :=
  match r with
  | .ok (f, rest) => e = .returned (.tuple #[.agg #[.int .i64 f.k, .int .u8 f.w, .int .u64 f.n, .string ⟨f.s.toArray⟩], .string ⟨rest.toArray⟩, .int .i64 0]) ∧ Below w.heap.size w w'
  | .error c => (∃ (g : Ws.Fd) (t : List UInt8), e = .returned (.tuple #[.agg #[.int .i64 g.k, .int .u8 g.w, .int .u64 g.n, .string ⟨g.s.toArray⟩], .string ⟨t.toArray⟩, .int .i64 c])) ∧ Below w.heap.size w w'

set_option maxHeartbeats 4000000 in
set_option maxRecDepth 100000 in
theorem rfirst_d9 (l : List UInt8) (w : World) (hs : l.length ≤ 65536) (h : Ws.num l = none) :
    Calls Try.prog 38 #[.string ⟨l.toArray⟩] w (FirstPost w (.error 9)) := by
  have hu := Try.underlying32
  go_enter Try.func38, Try.ntmps38
  go_wp2_with fail
  refine (rreadnum_no l _ hs h).mono ?_
  rintro e w1 ⟨rfl, rfl⟩
  go_wp2_with fail
  refine bodyPost_ret (v := .tuple #[.agg #[.int .i64 0, .int .u8 0, .int .u64 0, .string ⟨#[]⟩], .string ⟨#[]⟩, .int .i64 9]) (by simp [results, Try.results38, go_sem]) rfl ⟨⟨⟨0, 0, 0, []⟩, [], rfl⟩, ?_⟩
  exact (Below.refl w.heap.size w).alloc (Nat.le_refl _) _
end Go.Proofs.Ytehmneckcfchmaa
