/- The walks of the reader's steps that take bytes: so many bytes, and a number of so many bytes. No conditions beside: the reader is a block of its own. -/
import Derived.Test.YtbgfiflnfndckaaDoorWn
import Derived.Test.YtbgfiflnfndckaaDoorWWords
set_option linter.unusedVariables false
set_option linter.unusedSimpArgs false
namespace Go.Proofs.YtbgfiflnfndckaaDoor
open Go.RowKit Go.Proofs.YtbgfiflnfndckaaDoorW.PrintWords

/-- The reader's block. -/
def Cur (w : World) (b : Nat) (s : ByteArray) : Prop := w.heap[b]? = some (.cells #[.string s] 132 (0, 0))

/-- What 'take' does. -/
def TakePost (b : Nat) (w : World) (l : List UInt8) (n : Nat) (e : Ending) (w' : World) : Prop :=
  (l.length < n ∧ e = dies 10 ∧ w' = w) ∨ (n ≤ l.length ∧ e = .returned (.string ⟨(l.take n).toArray⟩) ∧ w' = w.setCell ⟨b, 0, none⟩ (.string ⟨(l.drop n).toArray⟩))

set_option maxHeartbeats 1000000 in
set_option maxRecDepth 100000 in
theorem take_calls (b : Nat) (s : ByteArray) (n : Nat) (w : World) (hc : w.cell? ⟨b, 0, none⟩ = some (.string s)) (hz : w.frozen? ⟨b, 0, none⟩ = false) (hs : s.size ≤ maxLen) (hn : n < 2 ^ 64) :
    Calls Tryd.prog 115 #[.pointer (some ⟨b, 0, none⟩), .int .u64 n] w (TakePost b w s.data.toList n) := by
  unfold maxLen at hs
  have hl : s.data.toList.length = s.size := by simp
  have hw : IntKind.u64.wrap (s.size : Int) = (s.size : Int) := by rw [IntKind.wrap_u64]; omega
  have Hl := Lib.hid hl
  clear hl
  by_cases h : s.size < n
  · go_enter Tryd.func115, Tryd.ntmps115
    go_wp2
    exact ⟨rfl, .inl ⟨by rw [Hl.out]; exact h, rfl, rfl⟩⟩
  · go_enter Tryd.func115, Tryd.ntmps115
    go_wp2
    go_ret
    exact .inr ⟨by rw [Hl.out]; omega, by rw [Ws.extract_head]; rfl, by rw [Ws.extract_end]⟩

theorem take_dies {b : Nat} {s : ByteArray} {n : Nat} {w : World} (hc : w.cell? ⟨b, 0, none⟩ = some (.string s)) (hz : w.frozen? ⟨b, 0, none⟩ = false) (hs : s.size ≤ maxLen) (hn : n < 2 ^ 64) (h : s.size < n) :
    Calls Tryd.prog 115 #[.pointer (some ⟨b, 0, none⟩), .int .u64 n] w fun e w' => e = .panicked [{ v := .iface 38 (.int .i64 10), recovered := false }] ∧ w' = w :=
  (take_calls b s n w hc hz hs hn).mono fun _ _ hp => hp.elim (fun q => q.2) (fun q => absurd q.1 (by simp; omega))
theorem take_ok {b : Nat} {s : ByteArray} {n : Nat} {w : World} (hc : w.cell? ⟨b, 0, none⟩ = some (.string s)) (hz : w.frozen? ⟨b, 0, none⟩ = false) (hs : s.size ≤ maxLen) (hn : n < 2 ^ 64) (h : n ≤ s.size) :
    Calls Tryd.prog 115 #[.pointer (some ⟨b, 0, none⟩), .int .u64 n] w fun e w' => e = .returned (.string ⟨(s.data.toList.take n).toArray⟩) ∧ w' = w.setCell ⟨b, 0, none⟩ (.string ⟨(s.data.toList.drop n).toArray⟩) :=
  (take_calls b s n w hc hz hs hn).mono fun _ _ hp => hp.elim (fun q => absurd q.1 (by simp; omega)) (fun q => q.2)

/-- What the reader's steps that make memory do to the rest. -/
def CurGoes (b : Nat) (w : World) (r : List UInt8) (w' : World) : Prop := Cur w' b ⟨r.toArray⟩ ∧ w.grownBy w' (some b)

theorem cur_set {b : Nat} {s : ByteArray} {w : World} (h : Cur w b s) (r : List UInt8) : CurGoes b w r (w.setCell ⟨b, 0, none⟩ (.string ⟨r.toArray⟩)) :=
  ⟨blk_set h 0 (.string ⟨r.toArray⟩), Lib.grownBy_setCell w b 0 _⟩
theorem bytes_goes {b : Nat} {w w1 : World} {t : ByteArray} {r : List UInt8} (h : CurGoes b w r w1) : CurGoes b w r (Lib.bytesWorld w1 5 t) := by
  obtain ⟨h1, h2⟩ := h
  exact ⟨(Lib.bytesWorld_at_old _ _ _ b (blk_lt h1)).trans h1, h2.os, h2.tape, h2.output, by rw [Lib.bytesWorld_size]; have := h2.size; omega, fun k hk hne => (Lib.bytesWorld_at_old _ _ _ k (Nat.lt_of_lt_of_le hk h2.size)).trans (h2.block k hk hne)⟩

set_option maxHeartbeats 1000000 in
set_option maxRecDepth 100000 in
theorem low_dies {b : Nat} {s : ByteArray} {n : Nat} {w : World} (h : Cur w b s) (hs : s.size ≤ maxLen) (hn : n ≤ 8) (hlt : s.size < n) :
    Calls Tryd.prog 114 #[.pointer (some ⟨b, 0, none⟩), .int .u64 n] w fun e w' => e = .panicked [{ v := .iface 38 (.int .i64 10), recovered := false }] ∧ w' = w := by
  have hc : w.cell? ⟨b, 0, none⟩ = some (.string s) := blk_cell h 0
  have hz := blk_frozen h 0
  go_enter Tryd.func114, Tryd.ntmps114
  go_wp2_with (go_at_call 115; refine (take_dies hc hz hs (by omega) hlt).mono ?_; rintro e w' ⟨rfl, rfl⟩)
  exact ⟨rfl, rfl, rfl⟩

set_option maxHeartbeats 1000000 in
set_option maxRecDepth 100000 in
theorem low_ok {b : Nat} {s : ByteArray} {n : Nat} {w : World} (h : Cur w b s) (hs : s.size ≤ maxLen) (hn : n ≤ 8) (hlt : n ≤ s.size) :
    Calls Tryd.prog 114 #[.pointer (some ⟨b, 0, none⟩), .int .u64 n] w fun e w' => e = .returned (.int .u64 (Ws.hi (s.data.toList.take n))) ∧ CurGoes b w (s.data.toList.drop n) w' := by
  have kc := fun (w : World) (s : ByteArray) => Lib.run_convert_string_bytes (P := Tryd.prog) w 9 34 5 s Tryd.underlying9 Tryd.underlying34 Tryd.underlying5
  have hc : w.cell? ⟨b, 0, none⟩ = some (.string s) := blk_cell h 0
  have hz := blk_frozen h 0
  obtain ⟨t, ht⟩ : ∃ t, t = s.data.toList.take n := ⟨_, rfl⟩
  have hlen : t.length = n := by rw [ht]; simp; omega
  have hsz : (⟨t.toArray⟩ : ByteArray).size = n := by rw [← hlen]; rfl
  rw [← ht]
  have HT := Lib.hid ht
  have HL := Lib.hid hlen
  clear ht hlen
  have hgo : ∀ W, CurGoes b w (s.data.toList.drop n) W → CurGoes b w (s.data.toList.drop n) (Lib.bytesWorld W 5 ⟨t.toArray⟩) := fun W hW => bytes_goes hW
  have hg0 := cur_set h (s.data.toList.drop n)
  have Hgo := Lib.hid hgo
  have Hg0 := Lib.hid hg0
  clear hgo hg0
  go_enter Tryd.func114, Tryd.ntmps114
  go_wp2_with (go_at_call 115; refine (take_ok hc hz hs (by omega) hlt).mono ?_; rw [← HT.out]; rintro e w' ⟨rfl, rfl⟩)
  have hcell : ∀ j, j < n → (Lib.bytesWorld (w.setCell ⟨b, 0, none⟩ (.string ⟨(List.drop n s.data.toList).toArray⟩)) 5 ⟨t.toArray⟩).cell? ⟨w.heap.size, j, none⟩ = some (.int .u8 (t.getD j 0).toNat) := by
    intro j hj
    have h1 := Lib.bytesWorld_cell (w.setCell ⟨b, 0, none⟩ (.string ⟨(List.drop n s.data.toList).toArray⟩)) 5 ⟨t.toArray⟩ j (by rw [hsz]; exact hj)
    simpa using h1
  have hgo := Hgo.out _ Hg0.out
  clear Hgo Hg0 kc
  generalize Lib.bytesWorld _ _ _ = W at *
  generalize grownCap _ _ _ _ = C at *
  have HC := Lib.hid hcell
  have HG := Lib.hid hgo
  clear hcell hgo hsz HT
  go_loop [5, 13] (fun m i => ∃ k : Nat, k ≤ n ∧ i = .int .i64 k ∧ m = .int .u64 (Ws.hi (t.take k))) (fun _ i => n - (intOf i).toNat)
  case atStart => exact ⟨0, Nat.zero_le _, rfl, rfl⟩
  case round =>
    obtain ⟨k, hk, rfl, rfl⟩ := hrel
    by_cases hkn : k < n
    · have hcell := HC.out k hkn
      have hlt8 : k < 8 := by omega
      go_wp2
      have h1 := Ws.hi_lt (t.take k)
      have hl1 : (t.take k).length = k := by rw [List.length_take, HL.out]; omega
      rw [hl1] at h1
      have h8 := Ws.step8 _ (t.getD k 0).toNat k hlt8 (UInt8.toNat_lt _) h1
      rw [← Ws.hi_take t k (by rw [HL.out]; exact hkn)] at h8
      have H8 := Lib.hid h8
      clear h8 h1 hl1
      go_round
      case rel => exact ⟨k + 1, by omega, by go_num, congrArg _ H8.out⟩
      case measure => simp [intOf]; omega
    · have hkn' : k = n := by omega
      go_wp2
      go_ret
      subst hkn'
      rw [List.take_of_length_le (by rw [HL.out]; omega)]
      exact ⟨rfl, HG.out⟩
end Go.Proofs.YtbgfiflnfndckaaDoor
