/- The walk of ValueHashes. No conditions but the kinds' own. -/
import Derived.Test.YtbgfiflnfndckaaDoorVn
import Derived.Test.YtbgfiflnfndckaaDoorOv
import Derived.Laws.BytesString
set_option linter.unusedVariables false
set_option linter.unusedSimpArgs false
namespace Go.Proofs.YtbgfiflnfndckaaDoor
open Go.RowKit Go.Proofs.YtbgfiflnfndckaaDoorW.PrintWords

theorem byte_string (b : Nat) (hb : b < 256) (W : World) : (convert 34 9 (.slice (some ⟨W.heap.size, 0, none⟩) 1 1)).run Tryd.prog (W.alloc (.cells #[.int .u8 b] 5)) = .ok (.string ⟨#[UInt8.ofNat b]⟩) (W.alloc (.cells #[.int .u8 b] 5)) := by
  have h := run_convert_bytes_arg (P := Tryd.prog) (W.alloc (.cells #[.int .u8 b] 5)) 34 5 Tryd.underlying34 Tryd.underlying5 W.heap.size 0 1 1 [(b : Int)] rfl (fun i hi => by
    obtain rfl : i = 0 := by omega
    simp) 9 Tryd.underlying9
  have e : strOfNums [(b : Int)] = ⟨#[UInt8.ofNat b]⟩ := by simp [strOfNums]
  rw [e] at h
  exact h

set_option maxHeartbeats 1000000 in
set_option maxRecDepth 100000 in
theorem hashes_calls (s : ByteArray) (b : Nat) (w : World) (hs : s.size ≤ 140737488351232) (hb : b < 256) :
    Calls Tryd.prog 4 #[.string s, .int .u8 b] w fun e w' => e = .returned (.bool true) ∧ Below w.heap.size w w' := by
  have hcv := byte_string b hb
  have h1 : (⟨#[UInt8.ofNat b]⟩ : ByteArray).size = 1 := rfl
  have e1 : (s ++ (⟨#[UInt8.ofNat b]⟩ : ByteArray)).data.toList = s.data.toList ++ [UInt8.ofNat b] := by rw [ByteArray.data_append]; simp
  have hbb : (UInt8.ofNat b).toNat = b := by simp; omega
  have hwb : IntKind.u64.wrap (b : Int) = b := by rw [IntKind.wrap_u64]; omega
  have E1 := Lib.hid e1
  have hl : (s ++ (⟨#[UInt8.ofNat b]⟩ : ByteArray)).size ≤ maxLen := by unfold maxLen; rw [ByteArray.size_append, h1]; omega
  have HL := Lib.hid hl
  clear hl
  have EB := Lib.hid hbb
  clear e1 hbb
  go_enter Tryd.func4, Tryd.ntmps4
  go_wp2_with fail
  refine (vlives_calls _).mono ?_
  rintro e w1 ⟨rfl, hb1⟩
  have HB := Lib.hid hb1
  clear hb1
  go_wp2_with fail
  refine (hash_calls ⟨#[]⟩ _ (by decide)).mono ?_
  rw [show Vs.hash (⟨#[]⟩ : ByteArray).data.toList = 14695981039346656037 from rfl]
  rintro e w2 ⟨rfl, hb⟩
  have HB2 := Lib.hid (HB.out.trans (hb.mono HB.out.size))
  clear hb HB
  go_wp2_with fail
  refine (hash_calls _ _ HL.out).mono ?_
  rw [E1.out, Vs.hash_more, EB.out]
  rintro e w3 ⟨rfl, hb⟩
  have HB3 := Lib.hid ((HB2.out.alloc HB2.out.size (.cells #[.int .u8 b] 5)).trans (hb.mono (by have := HB2.out.size; simp; omega)))
  clear hb HB2
  go_wp2_with fail
  refine (hash_calls s _ (by unfold maxLen; omega)).mono ?_
  rintro e w4 ⟨rfl, hb⟩
  have HB4 := Lib.hid (HB3.out.trans (hb.mono HB3.out.size))
  clear hb HB3
  have hst : (Vs.hstep (Vs.hash s.data.toList) b == IntKind.u64.wrap (bits .xor .u64 (Vs.hash s.data.toList) b * 1099511628211)) = true := by unfold Vs.hstep; simp
  go_wp2
  go_ret
  exact ⟨rfl, HB4.out⟩
theorem hashes_walk (s : ByteArray) (b : Int) (w : World) (hs : s.size ≤ 140737488351232) (hb : (Lit.int .u8 b).wf = true) :
    Calls Tryd.prog 4 #[.string s, .int .u8 b] w fun e w' => e = .returned (.bool true) ∧ Below w.heap.size w w' := by
  obtain ⟨m, rfl, hm⟩ := wf_u8 hb
  exact hashes_calls s m w hs hm
end Go.Proofs.YtbgfiflnfndckaaDoor
