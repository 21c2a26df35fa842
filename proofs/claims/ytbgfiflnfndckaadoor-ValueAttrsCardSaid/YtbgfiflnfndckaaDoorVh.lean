/- The walk of Hash. No conditions but that the text is no longer than a text may be. -/
import Derived.Test.YtbgfiflnfndckaaDoorVb
import Derived.Test.YtbgfiflnfndckaaDoorWt
import Derived.Lib.AtoiErrMem
set_option linter.unusedVariables false
set_option linter.unusedSimpArgs false
namespace Go.Proofs.YtbgfiflnfndckaaDoor
open Go.RowKit Go.Proofs.YtbgfiflnfndckaaDoorW.PrintWords

namespace Vs
/-- One byte more; a text's hash. -/
def hstep (h b : Int) : Int := IntKind.u64.wrap (bits .xor .u64 h b * 1099511628211)
def hash (l : List UInt8) : Int := l.foldl (fun h b => hstep h b.toNat) 14695981039346656037
theorem wrap_byte (b : UInt8) : IntKind.u64.wrap (b.toNat : Int) = (b.toNat : Int) := by rw [IntKind.wrap_u64]; have := UInt8.toNat_lt b; omega
theorem hash_more (l : List UInt8) (b : UInt8) : hash (l ++ [b]) = hstep (hash l) b.toNat := by unfold hash; rw [List.foldl_append]; rfl
theorem hash_take (l : List UInt8) (k : Nat) (h : k < l.length) : hash (l.take (k + 1)) = hstep (hash (l.take k)) (l.getD k 0).toNat := by
  rw [List.take_add_one, List.getElem?_eq_getElem h]
  simp only [Option.toList_some]
  rw [hash_more]
  simp [List.getD, h]
end Vs

set_option maxHeartbeats 1000000 in
set_option maxRecDepth 100000 in
theorem hash_calls (s : ByteArray) (w : World) (hs : s.size ≤ maxLen) :
    Calls Tryd.prog 14 #[.string s] w fun e w' => e = .returned (.int .u64 (Vs.hash s.data.toList)) ∧ Below w.heap.size w w' := by
  have kc := fun (w : World) (s : ByteArray) => Lib.run_convert_string_bytes (P := Tryd.prog) w 9 34 5 s Tryd.underlying9 Tryd.underlying34 Tryd.underlying5
  unfold maxLen at hs
  obtain ⟨t, ht⟩ : ∃ t, t = s.data.toList := ⟨_, rfl⟩
  have hlen : t.length = s.size := by rw [ht]; simp
  have HB := Lib.hid (Lib.bytesWorld_below w 5 s)
  have hcell : ∀ j, j < s.size → (Lib.bytesWorld w 5 s).cell? ⟨w.heap.size, j, none⟩ = some (.int .u8 (t.getD j 0).toNat) := by
    intro j hj
    have h1 := Lib.bytesWorld_cell w 5 s j hj
    rw [ht]
    exact h1
  rw [← ht]
  have HL := Lib.hid hlen
  have HC := Lib.hid hcell
  clear ht hlen hcell
  obtain ⟨sz, hsz⟩ : ∃ sz, s.size = sz := ⟨_, rfl⟩
  go_enter Tryd.func14, Tryd.ntmps14
  go_wp2
  generalize Lib.bytesWorld _ _ _ = W at *
  generalize grownCap _ _ _ _ = C at *
  rw [hsz] at HL HC hs
  clear hsz
  go_loop [3, 9] (fun m i => ∃ k : Nat, k ≤ sz ∧ i = .int .i64 k ∧ m = .int .u64 (Vs.hash (t.take k))) (fun _ i => sz - (intOf i).toNat)
  case atStart => exact ⟨0, Nat.zero_le _, rfl, rfl⟩
  case round =>
    obtain ⟨k, hk, rfl, rfl⟩ := hrel
    by_cases hkn : k < sz
    · have hcell := HC.out k hkn
      have h8 := Vs.hash_take t k (by rw [HL.out]; exact hkn)
      have H8 := Lib.hid h8
      clear h8
      go_wp2
      go_round
      case rel => exact ⟨k + 1, by omega, by go_num, by rw [H8.out, Vs.wrap_byte]; rfl⟩
      case measure => simp [intOf]; omega
    · have hkn' : k = sz := by omega
      go_wp2
      go_ret
      subst hkn'
      rw [List.take_of_length_le (by rw [HL.out]; omega)]
      exact ⟨rfl, HB.out⟩
end Go.Proofs.YtbgfiflnfndckaaDoor
