/- The walk of WireZigs. No conditions but the kinds' own. -/
import Derived.Test.YtehmneckcfchmaaWi
set_option linter.unusedVariables false
set_option linter.unusedSimpArgs false
namespace Go.Proofs.Ytehmneckcfchmaa
open Go.RowKit Go.Proofs.YtehmneckcfchmaaW.PrintWords

theorem wf_i64 {a : Int} (h : (Lit.int .i64 a).wf = true) : -9223372036854775808 ≤ a ∧ a ≤ 9223372036854775807 := by
  have e1 : IntKind.i64.min = -9223372036854775808 := by decide
  have e2 : IntKind.i64.max = 9223372036854775807 := by decide
  simpa [Lit.wf, e1, e2] using h
theorem wf_u64 {a : Int} (h : (Lit.int .u64 a).wf = true) : ∃ m : Nat, a = m ∧ m < 18446744073709551616 := by
  have e1 : IntKind.u64.min = 0 := by decide
  have e2 : IntKind.u64.max = 18446744073709551615 := by decide
  have h2 : 0 ≤ a ∧ a ≤ 18446744073709551615 := by simpa [Lit.wf, e1, e2] using h
  exact ⟨a.toNat, by omega, by omega⟩

set_option maxHeartbeats 2000000 in
set_option maxRecDepth 100000 in
theorem zigs_calls (n : Int) (m : Nat) (s : ByteArray) (w : World) (h1 : -9223372036854775808 ≤ n) (h2 : n ≤ 9223372036854775807) (hm : m < 18446744073709551616) (hs : s.size ≤ 140737488351232) :
    Calls Try.prog 8 #[.int .i64 n, .int .u64 m, .string s] w fun e w' => e = .returned (.bool true) ∧ Below w.heap.size w w' := by
  have hz := Ws.zig_lt n h1 h2
  have hg := Ws.zag_fits m hm
  have hv := Ws.vi_ten m hm
  go_enter Try.func8, Try.ntmps8
  go_wp2_with fail
  refine (lives_calls _).mono ?_
  rintro e w1 ⟨rfl, hb1⟩
  have HB := Lib.hid hb1
  clear hb1
  go_wp2_with fail
  refine (zig_calls n _ h1 h2).mono ?_
  rintro e w5 ⟨rfl, rfl⟩
  go_wp2_with fail
  refine (zag_calls (Ws.zig n) _ hz).mono ?_
  rw [Ws.zag_zig]
  rintro e w5 ⟨rfl, rfl⟩
  go_wp2_with fail
  refine (zag_calls m _ hm).mono ?_
  rintro e w5 ⟨rfl, rfl⟩
  go_wp2_with fail
  refine (zig_calls (Ws.zag m) _ hg.1 hg.2).mono ?_
  rw [Ws.zig_zag]
  rintro e w5 ⟨rfl, rfl⟩
  go_wp2_with fail
  refine (num_str m _ hm).mono ?_
  rintro e w6 ⟨rfl, hb⟩
  have HB2 := Lib.hid (HB.out.trans (hb.mono HB.out.size))
  clear HB hb
  obtain ⟨t, ht⟩ : ∃ t, t = Ws.vi m := ⟨_, rfl⟩
  rw [← ht] at hv ⊢
  have hnum := Ws.num_vi m s.data.toList hm
  rw [← ht] at hnum
  have ht1 := Ws.vi_one m
  have ht2 := Ws.vi_mono m (m / 2) (by omega)
  rw [← ht] at ht1 ht2
  have Ht := Lib.hid ht
  clear ht
  have hts : (⟨t.toArray⟩ : ByteArray).size = t.length := by simp [ByteArray.size]
  go_wp2_with fail
  have hsz : ((⟨t.toArray⟩ : ByteArray) ++ s).size = t.length + s.size := by rw [ByteArray.size_append, hts]
  have htl : ((⟨t.toArray⟩ : ByteArray) ++ s).data.toList = t ++ s.data.toList := by rw [ByteArray.data_append]; simp
  refine (readnum_calls _ _ (by rw [hsz]; unfold maxLen; omega)).mono ?_
  rw [htl, hnum, hsz]
  have e3 : (((t.length + s.size : Nat) : Int) - (s.data.toList.length : Nat)) = (t.length : Int) := by
    have : s.data.toList.length = s.size := Array.length_toList
    omega
  rw [show ReadNumPost w6 (t.length + s.size) (some (m, s.data.toList)) = fun e w' => e = .returned (.tuple #[.int .u64 m, .int .i64 t.length, .int .i64 0]) ∧ Below w6.heap.size w6 w' from by
    funext e w'; show (_ ∧ _) = _; rw [e3]]
  rintro e w7 ⟨rfl, hb⟩
  have HB3 := Lib.hid (HB2.out.trans (hb.mono HB2.out.size))
  clear HB2 hb htl hsz e3
  have hd : decide ((m : Int) < 128) = ((t.length : Int) == 1) := by
    rw [Bool.eq_iff_iff]
    simp only [decide_eq_true_eq, beq_iff_eq]
    omega
  go_wp2_with fail
  refine (num_str (m / 2) _ (by omega)).mono ?_
  rintro e w8 ⟨rfl, hb⟩
  have HB4 := Lib.hid (HB3.out.trans (hb.mono HB3.out.size))
  clear hb HB3
  obtain ⟨t2, ht2e⟩ : ∃ t, t = Ws.vi (m / 2) := ⟨_, rfl⟩
  rw [← ht2e] at ht2 ⊢
  have hts2 : (⟨t2.toArray⟩ : ByteArray).size = t2.length := by simp [ByteArray.size]
  have h2 : (t2.length : Int) ≤ t.length := by omega
  have h2d : decide ((t2.length : Int) ≤ t.length) = true := decide_eq_true h2
  clear ht2e
  go_wp2_with fail
  go_ret
  exact ⟨rfl, HB4.out⟩
end Go.Proofs.Ytehmneckcfchmaa
