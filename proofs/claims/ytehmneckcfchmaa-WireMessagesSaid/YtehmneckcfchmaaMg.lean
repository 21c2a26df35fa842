/- The walk of the document's own reading of a field: its ways. No conditions but that the text is no longer than a message may be. -/
import Derived.Test.YtehmneckcfchmaaMf
set_option linter.unusedVariables false
set_option linter.unusedSimpArgs false
namespace Go.Proofs.Ytehmneckcfchmaa
open Go.RowKit Go.Proofs.YtehmneckcfchmaaW.PrintWords

set_option maxHeartbeats 4000000 in
set_option maxRecDepth 100000 in
theorem rfirst_drange (l : List UInt8) (w : World) (hs : l.length ≤ 65536) {t : Nat} {r : List UInt8} (hn : Ws.num l = some (t, r)) (h1 : t / 8 < 1 ∨ 536870911 < t / 8) :
    Calls Try.prog 38 #[.string ⟨l.toArray⟩] w (FirstPost w (.error 10)) := by
  have hu := Try.underlying32
  have htl := Ws.num_lt hn
  obtain ⟨j, hj, hr⟩ := num_at hn
  rw [hr] at hn
  have HN := Lib.hid hn
  clear hn
  obtain ⟨q, hq⟩ : ∃ q, q = t / 8 := ⟨_, rfl⟩
  have e1 : (t : Int) / 8 = (q : Int) := by omega
  rw [← hq] at h1
  have h1' : ((decide ((q : Int) < 1)) || decide (536870911 < (q : Int))) = true := by rw [Bool.or_eq_true, decide_eq_true_eq, decide_eq_true_eq]; omega
  have h3 : (q : Int) < 1 ∨ (1 ≤ (q : Int) ∧ 536870911 < (q : Int)) := by omega
  clear hq h1 h1'
  have hex := Ws.extract_end ⟨l.toArray⟩ j
  have hsz : (⟨l.toArray⟩ : ByteArray).size = l.length := by simp [ByteArray.size]
  have hdr : (⟨l.toArray⟩ : ByteArray).data.toList.drop j = r := by rw [hr]
  rw [hdr, hsz] at hex
  have hrl : r.length ≤ l.length := by rw [hr, List.length_drop]; omega
  have hsr : (⟨r.toArray⟩ : ByteArray).size = r.length := by simp [ByteArray.size]
  have HR := Lib.hid hr
  clear hdr hr
  rcases h3 with h3 | ⟨h3, h4⟩
  all_goals
    go_enter Try.func38, Try.ntmps38
    go_wp2_with fail
    refine (rreadnum_yes l _ hs hj HN.out).mono ?_
    rintro e w1 ⟨rfl, rfl⟩
    go_wp2_with fail
    refine bodyPost_ret (v := .tuple #[.agg #[.int .i64 0, .int .u8 0, .int .u64 0, .string ⟨#[]⟩], .string ⟨#[]⟩, .int .i64 10]) (by simp [results, Try.results38, go_sem]) rfl ⟨⟨⟨0, 0, 0, []⟩, [], rfl⟩, ?_⟩
    exact (Below.refl w.heap.size w).alloc (Nat.le_refl _) _

set_option maxHeartbeats 4000000 in
set_option maxRecDepth 100000 in
theorem rfirst_dwire (l : List UInt8) (w : World) (hs : l.length ≤ 65536) {t : Nat} {r : List UInt8} (hn : Ws.num l = some (t, r)) (h1 : 1 ≤ t / 8) (h2 : t / 8 ≤ 536870911) (h0 : t % 8 ≠ 0 ∧ t % 8 ≠ 1 ∧ t % 8 ≠ 5 ∧ t % 8 ≠ 2) :
    Calls Try.prog 38 #[.string ⟨l.toArray⟩] w (FirstPost w (.error 10)) := by
  have hu := Try.underlying32
  have htl := Ws.num_lt hn
  obtain ⟨j, hj, hr⟩ := num_at hn
  rw [hr] at hn
  have HN := Lib.hid hn
  clear hn
  obtain ⟨q, hq⟩ : ∃ q, q = t / 8 := ⟨_, rfl⟩
  obtain ⟨x, hx⟩ : ∃ x, x = t % 8 := ⟨_, rfl⟩
  have e1 : (t : Int) / 8 = (q : Int) := by omega
  have e2 : (t : Int) % 8 = (x : Int) := by omega
  rw [← hq] at h1 h2
  rw [← hx] at h0
  have hx8 : x < 8 := by omega
  have e0 : ((x : Int) == 0) = false := by rw [beq_eq_false_iff_ne]; omega
  have e01 : ((x : Int) == 1) = false := by rw [beq_eq_false_iff_ne]; omega
  have e05 : ((x : Int) == 5) = false := by rw [beq_eq_false_iff_ne]; omega
  have e02 : ((x : Int) == 2) = false := by rw [beq_eq_false_iff_ne]; omega
  clear hq hx h0
  have hex := Ws.extract_end ⟨l.toArray⟩ j
  have hsz : (⟨l.toArray⟩ : ByteArray).size = l.length := by simp [ByteArray.size]
  have hdr : (⟨l.toArray⟩ : ByteArray).data.toList.drop j = r := by rw [hr]
  rw [hdr, hsz] at hex
  have hrl : r.length ≤ l.length := by rw [hr, List.length_drop]; omega
  have hsr : (⟨r.toArray⟩ : ByteArray).size = r.length := by simp [ByteArray.size]
  have HR := Lib.hid hr
  clear hdr hr
  go_enter Try.func38, Try.ntmps38
  go_wp2_with fail
  refine (rreadnum_yes l _ hs hj HN.out).mono ?_
  rintro e w1 ⟨rfl, rfl⟩
  go_wp2_with fail
  refine bodyPost_ret (v := .tuple #[.agg #[.int .i64 q, .int .u8 x, .int .u64 0, .string ⟨#[]⟩], .string ⟨#[]⟩, .int .i64 10]) (by simp [results, Try.results38, go_sem]) rfl ⟨⟨⟨q, x, 0, []⟩, [], rfl⟩, ?_⟩
  exact ((Below.refl w.heap.size w).alloc (Nat.le_refl _) _).alloc (by simp) _

set_option maxHeartbeats 4000000 in
set_option maxRecDepth 100000 in
theorem rfirst_d1 (l : List UInt8) (w : World) (hs : l.length ≤ 65536) {t : Nat} {r : List UInt8} (hn : Ws.num l = some (t, r)) (h1 : 1 ≤ t / 8) (h2 : t / 8 ≤ 536870911) (h0 : t % 8 = 1) (hl : r.length < 8) :
    Calls Try.prog 38 #[.string ⟨l.toArray⟩] w (FirstPost w (.error 10)) := by
  have hu := Try.underlying32
  have htl := Ws.num_lt hn
  obtain ⟨j, hj, hr⟩ := num_at hn
  rw [hr] at hn
  have HN := Lib.hid hn
  clear hn
  obtain ⟨q, hq⟩ : ∃ q, q = t / 8 := ⟨_, rfl⟩
  have e1 : (t : Int) / 8 = (q : Int) := by omega
  have e2 : (t : Int) % 8 = 1 := by omega
  have hqi : ((t / 8 : Nat) : Int) = (q : Int) := by omega
  rw [← hq] at h1 h2
  clear hq hqi h0
  have hex := Ws.extract_end ⟨l.toArray⟩ j
  have hsz : (⟨l.toArray⟩ : ByteArray).size = l.length := by simp [ByteArray.size]
  have hdr : (⟨l.toArray⟩ : ByteArray).data.toList.drop j = r := by rw [hr]
  rw [hdr, hsz] at hex
  have hrl : r.length ≤ l.length := by rw [hr, List.length_drop]; omega
  have hsr : (⟨r.toArray⟩ : ByteArray).size = r.length := by simp [ByteArray.size]
  have HR := Lib.hid hr
  clear hdr hr
  have hl' : (r.length : Int) < 8 := by omega
  go_enter Try.func38, Try.ntmps38
  go_wp2_with fail
  refine (rreadnum_yes l _ hs hj HN.out).mono ?_
  rintro e w1 ⟨rfl, rfl⟩
  go_wp2_with fail
  refine bodyPost_ret (v := .tuple #[.agg #[.int .i64 q, .int .u8 1, .int .u64 0, .string ⟨#[]⟩], .string ⟨#[]⟩, .int .i64 10]) (by simp [results, Try.results38, go_sem]) rfl ⟨⟨⟨q, 1, 0, []⟩, [], rfl⟩, ?_⟩
  exact ((Below.refl w.heap.size w).alloc (Nat.le_refl _) _).alloc (by simp) _

set_option maxHeartbeats 4000000 in
set_option maxRecDepth 100000 in
theorem rfirst_d5 (l : List UInt8) (w : World) (hs : l.length ≤ 65536) {t : Nat} {r : List UInt8} (hn : Ws.num l = some (t, r)) (h1 : 1 ≤ t / 8) (h2 : t / 8 ≤ 536870911) (h0 : t % 8 = 5) (hl : r.length < 4) :
    Calls Try.prog 38 #[.string ⟨l.toArray⟩] w (FirstPost w (.error 10)) := by
  have hu := Try.underlying32
  have htl := Ws.num_lt hn
  obtain ⟨j, hj, hr⟩ := num_at hn
  rw [hr] at hn
  have HN := Lib.hid hn
  clear hn
  obtain ⟨q, hq⟩ : ∃ q, q = t / 8 := ⟨_, rfl⟩
  have e1 : (t : Int) / 8 = (q : Int) := by omega
  have e2 : (t : Int) % 8 = 5 := by omega
  have hqi : ((t / 8 : Nat) : Int) = (q : Int) := by omega
  rw [← hq] at h1 h2
  clear hq hqi h0
  have hex := Ws.extract_end ⟨l.toArray⟩ j
  have hsz : (⟨l.toArray⟩ : ByteArray).size = l.length := by simp [ByteArray.size]
  have hdr : (⟨l.toArray⟩ : ByteArray).data.toList.drop j = r := by rw [hr]
  rw [hdr, hsz] at hex
  have hrl : r.length ≤ l.length := by rw [hr, List.length_drop]; omega
  have hsr : (⟨r.toArray⟩ : ByteArray).size = r.length := by simp [ByteArray.size]
  have HR := Lib.hid hr
  clear hdr hr
  have hl' : (r.length : Int) < 4 := by omega
  go_enter Try.func38, Try.ntmps38
  go_wp2_with fail
  refine (rreadnum_yes l _ hs hj HN.out).mono ?_
  rintro e w1 ⟨rfl, rfl⟩
  go_wp2_with fail
  refine bodyPost_ret (v := .tuple #[.agg #[.int .i64 q, .int .u8 5, .int .u64 0, .string ⟨#[]⟩], .string ⟨#[]⟩, .int .i64 10]) (by simp [results, Try.results38, go_sem]) rfl ⟨⟨⟨q, 5, 0, []⟩, [], rfl⟩, ?_⟩
  exact ((Below.refl w.heap.size w).alloc (Nat.le_refl _) _).alloc (by simp) _

set_option maxHeartbeats 4000000 in
set_option maxRecDepth 100000 in
theorem rfirst_d2 (l : List UInt8) (w : World) (hs : l.length ≤ 65536) {t : Nat} {r : List UInt8} (hn : Ws.num l = some (t, r)) (h1 : 1 ≤ t / 8) (h2 : t / 8 ≤ 536870911) (h0 : t % 8 = 2) (hn2 : Ws.num r = none) :
    Calls Try.prog 38 #[.string ⟨l.toArray⟩] w (FirstPost w (.error 9)) := by
  have hu := Try.underlying32
  have htl := Ws.num_lt hn
  obtain ⟨j, hj, hr⟩ := num_at hn
  rw [hr] at hn
  have HN := Lib.hid hn
  clear hn
  obtain ⟨q, hq⟩ : ∃ q, q = t / 8 := ⟨_, rfl⟩
  have e1 : (t : Int) / 8 = (q : Int) := by omega
  have e2 : (t : Int) % 8 = 2 := by omega
  have hqi : ((t / 8 : Nat) : Int) = (q : Int) := by omega
  rw [← hq] at h1 h2
  clear hq hqi h0
  have hex := Ws.extract_end ⟨l.toArray⟩ j
  have hsz : (⟨l.toArray⟩ : ByteArray).size = l.length := by simp [ByteArray.size]
  have hdr : (⟨l.toArray⟩ : ByteArray).data.toList.drop j = r := by rw [hr]
  rw [hdr, hsz] at hex
  have hrl : r.length ≤ l.length := by rw [hr, List.length_drop]; omega
  have hsr : (⟨r.toArray⟩ : ByteArray).size = r.length := by simp [ByteArray.size]
  have HR := Lib.hid hr
  clear hdr hr
  have HN2 := Lib.hid hn2
  clear hn2
  go_enter Try.func38, Try.ntmps38
  go_wp2_with fail
  refine (rreadnum_yes l _ hs hj HN.out).mono ?_
  rintro e w1 ⟨rfl, rfl⟩
  go_wp2_with fail
  refine (rreadnum_no r _ (by omega) HN2.out).mono ?_
  rintro e w1 ⟨rfl, rfl⟩
  go_wp2_with fail
  refine bodyPost_ret (v := .tuple #[.agg #[.int .i64 q, .int .u8 2, .int .u64 0, .string ⟨#[]⟩], .string ⟨#[]⟩, .int .i64 9]) (by simp [results, Try.results38, go_sem]) rfl ⟨⟨⟨q, 2, 0, []⟩, [], rfl⟩, ?_⟩
  exact ((Below.refl w.heap.size w).alloc (Nat.le_refl _) _).alloc (by simp) _

set_option maxHeartbeats 4000000 in
set_option maxRecDepth 100000 in
theorem rfirst_d2s (l : List UInt8) (w : World) (hs : l.length ≤ 65536) {t : Nat} {r : List UInt8} (hn : Ws.num l = some (t, r)) (h1 : 1 ≤ t / 8) (h2 : t / 8 ≤ 536870911) (h0 : t % 8 = 2) {m : Nat} {r2 : List UInt8} (hn2 : Ws.num r = some (m, r2)) (hl : r2.length < m) :
    Calls Try.prog 38 #[.string ⟨l.toArray⟩] w (FirstPost w (.error 10)) := by
  have hu := Try.underlying32
  have htl := Ws.num_lt hn
  obtain ⟨j, hj, hr⟩ := num_at hn
  rw [hr] at hn
  have HN := Lib.hid hn
  clear hn
  obtain ⟨q, hq⟩ : ∃ q, q = t / 8 := ⟨_, rfl⟩
  have e1 : (t : Int) / 8 = (q : Int) := by omega
  have e2 : (t : Int) % 8 = 2 := by omega
  have hqi : ((t / 8 : Nat) : Int) = (q : Int) := by omega
  rw [← hq] at h1 h2
  clear hq hqi h0
  have hex := Ws.extract_end ⟨l.toArray⟩ j
  have hsz : (⟨l.toArray⟩ : ByteArray).size = l.length := by simp [ByteArray.size]
  have hdr : (⟨l.toArray⟩ : ByteArray).data.toList.drop j = r := by rw [hr]
  rw [hdr, hsz] at hex
  have hrl : r.length ≤ l.length := by rw [hr, List.length_drop]; omega
  have hsr : (⟨r.toArray⟩ : ByteArray).size = r.length := by simp [ByteArray.size]
  have HR := Lib.hid hr
  clear hdr hr
  have hml := Ws.num_lt hn2
  obtain ⟨j2, hj2, hr2⟩ := num_at hn2
  rw [hr2] at hn2
  have HN2 := Lib.hid hn2
  have hex2 := Ws.extract_end ⟨r.toArray⟩ j2
  have hdr2 : (⟨r.toArray⟩ : ByteArray).data.toList.drop j2 = r2 := by rw [hr2]
  rw [hdr2, hsr] at hex2
  have hsr2 : (⟨r2.toArray⟩ : ByteArray).size = r2.length := by simp [ByteArray.size]
  have hrl2 : r2.length ≤ r.length := by rw [hr2, List.length_drop]; omega
  clear hn2 hr2 hdr2
  have hl' : (r2.length : Int) < (m : Int) := by omega
  go_enter Try.func38, Try.ntmps38
  go_wp2_with fail
  refine (rreadnum_yes l _ hs hj HN.out).mono ?_
  rintro e w1 ⟨rfl, rfl⟩
  go_wp2_with fail
  refine (rreadnum_yes r _ (by omega) hj2 HN2.out).mono ?_
  rintro e w1 ⟨rfl, rfl⟩
  go_wp2_with fail
  refine bodyPost_ret (v := .tuple #[.agg #[.int .i64 q, .int .u8 2, .int .u64 0, .string ⟨#[]⟩], .string ⟨#[]⟩, .int .i64 10]) (by simp [results, Try.results38, go_sem]) rfl ⟨⟨⟨q, 2, 0, []⟩, [], rfl⟩, ?_⟩
  exact ((Below.refl w.heap.size w).alloc (Nat.le_refl _) _).alloc (by simp) _
end Go.Proofs.Ytehmneckcfchmaa
