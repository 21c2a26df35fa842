/- The walk of the document's own reading of a field: its ways. No conditions but that the text is no longer than a message may be. -/
import Derived.Test.YtehmneckcfchmaaMg
import Derived.Test.YtehmneckcfchmaaRh
set_option linter.unusedVariables false
set_option linter.unusedSimpArgs false
namespace Go.Proofs.Ytehmneckcfchmaa
open Go.RowKit Go.Proofs.YtehmneckcfchmaaW.PrintWords

set_option maxHeartbeats 4000000 in
set_option maxRecDepth 100000 in
theorem rfirst_ok0 (l : List UInt8) (w : World) (hs : l.length ≤ 65536) {t : Nat} {r : List UInt8} (hn : Ws.num l = some (t, r)) (h1 : 1 ≤ t / 8) (h2 : t / 8 ≤ 536870911) (h0 : t % 8 = 0) {m : Nat} {r2 : List UInt8} (hn2 : Ws.num r = some (m, r2)) :
    Calls Try.prog 38 #[.string ⟨l.toArray⟩] w (FirstPost w (.ok (⟨(t / 8 : Nat), 0, m, []⟩, r2))) := by
  have hu := Try.underlying32
  have htl := Ws.num_lt hn
  obtain ⟨j, hj, hr⟩ := num_at hn
  rw [hr] at hn
  have HN := Lib.hid hn
  clear hn
  obtain ⟨q, hq⟩ : ∃ q, q = t / 8 := ⟨_, rfl⟩
  have e1 : (t : Int) / 8 = (q : Int) := by omega
  have e2 : (t : Int) % 8 = 0 := by omega
  have hqi : ((t / 8 : Nat) : Int) = (q : Int) := by omega
  rw [← hq] at h1 h2 ⊢
  clear hq hqi h0
  have hex := Ws.extract_end ⟨l.toArray⟩ j
  have hsz : (⟨l.toArray⟩ : ByteArray).size = l.length := by simp [ByteArray.size]
  have hdr : (⟨l.toArray⟩ : ByteArray).data.toList.drop j = r := by rw [hr]
  rw [hdr, hsz] at hex
  have hrl : r.length ≤ l.length := by rw [hr, List.length_drop]; omega
  have hsr : (⟨r.toArray⟩ : ByteArray).size = r.length := by simp [ByteArray.size]
  have HR := Lib.hid hr
  clear hdr hr
  have hml := Ws.num_lt hn2
  obtain ⟨j2, hj2, hr2⟩ := num_at hn2
  rw [hr2] at hn2
  have HN2 := Lib.hid hn2
  have hex2 := Ws.extract_end ⟨r.toArray⟩ j2
  have hdr2 : (⟨r.toArray⟩ : ByteArray).data.toList.drop j2 = r2 := by rw [hr2]
  rw [hdr2, hsr] at hex2
  have hsr2 : (⟨r2.toArray⟩ : ByteArray).size = r2.length := by simp [ByteArray.size]
  have hrl2 : r2.length ≤ r.length := by rw [hr2, List.length_drop]; omega
  clear hn2 hr2 hdr2
  go_enter Try.func38, Try.ntmps38
  go_wp2_with fail
  refine (rreadnum_yes l _ hs hj HN.out).mono ?_
  rintro e w1 ⟨rfl, rfl⟩
  go_wp2_with fail
  refine (rreadnum_yes r _ (by omega) hj2 HN2.out).mono ?_
  rintro e w1 ⟨rfl, rfl⟩
  go_wp2
  obtain ⟨W0, hW0⟩ : ∃ W0, W0 = ((w.alloc (.cells #[.int .i64 0, .int .u8 0, .int .u64 0, .string ⟨#[]⟩] 32)).alloc (.cells #[.int .i64 q, .int .u8 0, .int .u64 m, .string ⟨#[]⟩] 32)) := ⟨_, rfl⟩
  rw [← hW0]
  have HBX := Lib.hid (show W0.heap[w.heap.size + 1]? = some (.cells #[.int .i64 q, .int .u8 0, .int .u64 m, .string ⟨#[]⟩] 32 (0, 0)) from by
    rw [hW0]
    have := heap_alloc_new (w.alloc (.cells #[.int .i64 0, .int .u8 0, .int .u64 0, .string ⟨#[]⟩] 32)) (.cells #[.int .i64 q, .int .u8 0, .int .u64 m, .string ⟨#[]⟩] 32)
    simpa using this)
  have hy : W0.heap[w.heap.size]? = some (.cells #[.int .i64 0, .int .u8 0, .int .u64 0, .string ⟨#[]⟩] 32 (0, 0)) := by
    rw [hW0]
    exact blk_alloc (heap_alloc_new w _) _
  have d0 : W0.cell? ⟨w.heap.size, 0, none⟩ = some (.int .i64 0) := blk_cell hy 0
  have d1 : W0.cell? ⟨w.heap.size, 1, none⟩ = some (.int .u8 0) := blk_cell hy 1
  have d2 : W0.cell? ⟨w.heap.size, 2, none⟩ = some (.int .u64 0) := blk_cell hy 2
  have d3 : W0.cell? ⟨w.heap.size, 3, none⟩ = some (.string ⟨#[]⟩) := blk_cell hy 3
  have z0 : W0.frozen? ⟨w.heap.size, 0, none⟩ = false := blk_frozen hy 0
  have z1 : W0.frozen? ⟨w.heap.size, 1, none⟩ = false := blk_frozen hy 1
  have z2 : W0.frozen? ⟨w.heap.size, 2, none⟩ = false := blk_frozen hy 2
  have z3 : W0.frozen? ⟨w.heap.size, 3, none⟩ = false := blk_frozen hy 3
  have HB := Lib.hid (show Below w.heap.size w W0 from by rw [hW0]; exact ((Below.refl w.heap.size w).alloc (Nat.le_refl _) _).alloc (by simp) _)
  clear hW0 hy
  refine Rg.begin_calm [0, 1, 2, 3, 4] (fun W => W.heap[w.heap.size + 1]? = some (.cells #[.int .i64 q, .int .u8 0, .int .u64 m, .string ⟨#[]⟩] 32 (0, 0))) (by kernel_rfl) ?_
  refine Rg.take_ (i := 0) (v := .agg #[.int .i64 q, .int .u8 0, .int .u64 m, .string ⟨#[]⟩]) rfl (by simp) (by kernel_rfl) (fun _ _ _ h => h) (.inl ⟨rfl, ?_⟩) ?_ ?_
  · intro W hW
    have c0 := blk_cell hW 0
    have c1 := blk_cell hW 1
    have c2 := blk_cell hW 2
    have c3 := blk_cell hW 3
    go_simp
  · exact HBX.out
  refine Rg.take_ (i := 1) (v := .string ⟨r.toArray⟩) rfl (by simp) (by kernel_rfl) (fun _ _ _ h => h) (.inl ⟨rfl, ?_⟩) ?_ ?_
  · intro W hW
    go_simp
  · exact HBX.out
  refine Rg.take_ (i := 2) (v := .int .i64 j2) rfl (by simp) (by kernel_rfl) (fun _ _ _ h => h) (.inl ⟨rfl, ?_⟩) ?_ ?_
  · intro W hW
    go_simp
  · exact HBX.out
  refine Rg.take_ (i := 4) (v := .int .i64 0) rfl (by simp) (by kernel_rfl) (fun _ _ _ h => h) (.inl ⟨rfl, ?_⟩) ?_ ?_
  · intro W hW
    go_simp
  · exact HBX.out
  refine Rg.take_ (i := 3) (v := .string ⟨r2.toArray⟩) rfl (by simp) (by kernel_rfl) (fun _ _ _ h => h) (.inl ⟨rfl, ?_⟩) ?_ ?_
  · intro W hW
    go_simp
  · exact HBX.out
  have HFAR : Hid (((((W0.setCell ⟨w.heap.size, 0, none⟩ (.int .i64 q)).setCell ⟨w.heap.size, 1, none⟩ (.int .u8 0)).setCell ⟨w.heap.size, 2, none⟩ (.int .u64 m)).setCell ⟨w.heap.size, 3, none⟩ (.string ⟨#[]⟩)).drew.heap[w.heap.size + 1]? = some (.cells #[.int .i64 q, .int .u8 0, .int .u64 m, .string ⟨#[]⟩] 32 (0, 0))) := Lib.hid (blk_far (blk_far (blk_far (blk_far HBX.out (p := ⟨w.heap.size, 0, none⟩) (by simp) _) (p := ⟨w.heap.size, 1, none⟩) (by simp) _) (p := ⟨w.heap.size, 2, none⟩) (by simp) _) (p := ⟨w.heap.size, 3, none⟩) (by simp) _)
  refine Rg.step_skip (j := 5) (w' := ((((W0.setCell ⟨w.heap.size, 0, none⟩ (.int .i64 q)).setCell ⟨w.heap.size, 1, none⟩ (.int .u8 0)).setCell ⟨w.heap.size, 2, none⟩ (.int .u64 m)).setCell ⟨w.heap.size, 3, none⟩ (.string ⟨#[]⟩)).drew) rfl (by kernel_rfl) rfl (by go_simp) HFAR.out ?_
  refine Rg.step_run (j := 6) (v := .string ⟨r2.toArray⟩) (w' := ((((W0.setCell ⟨w.heap.size, 0, none⟩ (.int .i64 q)).setCell ⟨w.heap.size, 1, none⟩ (.int .u8 0)).setCell ⟨w.heap.size, 2, none⟩ (.int .u64 m)).setCell ⟨w.heap.size, 3, none⟩ (.string ⟨#[]⟩)).drew) rfl (by kernel_rfl) rfl (by go_simp) HFAR.out ?_
  refine Rg.step_run (j := 7) (v := .int .i64 0) (w' := ((((W0.setCell ⟨w.heap.size, 0, none⟩ (.int .i64 q)).setCell ⟨w.heap.size, 1, none⟩ (.int .u8 0)).setCell ⟨w.heap.size, 2, none⟩ (.int .u64 m)).setCell ⟨w.heap.size, 3, none⟩ (.string ⟨#[]⟩)).drew) rfl (by kernel_rfl) rfl (by go_simp) HFAR.out ?_
  refine Rg.done_ (by kernel_rfl) ?_ _
  refine Rg.Calm.normal ?_
  go_wp2
  refine bodyPost_ret (v := .tuple #[.agg #[.int .i64 q, .int .u8 0, .int .u64 m, .string ⟨#[]⟩], .string ⟨r2.toArray⟩, .int .i64 0]) (by simp [results, Try.results38, go_sem, d0, d1, d2, d3, z0, z1, z2, z3]) rfl ⟨rfl, ?_⟩
  exact ((((HB.out.setCell (Nat.le_refl _) _).setCell (Nat.le_refl _) _).setCell (Nat.le_refl _) _).setCell (Nat.le_refl _) _).drew

set_option maxHeartbeats 4000000 in
set_option maxRecDepth 100000 in
theorem rfirst_d0 (l : List UInt8) (w : World) (hs : l.length ≤ 65536) {t : Nat} {r : List UInt8} (hn : Ws.num l = some (t, r)) (h1 : 1 ≤ t / 8) (h2 : t / 8 ≤ 536870911) (h0 : t % 8 = 0) (hn2 : Ws.num r = none) :
    Calls Try.prog 38 #[.string ⟨l.toArray⟩] w (FirstPost w (.error 9)) := by
  have hu := Try.underlying32
  have htl := Ws.num_lt hn
  obtain ⟨j, hj, hr⟩ := num_at hn
  rw [hr] at hn
  have HN := Lib.hid hn
  clear hn
  obtain ⟨q, hq⟩ : ∃ q, q = t / 8 := ⟨_, rfl⟩
  have e1 : (t : Int) / 8 = (q : Int) := by omega
  have e2 : (t : Int) % 8 = 0 := by omega
  have hqi : ((t / 8 : Nat) : Int) = (q : Int) := by omega
  rw [← hq] at h1 h2
  clear hq hqi h0
  have hex := Ws.extract_end ⟨l.toArray⟩ j
  have hsz : (⟨l.toArray⟩ : ByteArray).size = l.length := by simp [ByteArray.size]
  have hdr : (⟨l.toArray⟩ : ByteArray).data.toList.drop j = r := by rw [hr]
  rw [hdr, hsz] at hex
  have hrl : r.length ≤ l.length := by rw [hr, List.length_drop]; omega
  have hsr : (⟨r.toArray⟩ : ByteArray).size = r.length := by simp [ByteArray.size]
  have HR := Lib.hid hr
  clear hdr hr
  have HN2 := Lib.hid hn2
  have hex2 := Ws.extract_end ⟨r.toArray⟩ 0
  have hdr2 : (⟨r.toArray⟩ : ByteArray).data.toList.drop 0 = r := rfl
  rw [hdr2, hsr] at hex2
  clear hn2 hdr2
  go_enter Try.func38, Try.ntmps38
  go_wp2_with fail
  refine (rreadnum_yes l _ hs hj HN.out).mono ?_
  rintro e w1 ⟨rfl, rfl⟩
  go_wp2_with fail
  refine (rreadnum_no r _ (by omega) HN2.out).mono ?_
  rintro e w1 ⟨rfl, rfl⟩
  go_wp2
  obtain ⟨W0, hW0⟩ : ∃ W0, W0 = ((w.alloc (.cells #[.int .i64 0, .int .u8 0, .int .u64 0, .string ⟨#[]⟩] 32)).alloc (.cells #[.int .i64 q, .int .u8 0, .int .u64 0, .string ⟨#[]⟩] 32)) := ⟨_, rfl⟩
  rw [← hW0]
  have HBX := Lib.hid (show W0.heap[w.heap.size + 1]? = some (.cells #[.int .i64 q, .int .u8 0, .int .u64 0, .string ⟨#[]⟩] 32 (0, 0)) from by
    rw [hW0]
    have := heap_alloc_new (w.alloc (.cells #[.int .i64 0, .int .u8 0, .int .u64 0, .string ⟨#[]⟩] 32)) (.cells #[.int .i64 q, .int .u8 0, .int .u64 0, .string ⟨#[]⟩] 32)
    simpa using this)
  have hy : W0.heap[w.heap.size]? = some (.cells #[.int .i64 0, .int .u8 0, .int .u64 0, .string ⟨#[]⟩] 32 (0, 0)) := by
    rw [hW0]
    exact blk_alloc (heap_alloc_new w _) _
  have d0 : W0.cell? ⟨w.heap.size, 0, none⟩ = some (.int .i64 0) := blk_cell hy 0
  have d1 : W0.cell? ⟨w.heap.size, 1, none⟩ = some (.int .u8 0) := blk_cell hy 1
  have d2 : W0.cell? ⟨w.heap.size, 2, none⟩ = some (.int .u64 0) := blk_cell hy 2
  have d3 : W0.cell? ⟨w.heap.size, 3, none⟩ = some (.string ⟨#[]⟩) := blk_cell hy 3
  have z0 : W0.frozen? ⟨w.heap.size, 0, none⟩ = false := blk_frozen hy 0
  have z1 : W0.frozen? ⟨w.heap.size, 1, none⟩ = false := blk_frozen hy 1
  have z2 : W0.frozen? ⟨w.heap.size, 2, none⟩ = false := blk_frozen hy 2
  have z3 : W0.frozen? ⟨w.heap.size, 3, none⟩ = false := blk_frozen hy 3
  have HB := Lib.hid (show Below w.heap.size w W0 from by rw [hW0]; exact ((Below.refl w.heap.size w).alloc (Nat.le_refl _) _).alloc (by simp) _)
  clear hW0 hy
  refine Rg.begin_calm [0, 1, 2, 3, 4] (fun W => W.heap[w.heap.size + 1]? = some (.cells #[.int .i64 q, .int .u8 0, .int .u64 0, .string ⟨#[]⟩] 32 (0, 0))) (by kernel_rfl) ?_
  refine Rg.take_ (i := 0) (v := .agg #[.int .i64 q, .int .u8 0, .int .u64 0, .string ⟨#[]⟩]) rfl (by simp) (by kernel_rfl) (fun _ _ _ h => h) (.inl ⟨rfl, ?_⟩) ?_ ?_
  · intro W hW
    have c0 := blk_cell hW 0
    have c1 := blk_cell hW 1
    have c2 := blk_cell hW 2
    have c3 := blk_cell hW 3
    go_simp
  · exact HBX.out
  refine Rg.take_ (i := 1) (v := .string ⟨r.toArray⟩) rfl (by simp) (by kernel_rfl) (fun _ _ _ h => h) (.inl ⟨rfl, ?_⟩) ?_ ?_
  · intro W hW
    go_simp
  · exact HBX.out
  refine Rg.take_ (i := 2) (v := .int .i64 0) rfl (by simp) (by kernel_rfl) (fun _ _ _ h => h) (.inl ⟨rfl, ?_⟩) ?_ ?_
  · intro W hW
    go_simp
  · exact HBX.out
  refine Rg.take_ (i := 4) (v := .int .i64 9) rfl (by simp) (by kernel_rfl) (fun _ _ _ h => h) (.inl ⟨rfl, ?_⟩) ?_ ?_
  · intro W hW
    go_simp
  · exact HBX.out
  refine Rg.take_ (i := 3) (v := .string ⟨r.toArray⟩) rfl (by simp) (by kernel_rfl) (fun _ _ _ h => h) (.inl ⟨rfl, ?_⟩) ?_ ?_
  · intro W hW
    go_simp
  · exact HBX.out
  have HFAR : Hid (((((W0.setCell ⟨w.heap.size, 0, none⟩ (.int .i64 q)).setCell ⟨w.heap.size, 1, none⟩ (.int .u8 0)).setCell ⟨w.heap.size, 2, none⟩ (.int .u64 0)).setCell ⟨w.heap.size, 3, none⟩ (.string ⟨#[]⟩)).drew.heap[w.heap.size + 1]? = some (.cells #[.int .i64 q, .int .u8 0, .int .u64 0, .string ⟨#[]⟩] 32 (0, 0))) := Lib.hid (blk_far (blk_far (blk_far (blk_far HBX.out (p := ⟨w.heap.size, 0, none⟩) (by simp) _) (p := ⟨w.heap.size, 1, none⟩) (by simp) _) (p := ⟨w.heap.size, 2, none⟩) (by simp) _) (p := ⟨w.heap.size, 3, none⟩) (by simp) _)
  refine Rg.step_skip (j := 5) (w' := ((((W0.setCell ⟨w.heap.size, 0, none⟩ (.int .i64 q)).setCell ⟨w.heap.size, 1, none⟩ (.int .u8 0)).setCell ⟨w.heap.size, 2, none⟩ (.int .u64 0)).setCell ⟨w.heap.size, 3, none⟩ (.string ⟨#[]⟩)).drew) rfl (by kernel_rfl) rfl (by go_simp) HFAR.out ?_
  refine Rg.step_run (j := 6) (v := .string ⟨r.toArray⟩) (w' := ((((W0.setCell ⟨w.heap.size, 0, none⟩ (.int .i64 q)).setCell ⟨w.heap.size, 1, none⟩ (.int .u8 0)).setCell ⟨w.heap.size, 2, none⟩ (.int .u64 0)).setCell ⟨w.heap.size, 3, none⟩ (.string ⟨#[]⟩)).drew) rfl (by kernel_rfl) rfl (by go_simp) HFAR.out ?_
  refine Rg.step_run (j := 7) (v := .int .i64 9) (w' := ((((W0.setCell ⟨w.heap.size, 0, none⟩ (.int .i64 q)).setCell ⟨w.heap.size, 1, none⟩ (.int .u8 0)).setCell ⟨w.heap.size, 2, none⟩ (.int .u64 0)).setCell ⟨w.heap.size, 3, none⟩ (.string ⟨#[]⟩)).drew) rfl (by kernel_rfl) rfl (by go_simp) HFAR.out ?_
  refine Rg.done_ (by kernel_rfl) ?_ _
  refine Rg.Calm.normal ?_
  go_wp2
  refine bodyPost_ret (v := .tuple #[.agg #[.int .i64 q, .int .u8 0, .int .u64 0, .string ⟨#[]⟩], .string ⟨r.toArray⟩, .int .i64 9]) (by simp [results, Try.results38, go_sem, d0, d1, d2, d3, z0, z1, z2, z3]) rfl ⟨⟨⟨q, 0, 0, []⟩, r, rfl⟩, ?_⟩
  exact ((((HB.out.setCell (Nat.le_refl _) _).setCell (Nat.le_refl _) _).setCell (Nat.le_refl _) _).setCell (Nat.le_refl _) _).drew

set_option maxHeartbeats 4000000 in
set_option maxRecDepth 100000 in
theorem rfirst_ok2 (l : List UInt8) (w : World) (hs : l.length ≤ 65536) {t : Nat} {r : List UInt8} (hn : Ws.num l = some (t, r)) (h1 : 1 ≤ t / 8) (h2 : t / 8 ≤ 536870911) (h0 : t % 8 = 2) {m : Nat} {r2 : List UInt8} (hn2 : Ws.num r = some (m, r2)) (hl : m ≤ r2.length) :
    Calls Try.prog 38 #[.string ⟨l.toArray⟩] w (FirstPost w (.ok (⟨(t / 8 : Nat), 2, 0, r2.take m⟩, r2.drop m))) := by
  have hu := Try.underlying32
  have htl := Ws.num_lt hn
  obtain ⟨j, hj, hr⟩ := num_at hn
  rw [hr] at hn
  have HN := Lib.hid hn
  clear hn
  obtain ⟨q, hq⟩ : ∃ q, q = t / 8 := ⟨_, rfl⟩
  have e1 : (t : Int) / 8 = (q : Int) := by omega
  have e2 : (t : Int) % 8 = 2 := by omega
  have hqi : ((t / 8 : Nat) : Int) = (q : Int) := by omega
  rw [← hq] at h1 h2 ⊢
  clear hq hqi h0
  have hex := Ws.extract_end ⟨l.toArray⟩ j
  have hsz : (⟨l.toArray⟩ : ByteArray).size = l.length := by simp [ByteArray.size]
  have hdr : (⟨l.toArray⟩ : ByteArray).data.toList.drop j = r := by rw [hr]
  rw [hdr, hsz] at hex
  have hrl : r.length ≤ l.length := by rw [hr, List.length_drop]; omega
  have hsr : (⟨r.toArray⟩ : ByteArray).size = r.length := by simp [ByteArray.size]
  have HR := Lib.hid hr
  clear hdr hr
  have hml := Ws.num_lt hn2
  obtain ⟨j2, hj2, hr2⟩ := num_at hn2
  rw [hr2] at hn2
  have HN2 := Lib.hid hn2
  have hex2 := Ws.extract_end ⟨r.toArray⟩ j2
  have hdr2 : (⟨r.toArray⟩ : ByteArray).data.toList.drop j2 = r2 := by rw [hr2]
  rw [hdr2, hsr] at hex2
  have hsr2 : (⟨r2.toArray⟩ : ByteArray).size = r2.length := by simp [ByteArray.size]
  have hrl2 : r2.length ≤ r.length := by rw [hr2, List.length_drop]; omega
  clear hn2 hr2 hdr2
  have hl' : ¬ (r2.length : Int) < (m : Int) := by omega
  have hex3 := Ws.extract_head ⟨r2.toArray⟩ m
  have hex4 := Ws.extract_end ⟨r2.toArray⟩ m
  rw [hsr2] at hex4
  obtain ⟨u, hu1⟩ : ∃ u, u = r2.take m := ⟨_, rfl⟩
  obtain ⟨v, hv1⟩ : ∃ v, v = r2.drop m := ⟨_, rfl⟩
  have hx3 : (⟨r2.toArray⟩ : ByteArray).data.toList.take m = u := hu1.symm
  have hx4 : (⟨r2.toArray⟩ : ByteArray).data.toList.drop m = v := hv1.symm
  rw [hx3] at hex3
  rw [hx4] at hex4
  rw [← hu1, ← hv1]
  clear hx3 hx4 hu1 hv1
  go_enter Try.func38, Try.ntmps38
  go_wp2_with fail
  refine (rreadnum_yes l _ hs hj HN.out).mono ?_
  rintro e w1 ⟨rfl, rfl⟩
  go_wp2_with fail
  refine (rreadnum_yes r _ (by omega) hj2 HN2.out).mono ?_
  rintro e w1 ⟨rfl, rfl⟩
  go_wp2
  obtain ⟨W0, hW0⟩ : ∃ W0, W0 = ((w.alloc (.cells #[.int .i64 0, .int .u8 0, .int .u64 0, .string ⟨#[]⟩] 32)).alloc (.cells #[.int .i64 q, .int .u8 2, .int .u64 0, .string ⟨u.toArray⟩] 32)) := ⟨_, rfl⟩
  rw [← hW0]
  have HBX := Lib.hid (show W0.heap[w.heap.size + 1]? = some (.cells #[.int .i64 q, .int .u8 2, .int .u64 0, .string ⟨u.toArray⟩] 32 (0, 0)) from by
    rw [hW0]
    have := heap_alloc_new (w.alloc (.cells #[.int .i64 0, .int .u8 0, .int .u64 0, .string ⟨#[]⟩] 32)) (.cells #[.int .i64 q, .int .u8 2, .int .u64 0, .string ⟨u.toArray⟩] 32)
    simpa using this)
  have hy : W0.heap[w.heap.size]? = some (.cells #[.int .i64 0, .int .u8 0, .int .u64 0, .string ⟨#[]⟩] 32 (0, 0)) := by
    rw [hW0]
    exact blk_alloc (heap_alloc_new w _) _
  have d0 : W0.cell? ⟨w.heap.size, 0, none⟩ = some (.int .i64 0) := blk_cell hy 0
  have d1 : W0.cell? ⟨w.heap.size, 1, none⟩ = some (.int .u8 0) := blk_cell hy 1
  have d2 : W0.cell? ⟨w.heap.size, 2, none⟩ = some (.int .u64 0) := blk_cell hy 2
  have d3 : W0.cell? ⟨w.heap.size, 3, none⟩ = some (.string ⟨#[]⟩) := blk_cell hy 3
  have z0 : W0.frozen? ⟨w.heap.size, 0, none⟩ = false := blk_frozen hy 0
  have z1 : W0.frozen? ⟨w.heap.size, 1, none⟩ = false := blk_frozen hy 1
  have z2 : W0.frozen? ⟨w.heap.size, 2, none⟩ = false := blk_frozen hy 2
  have z3 : W0.frozen? ⟨w.heap.size, 3, none⟩ = false := blk_frozen hy 3
  have HB := Lib.hid (show Below w.heap.size w W0 from by rw [hW0]; exact ((Below.refl w.heap.size w).alloc (Nat.le_refl _) _).alloc (by simp) _)
  clear hW0 hy
  refine Rg.begin_calm [0, 1, 2, 3] (fun W => W.heap[w.heap.size + 1]? = some (.cells #[.int .i64 q, .int .u8 2, .int .u64 0, .string ⟨u.toArray⟩] 32 (0, 0))) (by kernel_rfl) ?_
  refine Rg.take_ (i := 0) (v := .agg #[.int .i64 q, .int .u8 2, .int .u64 0, .string ⟨u.toArray⟩]) rfl (by simp) (by kernel_rfl) (fun _ _ _ h => h) (.inl ⟨rfl, ?_⟩) ?_ ?_
  · intro W hW
    have c0 := blk_cell hW 0
    have c1 := blk_cell hW 1
    have c2 := blk_cell hW 2
    have c3 := blk_cell hW 3
    go_simp
  · exact HBX.out
  refine Rg.take_ (i := 1) (v := .string ⟨r2.toArray⟩) rfl (by simp) (by kernel_rfl) (fun _ _ _ h => h) (.inl ⟨rfl, ?_⟩) ?_ ?_
  · intro W hW
    go_simp
  · exact HBX.out
  refine Rg.take_ (i := 2) (v := .int .u64 m) rfl (by simp) (by kernel_rfl) (fun _ _ _ h => h) (.inl ⟨rfl, ?_⟩) ?_ ?_
  · intro W hW
    go_simp
  · exact HBX.out
  refine Rg.take_ (i := 3) (v := .string ⟨v.toArray⟩) rfl (by simp) (by kernel_rfl) (fun _ _ _ h => h) (.inl ⟨rfl, ?_⟩) ?_ ?_
  · intro W hW
    go_simp
  · exact HBX.out
  have HFAR : Hid (((((W0.setCell ⟨w.heap.size, 0, none⟩ (.int .i64 q)).setCell ⟨w.heap.size, 1, none⟩ (.int .u8 2)).setCell ⟨w.heap.size, 2, none⟩ (.int .u64 0)).setCell ⟨w.heap.size, 3, none⟩ (.string ⟨u.toArray⟩)).drew.heap[w.heap.size + 1]? = some (.cells #[.int .i64 q, .int .u8 2, .int .u64 0, .string ⟨u.toArray⟩] 32 (0, 0))) := Lib.hid (blk_far (blk_far (blk_far (blk_far HBX.out (p := ⟨w.heap.size, 0, none⟩) (by simp) _) (p := ⟨w.heap.size, 1, none⟩) (by simp) _) (p := ⟨w.heap.size, 2, none⟩) (by simp) _) (p := ⟨w.heap.size, 3, none⟩) (by simp) _)
  refine Rg.step_skip (j := 4) (w' := ((((W0.setCell ⟨w.heap.size, 0, none⟩ (.int .i64 q)).setCell ⟨w.heap.size, 1, none⟩ (.int .u8 2)).setCell ⟨w.heap.size, 2, none⟩ (.int .u64 0)).setCell ⟨w.heap.size, 3, none⟩ (.string ⟨u.toArray⟩)).drew) rfl (by kernel_rfl) rfl (by go_simp) HFAR.out ?_
  refine Rg.step_run (j := 5) (v := .string ⟨v.toArray⟩) (w' := ((((W0.setCell ⟨w.heap.size, 0, none⟩ (.int .i64 q)).setCell ⟨w.heap.size, 1, none⟩ (.int .u8 2)).setCell ⟨w.heap.size, 2, none⟩ (.int .u64 0)).setCell ⟨w.heap.size, 3, none⟩ (.string ⟨u.toArray⟩)).drew) rfl (by kernel_rfl) rfl (by go_simp) HFAR.out ?_
  refine Rg.step_run (j := 6) (v := .int .i64 0) (w' := ((((W0.setCell ⟨w.heap.size, 0, none⟩ (.int .i64 q)).setCell ⟨w.heap.size, 1, none⟩ (.int .u8 2)).setCell ⟨w.heap.size, 2, none⟩ (.int .u64 0)).setCell ⟨w.heap.size, 3, none⟩ (.string ⟨u.toArray⟩)).drew) rfl (by kernel_rfl) rfl (by go_simp) HFAR.out ?_
  refine Rg.done_ (by kernel_rfl) ?_ _
  refine Rg.Calm.normal ?_
  go_wp2
  refine bodyPost_ret (v := .tuple #[.agg #[.int .i64 q, .int .u8 2, .int .u64 0, .string ⟨u.toArray⟩], .string ⟨v.toArray⟩, .int .i64 0]) (by simp [results, Try.results38, go_sem, d0, d1, d2, d3, z0, z1, z2, z3]) rfl ⟨rfl, ?_⟩
  exact ((((HB.out.setCell (Nat.le_refl _) _).setCell (Nat.le_refl _) _).setCell (Nat.le_refl _) _).setCell (Nat.le_refl _) _).drew

set_option maxHeartbeats 4000000 in
set_option maxRecDepth 100000 in
theorem rfirst_ok1 (l : List UInt8) (w : World) (hs : l.length ≤ 65536) {t : Nat} {r : List UInt8} (hn : Ws.num l = some (t, r)) (h1 : 1 ≤ t / 8) (h2 : t / 8 ≤ 536870911) (h0 : t % 8 = 1) (hl : 8 ≤ r.length) :
    Calls Try.prog 38 #[.string ⟨l.toArray⟩] w (FirstPost w (.ok (⟨(t / 8 : Nat), 1, Ws.hi (r.take 8), []⟩, r.drop 8))) := by
  have hu := Try.underlying32
  have htl := Ws.num_lt hn
  obtain ⟨j, hj, hr⟩ := num_at hn
  rw [hr] at hn
  have HN := Lib.hid hn
  clear hn
  obtain ⟨q, hq⟩ : ∃ q, q = t / 8 := ⟨_, rfl⟩
  have e1 : (t : Int) / 8 = (q : Int) := by omega
  have e2 : (t : Int) % 8 = 1 := by omega
  have hqi : ((t / 8 : Nat) : Int) = (q : Int) := by omega
  rw [← hq] at h1 h2 ⊢
  clear hq hqi h0
  have hex := Ws.extract_end ⟨l.toArray⟩ j
  have hsz : (⟨l.toArray⟩ : ByteArray).size = l.length := by simp [ByteArray.size]
  have hdr : (⟨l.toArray⟩ : ByteArray).data.toList.drop j = r := by rw [hr]
  rw [hdr, hsz] at hex
  have hrl : r.length ≤ l.length := by rw [hr, List.length_drop]; omega
  have hsr : (⟨r.toArray⟩ : ByteArray).size = r.length := by simp [ByteArray.size]
  have HR := Lib.hid hr
  clear hdr hr
  have hl' : ¬ (r.length : Int) < 8 := by omega
  have hex3 := Ws.extract_head ⟨r.toArray⟩ 8
  have hex4 := Ws.extract_end ⟨r.toArray⟩ 8
  rw [hsr] at hex4
  obtain ⟨u, hu1⟩ : ∃ u, u = r.take 8 := ⟨_, rfl⟩
  obtain ⟨v, hv1⟩ : ∃ v, v = r.drop 8 := ⟨_, rfl⟩
  have hx3 : (⟨r.toArray⟩ : ByteArray).data.toList.take 8 = u := hu1.symm
  have hx4 : (⟨r.toArray⟩ : ByteArray).data.toList.drop 8 = v := hv1.symm
  have hul : u.length ≤ 8 := by rw [hu1, List.length_take]; omega
  rw [hx3] at hex3
  rw [hx4] at hex4
  rw [← hu1, ← hv1]
  clear hx3 hx4 hu1 hv1
  obtain ⟨g, hg⟩ : ∃ g, g = Ws.hi u := ⟨_, rfl⟩
  rw [← hg]
  have HG := Lib.hid hg.symm
  clear hg
  go_enter Try.func38, Try.ntmps38
  go_wp2_with fail
  refine (rreadnum_yes l _ hs hj HN.out).mono ?_
  rintro e w1 ⟨rfl, rfl⟩
  go_wp2_with fail
  refine (rnumber_calls ⟨u.toArray⟩ _ (by show u.length ≤ 8; exact hul)).mono ?_
  rw [show Ws.hi (⟨u.toArray⟩ : ByteArray).data.toList = g from HG.out]
  rintro e w1 ⟨rfl, rfl⟩
  go_wp2
  obtain ⟨W0, hW0⟩ : ∃ W0, W0 = ((w.alloc (.cells #[.int .i64 0, .int .u8 0, .int .u64 0, .string ⟨#[]⟩] 32)).alloc (.cells #[.int .i64 q, .int .u8 1, .int .u64 g, .string ⟨#[]⟩] 32)) := ⟨_, rfl⟩
  rw [← hW0]
  have HBX := Lib.hid (show W0.heap[w.heap.size + 1]? = some (.cells #[.int .i64 q, .int .u8 1, .int .u64 g, .string ⟨#[]⟩] 32 (0, 0)) from by
    rw [hW0]
    have := heap_alloc_new (w.alloc (.cells #[.int .i64 0, .int .u8 0, .int .u64 0, .string ⟨#[]⟩] 32)) (.cells #[.int .i64 q, .int .u8 1, .int .u64 g, .string ⟨#[]⟩] 32)
    simpa using this)
  have hy : W0.heap[w.heap.size]? = some (.cells #[.int .i64 0, .int .u8 0, .int .u64 0, .string ⟨#[]⟩] 32 (0, 0)) := by
    rw [hW0]
    exact blk_alloc (heap_alloc_new w _) _
  have d0 : W0.cell? ⟨w.heap.size, 0, none⟩ = some (.int .i64 0) := blk_cell hy 0
  have d1 : W0.cell? ⟨w.heap.size, 1, none⟩ = some (.int .u8 0) := blk_cell hy 1
  have d2 : W0.cell? ⟨w.heap.size, 2, none⟩ = some (.int .u64 0) := blk_cell hy 2
  have d3 : W0.cell? ⟨w.heap.size, 3, none⟩ = some (.string ⟨#[]⟩) := blk_cell hy 3
  have z0 : W0.frozen? ⟨w.heap.size, 0, none⟩ = false := blk_frozen hy 0
  have z1 : W0.frozen? ⟨w.heap.size, 1, none⟩ = false := blk_frozen hy 1
  have z2 : W0.frozen? ⟨w.heap.size, 2, none⟩ = false := blk_frozen hy 2
  have z3 : W0.frozen? ⟨w.heap.size, 3, none⟩ = false := blk_frozen hy 3
  have HB := Lib.hid (show Below w.heap.size w W0 from by rw [hW0]; exact ((Below.refl w.heap.size w).alloc (Nat.le_refl _) _).alloc (by simp) _)
  clear hW0 hy
  refine Rg.begin_calm [0, 1, 2, 3] (fun W => W.heap[w.heap.size + 1]? = some (.cells #[.int .i64 q, .int .u8 1, .int .u64 g, .string ⟨#[]⟩] 32 (0, 0))) (by kernel_rfl) ?_
  refine Rg.take_ (i := 0) (v := .agg #[.int .i64 q, .int .u8 1, .int .u64 g, .string ⟨#[]⟩]) rfl (by simp) (by kernel_rfl) (fun _ _ _ h => h) (.inl ⟨rfl, ?_⟩) ?_ ?_
  · intro W hW
    have c0 := blk_cell hW 0
    have c1 := blk_cell hW 1
    have c2 := blk_cell hW 2
    have c3 := blk_cell hW 3
    go_simp
  · exact HBX.out
  refine Rg.take_ (i := 1) (v := .string ⟨r.toArray⟩) rfl (by simp) (by kernel_rfl) (fun _ _ _ h => h) (.inl ⟨rfl, ?_⟩) ?_ ?_
  · intro W hW
    go_simp
  · exact HBX.out
  refine Rg.take_ (i := 2) (v := .int .i64 8) rfl (by simp) (by kernel_rfl) (fun _ _ _ h => h) (.inl ⟨rfl, ?_⟩) ?_ ?_
  · intro W hW
    go_simp
  · exact HBX.out
  refine Rg.take_ (i := 3) (v := .string ⟨v.toArray⟩) rfl (by simp) (by kernel_rfl) (fun _ _ _ h => h) (.inl ⟨rfl, ?_⟩) ?_ ?_
  · intro W hW
    go_simp
  · exact HBX.out
  have HFAR : Hid (((((W0.setCell ⟨w.heap.size, 0, none⟩ (.int .i64 q)).setCell ⟨w.heap.size, 1, none⟩ (.int .u8 1)).setCell ⟨w.heap.size, 2, none⟩ (.int .u64 g)).setCell ⟨w.heap.size, 3, none⟩ (.string ⟨#[]⟩)).drew.heap[w.heap.size + 1]? = some (.cells #[.int .i64 q, .int .u8 1, .int .u64 g, .string ⟨#[]⟩] 32 (0, 0))) := Lib.hid (blk_far (blk_far (blk_far (blk_far HBX.out (p := ⟨w.heap.size, 0, none⟩) (by simp) _) (p := ⟨w.heap.size, 1, none⟩) (by simp) _) (p := ⟨w.heap.size, 2, none⟩) (by simp) _) (p := ⟨w.heap.size, 3, none⟩) (by simp) _)
  refine Rg.step_skip (j := 4) (w' := ((((W0.setCell ⟨w.heap.size, 0, none⟩ (.int .i64 q)).setCell ⟨w.heap.size, 1, none⟩ (.int .u8 1)).setCell ⟨w.heap.size, 2, none⟩ (.int .u64 g)).setCell ⟨w.heap.size, 3, none⟩ (.string ⟨#[]⟩)).drew) rfl (by kernel_rfl) rfl (by go_simp) HFAR.out ?_
  refine Rg.step_run (j := 5) (v := .string ⟨v.toArray⟩) (w' := ((((W0.setCell ⟨w.heap.size, 0, none⟩ (.int .i64 q)).setCell ⟨w.heap.size, 1, none⟩ (.int .u8 1)).setCell ⟨w.heap.size, 2, none⟩ (.int .u64 g)).setCell ⟨w.heap.size, 3, none⟩ (.string ⟨#[]⟩)).drew) rfl (by kernel_rfl) rfl (by go_simp) HFAR.out ?_
  refine Rg.step_run (j := 6) (v := .int .i64 0) (w' := ((((W0.setCell ⟨w.heap.size, 0, none⟩ (.int .i64 q)).setCell ⟨w.heap.size, 1, none⟩ (.int .u8 1)).setCell ⟨w.heap.size, 2, none⟩ (.int .u64 g)).setCell ⟨w.heap.size, 3, none⟩ (.string ⟨#[]⟩)).drew) rfl (by kernel_rfl) rfl (by go_simp) HFAR.out ?_
  refine Rg.done_ (by kernel_rfl) ?_ _
  refine Rg.Calm.normal ?_
  go_wp2
  refine bodyPost_ret (v := .tuple #[.agg #[.int .i64 q, .int .u8 1, .int .u64 g, .string ⟨#[]⟩], .string ⟨v.toArray⟩, .int .i64 0]) (by simp [results, Try.results38, go_sem, d0, d1, d2, d3, z0, z1, z2, z3]) rfl ⟨rfl, ?_⟩
  exact ((((HB.out.setCell (Nat.le_refl _) _).setCell (Nat.le_refl _) _).setCell (Nat.le_refl _) _).setCell (Nat.le_refl _) _).drew

set_option maxHeartbeats 4000000 in
set_option maxRecDepth 100000 in
theorem rfirst_ok5 (l : List UInt8) (w : World) (hs : l.length ≤ 65536) {t : Nat} {r : List UInt8} (hn : Ws.num l = some (t, r)) (h1 : 1 ≤ t / 8) (h2 : t / 8 ≤ 536870911) (h0 : t % 8 = 5) (hl : 4 ≤ r.length) :
    Calls Try.prog 38 #[.string ⟨l.toArray⟩] w (FirstPost w (.ok (⟨(t / 8 : Nat), 5, Ws.hi (r.take 4), []⟩, r.drop 4))) := by
  have hu := Try.underlying32
  have htl := Ws.num_lt hn
  obtain ⟨j, hj, hr⟩ := num_at hn
  rw [hr] at hn
  have HN := Lib.hid hn
  clear hn
  obtain ⟨q, hq⟩ : ∃ q, q = t / 8 := ⟨_, rfl⟩
  have e1 : (t : Int) / 8 = (q : Int) := by omega
  have e2 : (t : Int) % 8 = 5 := by omega
  have hqi : ((t / 8 : Nat) : Int) = (q : Int) := by omega
  rw [← hq] at h1 h2 ⊢
  clear hq hqi h0
  have hex := Ws.extract_end ⟨l.toArray⟩ j
  have hsz : (⟨l.toArray⟩ : ByteArray).size = l.length := by simp [ByteArray.size]
  have hdr : (⟨l.toArray⟩ : ByteArray).data.toList.drop j = r := by rw [hr]
  rw [hdr, hsz] at hex
  have hrl : r.length ≤ l.length := by rw [hr, List.length_drop]; omega
  have hsr : (⟨r.toArray⟩ : ByteArray).size = r.length := by simp [ByteArray.size]
  have HR := Lib.hid hr
  clear hdr hr
  have hl' : ¬ (r.length : Int) < 4 := by omega
  have hex3 := Ws.extract_head ⟨r.toArray⟩ 4
  have hex4 := Ws.extract_end ⟨r.toArray⟩ 4
  rw [hsr] at hex4
  obtain ⟨u, hu1⟩ : ∃ u, u = r.take 4 := ⟨_, rfl⟩
  obtain ⟨v, hv1⟩ : ∃ v, v = r.drop 4 := ⟨_, rfl⟩
  have hx3 : (⟨r.toArray⟩ : ByteArray).data.toList.take 4 = u := hu1.symm
  have hx4 : (⟨r.toArray⟩ : ByteArray).data.toList.drop 4 = v := hv1.symm
  have hul : u.length ≤ 8 := by rw [hu1, List.length_take]; omega
  rw [hx3] at hex3
  rw [hx4] at hex4
  rw [← hu1, ← hv1]
  clear hx3 hx4 hu1 hv1
  obtain ⟨g, hg⟩ : ∃ g, g = Ws.hi u := ⟨_, rfl⟩
  rw [← hg]
  have HG := Lib.hid hg.symm
  clear hg
  go_enter Try.func38, Try.ntmps38
  go_wp2_with fail
  refine (rreadnum_yes l _ hs hj HN.out).mono ?_
  rintro e w1 ⟨rfl, rfl⟩
  go_wp2_with fail
  refine (rnumber_calls ⟨u.toArray⟩ _ (by show u.length ≤ 8; exact hul)).mono ?_
  rw [show Ws.hi (⟨u.toArray⟩ : ByteArray).data.toList = g from HG.out]
  rintro e w1 ⟨rfl, rfl⟩
  go_wp2
  obtain ⟨W0, hW0⟩ : ∃ W0, W0 = ((w.alloc (.cells #[.int .i64 0, .int .u8 0, .int .u64 0, .string ⟨#[]⟩] 32)).alloc (.cells #[.int .i64 q, .int .u8 5, .int .u64 g, .string ⟨#[]⟩] 32)) := ⟨_, rfl⟩
  rw [← hW0]
  have HBX := Lib.hid (show W0.heap[w.heap.size + 1]? = some (.cells #[.int .i64 q, .int .u8 5, .int .u64 g, .string ⟨#[]⟩] 32 (0, 0)) from by
    rw [hW0]
    have := heap_alloc_new (w.alloc (.cells #[.int .i64 0, .int .u8 0, .int .u64 0, .string ⟨#[]⟩] 32)) (.cells #[.int .i64 q, .int .u8 5, .int .u64 g, .string ⟨#[]⟩] 32)
    simpa using this)
  have hy : W0.heap[w.heap.size]? = some (.cells #[.int .i64 0, .int .u8 0, .int .u64 0, .string ⟨#[]⟩] 32 (0, 0)) := by
    rw [hW0]
    exact blk_alloc (heap_alloc_new w _) _
  have d0 : W0.cell? ⟨w.heap.size, 0, none⟩ = some (.int .i64 0) := blk_cell hy 0
  have d1 : W0.cell? ⟨w.heap.size, 1, none⟩ = some (.int .u8 0) := blk_cell hy 1
  have d2 : W0.cell? ⟨w.heap.size, 2, none⟩ = some (.int .u64 0) := blk_cell hy 2
  have d3 : W0.cell? ⟨w.heap.size, 3, none⟩ = some (.string ⟨#[]⟩) := blk_cell hy 3
  have z0 : W0.frozen? ⟨w.heap.size, 0, none⟩ = false := blk_frozen hy 0
  have z1 : W0.frozen? ⟨w.heap.size, 1, none⟩ = false := blk_frozen hy 1
  have z2 : W0.frozen? ⟨w.heap.size, 2, none⟩ = false := blk_frozen hy 2
  have z3 : W0.frozen? ⟨w.heap.size, 3, none⟩ = false := blk_frozen hy 3
  have HB := Lib.hid (show Below w.heap.size w W0 from by rw [hW0]; exact ((Below.refl w.heap.size w).alloc (Nat.le_refl _) _).alloc (by simp) _)
  clear hW0 hy
  refine Rg.begin_calm [0, 1, 2, 3] (fun W => W.heap[w.heap.size + 1]? = some (.cells #[.int .i64 q, .int .u8 5, .int .u64 g, .string ⟨#[]⟩] 32 (0, 0))) (by kernel_rfl) ?_
  refine Rg.take_ (i := 0) (v := .agg #[.int .i64 q, .int .u8 5, .int .u64 g, .string ⟨#[]⟩]) rfl (by simp) (by kernel_rfl) (fun _ _ _ h => h) (.inl ⟨rfl, ?_⟩) ?_ ?_
  · intro W hW
    have c0 := blk_cell hW 0
    have c1 := blk_cell hW 1
    have c2 := blk_cell hW 2
    have c3 := blk_cell hW 3
    go_simp
  · exact HBX.out
  refine Rg.take_ (i := 1) (v := .string ⟨r.toArray⟩) rfl (by simp) (by kernel_rfl) (fun _ _ _ h => h) (.inl ⟨rfl, ?_⟩) ?_ ?_
  · intro W hW
    go_simp
  · exact HBX.out
  refine Rg.take_ (i := 2) (v := .int .i64 4) rfl (by simp) (by kernel_rfl) (fun _ _ _ h => h) (.inl ⟨rfl, ?_⟩) ?_ ?_
  · intro W hW
    go_simp
  · exact HBX.out
  refine Rg.take_ (i := 3) (v := .string ⟨v.toArray⟩) rfl (by simp) (by kernel_rfl) (fun _ _ _ h => h) (.inl ⟨rfl, ?_⟩) ?_ ?_
  · intro W hW
    go_simp
  · exact HBX.out
  have HFAR : Hid (((((W0.setCell ⟨w.heap.size, 0, none⟩ (.int .i64 q)).setCell ⟨w.heap.size, 1, none⟩ (.int .u8 5)).setCell ⟨w.heap.size, 2, none⟩ (.int .u64 g)).setCell ⟨w.heap.size, 3, none⟩ (.string ⟨#[]⟩)).drew.heap[w.heap.size + 1]? = some (.cells #[.int .i64 q, .int .u8 5, .int .u64 g, .string ⟨#[]⟩] 32 (0, 0))) := Lib.hid (blk_far (blk_far (blk_far (blk_far HBX.out (p := ⟨w.heap.size, 0, none⟩) (by simp) _) (p := ⟨w.heap.size, 1, none⟩) (by simp) _) (p := ⟨w.heap.size, 2, none⟩) (by simp) _) (p := ⟨w.heap.size, 3, none⟩) (by simp) _)
  refine Rg.step_skip (j := 4) (w' := ((((W0.setCell ⟨w.heap.size, 0, none⟩ (.int .i64 q)).setCell ⟨w.heap.size, 1, none⟩ (.int .u8 5)).setCell ⟨w.heap.size, 2, none⟩ (.int .u64 g)).setCell ⟨w.heap.size, 3, none⟩ (.string ⟨#[]⟩)).drew) rfl (by kernel_rfl) rfl (by go_simp) HFAR.out ?_
  refine Rg.step_run (j := 5) (v := .string ⟨v.toArray⟩) (w' := ((((W0.setCell ⟨w.heap.size, 0, none⟩ (.int .i64 q)).setCell ⟨w.heap.size, 1, none⟩ (.int .u8 5)).setCell ⟨w.heap.size, 2, none⟩ (.int .u64 g)).setCell ⟨w.heap.size, 3, none⟩ (.string ⟨#[]⟩)).drew) rfl (by kernel_rfl) rfl (by go_simp) HFAR.out ?_
  refine Rg.step_run (j := 6) (v := .int .i64 0) (w' := ((((W0.setCell ⟨w.heap.size, 0, none⟩ (.int .i64 q)).setCell ⟨w.heap.size, 1, none⟩ (.int .u8 5)).setCell ⟨w.heap.size, 2, none⟩ (.int .u64 g)).setCell ⟨w.heap.size, 3, none⟩ (.string ⟨#[]⟩)).drew) rfl (by kernel_rfl) rfl (by go_simp) HFAR.out ?_
  refine Rg.done_ (by kernel_rfl) ?_ _
  refine Rg.Calm.normal ?_
  go_wp2
  refine bodyPost_ret (v := .tuple #[.agg #[.int .i64 q, .int .u8 5, .int .u64 g, .string ⟨#[]⟩], .string ⟨v.toArray⟩, .int .i64 0]) (by simp [results, Try.results38, go_sem, d0, d1, d2, d3, z0, z1, z2, z3]) rfl ⟨rfl, ?_⟩
  exact ((((HB.out.setCell (Nat.le_refl _) _).setCell (Nat.le_refl _) _).setCell (Nat.le_refl _) _).setCell (Nat.le_refl _) _).drew
end Go.Proofs.Ytehmneckcfchmaa
