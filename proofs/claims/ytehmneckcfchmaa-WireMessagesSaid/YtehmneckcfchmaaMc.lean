/- The walks of a field's bytes and size, the document's own. No conditions but that the field may be. -/
import Derived.Test.YtehmneckcfchmaaMa
import Derived.Test.YtehmneckcfchmaaMb
set_option linter.unusedVariables false
set_option linter.unusedSimpArgs false
namespace Go.Proofs.Ytehmneckcfchmaa
open Go.RowKit Go.Proofs.YtehmneckcfchmaaW.PrintWords

theorem str_app (a b : List UInt8) : (⟨a.toArray⟩ : ByteArray) ++ (⟨b.toArray⟩ : ByteArray) = ⟨(a ++ b).toArray⟩ := by
  apply ByteArray.ext
  rw [ByteArray.data_append]
  simp

set_option maxHeartbeats 2000000 in
set_option maxRecDepth 100000 in
theorem rone_str (f : Ws.Fd) (w : World) (hmay : Ws.may f = true) (hn : f.n < 2 ^ 64) :
    Calls Try.prog 34 #[fval f] w fun e w' => e = .returned (.string ⟨(Ws.one f).toArray⟩) ∧ Below w.heap.size w w' := by
  obtain ⟨hk1, hk2⟩ := Ws.may_num hmay
  have hw := Ws.may_wire hmay
  obtain ⟨k, x, n, s⟩ := f
  simp only at hk1 hk2 hw hn
  unfold fval
  have hx : x < 8 := by rcases hw with ⟨h | h, _⟩ | ⟨h, _⟩ | ⟨h, _⟩ <;> omega
  obtain ⟨key, hkey⟩ : ∃ key : Nat, key = k.toNat * 8 + x := ⟨_, rfl⟩
  have hki : k * 8 + (x : Int) = (key : Int) := by omega
  have hkl : key < 2 ^ 64 := by omega
  have HKEY := Lib.hid hkey
  clear hkey hmay
  rcases hw with ⟨rfl | rfl, rfl⟩ | ⟨rfl, rfl, h4⟩ | ⟨rfl, rfl, hs⟩
  · have hone : Ws.one ⟨k, 0, n, []⟩ = Ws.vi key ++ Ws.vi n := by rw [HKEY.out]; simp [Ws.one, Ws.body]
    obtain ⟨t1, ht1⟩ : ∃ t, t = Ws.vi key := ⟨_, rfl⟩
    obtain ⟨t2, ht2⟩ : ∃ t, t = Ws.vi n := ⟨_, rfl⟩
    have hl1 : t1.length ≤ 10 := by rw [ht1]; exact Ws.vi_ten key hkl
    have hl2 : t2.length ≤ 10 := by rw [ht2]; exact Ws.vi_ten n hn
    rw [hone, ← ht1, ← ht2]
    have HT1 := Lib.hid ht1.symm
    have HT2 := Lib.hid ht2.symm
    have HAPP := Lib.hid (str_app t1 t2)
    have hki' : k * 8 = (key : Int) := by omega
    clear hone hki ht1 ht2
    go_enter Try.func34, Try.ntmps34
    go_wp2_with fail
    refine (rnum_str key _ hkl).mono ?_
    rw [HT1.out]
    rintro e w1 ⟨rfl, hb⟩
    have hx := blk_below (heap_alloc_new w (.cells #[.int .i64 k, .int .u8 0, .int .u64 n, .string ⟨#[]⟩] 32)) (by simpa using hb)
    have b1 : w1.cell? ⟨w.heap.size, 1, none⟩ = some (.int .u8 0) := blk_cell hx 1
    have b2 : w1.cell? ⟨w.heap.size, 2, none⟩ = some (.int .u64 n) := blk_cell hx 2
    have b3 : w1.cell? ⟨w.heap.size, 3, none⟩ = some (.string ⟨#[]⟩) := blk_cell hx 3
    have HB := Lib.hid (((Below.refl w.heap.size w).alloc (Nat.le_refl _) _).trans (hb.mono (by simp)))
    clear hb hx
    go_wp2_with fail
    refine (rnum_str n _ hn).mono ?_
    rw [HT2.out]
    rintro e w2 ⟨rfl, hb⟩
    have HB2 := Lib.hid (HB.out.trans (hb.mono HB.out.size))
    clear hb
    go_wp2_with fail
    go_ret
    exact ⟨congrArg (fun z => Ending.returned (.string z)) HAPP.out, HB2.out⟩
  · have hone : Ws.one ⟨k, 1, n, []⟩ = Ws.vi key ++ Ws.lo 8 n := by rw [HKEY.out]; simp [Ws.one, Ws.body]
    obtain ⟨t1, ht1⟩ : ∃ t, t = Ws.vi key := ⟨_, rfl⟩
    obtain ⟨t2, ht2⟩ : ∃ t, t = Ws.lo 8 n := ⟨_, rfl⟩
    have hl1 : t1.length ≤ 10 := by rw [ht1]; exact Ws.vi_ten key hkl
    have hl2 : t2.length ≤ 10 := by rw [ht2]; rw [Ws.lo_len]; omega
    rw [hone, ← ht1, ← ht2]
    have HT1 := Lib.hid ht1.symm
    have HT2 := Lib.hid ht2.symm
    have HAPP := Lib.hid (str_app t1 t2)
    have hki' : k * 8 + 1 = (key : Int) := by omega
    clear hone hki ht1 ht2
    go_enter Try.func34, Try.ntmps34
    go_wp2_with fail
    refine (rnum_str key _ hkl).mono ?_
    rw [HT1.out]
    rintro e w1 ⟨rfl, hb⟩
    have hx := blk_below (heap_alloc_new w (.cells #[.int .i64 k, .int .u8 1, .int .u64 n, .string ⟨#[]⟩] 32)) (by simpa using hb)
    have b1 : w1.cell? ⟨w.heap.size, 1, none⟩ = some (.int .u8 1) := blk_cell hx 1
    have b2 : w1.cell? ⟨w.heap.size, 2, none⟩ = some (.int .u64 n) := blk_cell hx 2
    have b3 : w1.cell? ⟨w.heap.size, 3, none⟩ = some (.string ⟨#[]⟩) := blk_cell hx 3
    have HB := Lib.hid (((Below.refl w.heap.size w).alloc (Nat.le_refl _) _).trans (hb.mono (by simp)))
    clear hb hx
    go_wp2_with fail
    refine (rlow_str n 8 _ hn (by decide)).mono ?_
    rw [HT2.out]
    rintro e w2 ⟨rfl, hb⟩
    have HB2 := Lib.hid (HB.out.trans (hb.mono HB.out.size))
    clear hb
    go_wp2_with fail
    go_ret
    exact ⟨congrArg (fun z => Ending.returned (.string z)) HAPP.out, HB2.out⟩
  · have hone : Ws.one ⟨k, 5, n, []⟩ = Ws.vi key ++ Ws.lo 4 n := by rw [HKEY.out]; simp [Ws.one, Ws.body]
    obtain ⟨t1, ht1⟩ : ∃ t, t = Ws.vi key := ⟨_, rfl⟩
    obtain ⟨t2, ht2⟩ : ∃ t, t = Ws.lo 4 n := ⟨_, rfl⟩
    have hl1 : t1.length ≤ 10 := by rw [ht1]; exact Ws.vi_ten key hkl
    have hl2 : t2.length ≤ 10 := by rw [ht2]; rw [Ws.lo_len]; omega
    rw [hone, ← ht1, ← ht2]
    have HT1 := Lib.hid ht1.symm
    have HT2 := Lib.hid ht2.symm
    have HAPP := Lib.hid (str_app t1 t2)
    have hki' : k * 8 + 5 = (key : Int) := by omega
    clear hone hki ht1 ht2
    go_enter Try.func34, Try.ntmps34
    go_wp2_with fail
    refine (rnum_str key _ hkl).mono ?_
    rw [HT1.out]
    rintro e w1 ⟨rfl, hb⟩
    have hx := blk_below (heap_alloc_new w (.cells #[.int .i64 k, .int .u8 5, .int .u64 n, .string ⟨#[]⟩] 32)) (by simpa using hb)
    have b1 : w1.cell? ⟨w.heap.size, 1, none⟩ = some (.int .u8 5) := blk_cell hx 1
    have b2 : w1.cell? ⟨w.heap.size, 2, none⟩ = some (.int .u64 n) := blk_cell hx 2
    have b3 : w1.cell? ⟨w.heap.size, 3, none⟩ = some (.string ⟨#[]⟩) := blk_cell hx 3
    have HB := Lib.hid (((Below.refl w.heap.size w).alloc (Nat.le_refl _) _).trans (hb.mono (by simp)))
    clear hb hx
    go_wp2_with fail
    refine (rlow_str n 4 _ hn (by decide)).mono ?_
    rw [HT2.out]
    rintro e w2 ⟨rfl, hb⟩
    have HB2 := Lib.hid (HB.out.trans (hb.mono HB.out.size))
    clear hb
    go_wp2_with fail
    go_ret
    exact ⟨congrArg (fun z => Ending.returned (.string z)) HAPP.out, HB2.out⟩
  · have hone : Ws.one ⟨k, 2, 0, s⟩ = (Ws.vi key ++ Ws.vi s.length) ++ s := by rw [HKEY.out]; simp [Ws.one, Ws.body]
    obtain ⟨t1, ht1⟩ : ∃ t, t = Ws.vi key := ⟨_, rfl⟩
    obtain ⟨t2, ht2⟩ : ∃ t, t = Ws.vi s.length := ⟨_, rfl⟩
    have hl1 : t1.length ≤ 10 := by rw [ht1]; exact Ws.vi_ten key hkl
    have hl2 : t2.length ≤ 10 := by rw [ht2]; exact Ws.vi_ten _ (by omega)
    rw [hone, ← ht1, ← ht2]
    have HT1 := Lib.hid ht1.symm
    have HT2 := Lib.hid ht2.symm
    have HAPP := Lib.hid (show (⟨t1.toArray⟩ : ByteArray) ++ ⟨t2.toArray⟩ ++ ⟨s.toArray⟩ = ⟨(t1 ++ t2 ++ s).toArray⟩ by rw [str_app, str_app])
    have hki' : k * 8 + 2 = (key : Int) := by omega
    have hss : (⟨s.toArray⟩ : ByteArray).size = s.length := by simp [ByteArray.size]
    clear hone hki ht1 ht2
    go_enter Try.func34, Try.ntmps34
    go_wp2_with fail
    refine (rnum_str key _ hkl).mono ?_
    rw [HT1.out]
    rintro e w1 ⟨rfl, hb⟩
    have hx := blk_below (heap_alloc_new w (.cells #[.int .i64 k, .int .u8 2, .int .u64 0, .string ⟨s.toArray⟩] 32)) (by simpa using hb)
    have HX := Lib.hid hx
    have b1 : w1.cell? ⟨w.heap.size, 1, none⟩ = some (.int .u8 2) := blk_cell hx 1
    have b2 : w1.cell? ⟨w.heap.size, 2, none⟩ = some (.int .u64 0) := blk_cell hx 2
    have b3 : w1.cell? ⟨w.heap.size, 3, none⟩ = some (.string ⟨s.toArray⟩) := blk_cell hx 3
    have HB := Lib.hid (((Below.refl w.heap.size w).alloc (Nat.le_refl _) _).trans (hb.mono (by simp)))
    clear hb hx
    go_wp2
    refine Rg.begin_calm [0, 1, 2, 7, 8] (fun W => W.cell? ⟨w.heap.size, 3, none⟩ = some (.string ⟨s.toArray⟩)) (by kernel_rfl) ?_
    refine Rg.take_ (i := 0) (v := .string ⟨t1.toArray⟩) rfl (by simp) (by kernel_rfl) (fun _ _ _ h => h) (.inl ⟨rfl, ?_⟩) ?_ ?_
    · intro W hW
      go_simp
    · go_simp
    refine Rg.take_ (i := 1) (v := .pointer (some ⟨w.heap.size, 3, none⟩)) rfl (by simp) (by kernel_rfl) (fun _ _ _ h => h) (.inl ⟨rfl, ?_⟩) ?_ ?_
    · intro W hW
      go_simp
    · go_simp
    refine Rg.take_ (i := 2) (v := .string ⟨s.toArray⟩) rfl (by simp) (by kernel_rfl) (fun _ _ _ h => h) (.inl ⟨rfl, ?_⟩) ?_ ?_
    · intro W hW
      go_simp
    · go_simp
    refine Rg.take_ (i := 7) (v := .pointer (some ⟨w.heap.size, 3, none⟩)) rfl (by simp) (by kernel_rfl) (fun _ _ _ h => h) (.inl ⟨rfl, ?_⟩) ?_ ?_
    · intro W hW
      go_simp
    · go_simp
    refine Rg.take_ (i := 8) (v := .string ⟨s.toArray⟩) rfl (by simp) (by kernel_rfl) (fun _ _ _ h => h) (.inl ⟨rfl, ?_⟩) ?_ ?_
    · intro W hW
      go_simp
    · go_simp
    refine Rg.step_ (j := 3) rfl (by kernel_rfl) ?_
    go_wp2
    (try (with_reducible refine And.intro (by go_simp) ?_))
    refine Rg.step_ (j := 4) rfl (by kernel_rfl) ?_
    go_wp2
    (try (with_reducible refine And.intro (by go_simp) ?_))
    refine Rg.step_ (j := 5) rfl (by kernel_rfl) ?_
    go_wp2_with fail
    refine (rnum_str s.length _ (by omega)).mono ?_
    rw [HT2.out]
    rintro e w2 ⟨rfl, hb⟩
    have hb2 := below_undrew hb
    have hx2 := blk_below HX.out hb2
    have b3' : w2.cell? ⟨w.heap.size, 3, none⟩ = some (.string ⟨s.toArray⟩) := blk_cell hx2 3
    have HB2 := Lib.hid (HB.out.trans (hb2.mono HB.out.size))
    clear hb hb2 hx2
    go_wp2
    (try (with_reducible refine And.intro (by go_simp) ?_))
    refine Rg.step_ (j := 6) rfl (by kernel_rfl) ?_
    go_wp2
    (try (with_reducible refine And.intro (by go_simp) ?_))
    refine Rg.step_ (j := 9) rfl (by kernel_rfl) ?_
    go_wp2
    (try (with_reducible refine And.intro (by go_simp) ?_))
    refine Rg.step_ (j := 10) rfl (by kernel_rfl) ?_
    go_wp2
    (try (with_reducible refine And.intro (by go_simp) ?_))
    refine Rg.done_ (by kernel_rfl) ?_ _
    refine Rg.Calm.normal ?_
    go_wp2
    go_ret
    exact ⟨congrArg (fun z => Ending.returned (.string z)) HAPP.out, HB2.out⟩
end Go.Proofs.Ytehmneckcfchmaa
