/- The walk of the document's own Write. No conditions but the kinds' own. -/
import Derived.Test.YtehmneckcfchmaaMd
set_option linter.unusedVariables false
set_option linter.unusedSimpArgs false
namespace Go.Proofs.Ytehmneckcfchmaa
open Go.RowKit Go.Proofs.YtehmneckcfchmaaW.PrintWords

set_option maxHeartbeats 4000000 in
set_option maxRecDepth 100000 in
theorem rwrite_calls (xs : List Ws.Fd) (A : Option Addr) (c : Nat) (w : World) (hC : kF.C w A xs.length xs) (hF : ∀ f ∈ xs, Fits f) (hl : xs.length ≤ 9223372036854775807) :
    Calls Try.prog 12 #[.slice A xs.length c] w (WritePost w (Ws.write xs)) := by
  obtain ⟨res, hres⟩ : ∃ r, r = Ws.write xs := ⟨_, rfl⟩
  rw [← hres]
  have HW := Lib.hid hres
  have HC := Lib.hid hC
  have HF := Lib.hid hF
  clear hC hF hres
  by_cases hbig : 4096 < xs.length
  · have hr : res = ([], 3) := by rw [HW.out]; unfold Ws.write; rw [if_pos hbig]
    subst hr
    have h' : (4096 : Int) < (xs.length : Int) := by omega
    clear hbig
    go_enter Try.func12, Try.ntmps12
    go_wp2
    go_ret2
    exact ⟨rfl, Below.refl _ _⟩
  have h' : ¬ (4096 : Int) < (xs.length : Int) := by omega
  have hWr := Lib.hid (HW.out.trans (Ws.write_of xs (by omega)))
  go_enter Try.func12, Try.ntmps12
  go_wp2
  go_loopw [14] (fun i wr => ∃ k : Nat, k ≤ xs.length ∧ i = .int .i64 k ∧ Hid ((xs.take k).all Ws.may = true) ∧ Hid (Below w.heap.size w wr)) (fun i _ => xs.length - (intOf i).toNat)
  case atStart => exact ⟨0, Nat.zero_le _, rfl, Lib.hid rfl, Lib.hid (Below.refl _ _)⟩
  case round =>
    obtain ⟨k, hk, rfl, HM, HB⟩ := hrel
    by_cases hkn : k < xs.length
    · obtain ⟨x, hx⟩ : ∃ x, xs[k]? = some x := ⟨xs[k], List.getElem?_eq_getElem hkn⟩
      obtain ⟨ad, rfl, c0, c1, c2, c3⟩ := cellsF_at (Kd.C_below HC.out HB.out) k hkn x hx
      have hxs := (HF.out x (List.mem_of_getElem? hx)).s
      have HX := Lib.hid hx
      clear hx
      cases hm : Ws.may x
      · have Hm := Lib.hid hm
        clear hm
        have hr : res = ([], 2) := by
          rw [hWr.out, if_neg]
          intro hh
          rw [List.all_eq_true] at hh
          have := hh x (List.mem_of_getElem? HX.out)
          rw [Hm.out] at this; cases this
        subst hr
        go_wp2_with fail
        refine (rmay_of x _ hxs).mono ?_
        rw [Hm.out]
        rintro e w1 ⟨rfl, hb⟩
        have Hb := Lib.hid ((HB.out.alloc HB.out.size _).trans (hb.mono (by have := HB.out.size; simp; omega)))
        clear hb
        go_wp2_with fail
        go_ret2
        exact ⟨rfl, Hb.out⟩
      · have Hm := Lib.hid hm
        clear hm
        go_wp2_with fail
        refine (rmay_of x _ hxs).mono ?_
        rw [Hm.out]
        rintro e w1 ⟨rfl, hb⟩
        have Hb := Lib.hid ((HB.out.alloc HB.out.size _).trans (hb.mono (by have := HB.out.size; simp; omega)))
        clear hb
        go_wp2_with fail
        go_roundw
        case rel => exact ⟨k + 1, by omega, by go_num, all_more _ _ _ HX.out HM.out Hm.out, Hb⟩
        case measure => simp [intOf]; omega
    · have hkk : k = xs.length := by omega
      subst hkk
      rw [List.take_length] at HM
      obtain ⟨wo, hwo⟩ : ∃ wo : World, wo = wr := ⟨_, rfl⟩
      rw [← hwo] at HB ⊢
      clear hwo
      go_wp2_with fail
      go_loopw [6, 24] (fun v i wr => ∃ k : Nat, k ≤ xs.length ∧ i = .int .i64 k ∧ (Ws.bytes (xs.take k)).length ≤ 65536 ∧ Hid (kB.R 5 wr w.heap.size (fun _ => True) v (Ws.bytes (xs.take k))) ∧ Hid (Below w.heap.size w wr)) (fun _ i _ => xs.length - (intOf i).toNat)
      case atStart => exact ⟨0, Nat.zero_le _, rfl, by simp [Ws.bytes], Lib.hid (by rw [List.take_zero]; exact Kd.R_nil _ _ _ _ _), HB⟩
      case round =>
        clear HB
        obtain ⟨k, hk, rfl, hbl, HO, HB⟩ := hrel
        obtain ⟨D, hD⟩ : ∃ D, D = Ws.bytes (xs.take k) := ⟨_, rfl⟩
        rw [← hD] at HO hbl
        have HD := Lib.hid hD
        clear hD
        obtain ⟨B, cp, rfl⟩ := Kd.R_slice HO.out
        by_cases hkn : k < xs.length
        · obtain ⟨x, hx⟩ : ∃ x, xs[k]? = some x := ⟨xs[k], List.getElem?_eq_getElem hkn⟩
          obtain ⟨ad, rfl, c0, c1, c2, c3⟩ := cellsF_at (Kd.C_below HC.out HB.out) k hkn x hx
          have hxn := (HF.out x (List.mem_of_getElem? hx)).n
          have hxm : Ws.may x = true := (List.all_eq_true.1 HM.out) x (List.mem_of_getElem? hx)
          have hole := one_le x hxm hxn
          have HXM := Lib.hid hxm
          obtain ⟨t, ht⟩ : ∃ t, t = Ws.one x := ⟨_, rfl⟩
          rw [← ht] at hole
          have HN := Lib.hid (show Ws.bytes (xs.take (k + 1)) = D ++ t by rw [bytes_more _ _ _ hx, HD.out, ht])
          have HT := Lib.hid ht.symm
          have hws := HB.out.size
          clear hx hxm ht
          go_wp2_with fail
          refine (rone_of x _ HXM.out hxn).mono ?_
          rw [HT.out]
          rintro e w1 ⟨rfl, hb⟩
          have HO1 := Lib.hid (Kd.R_below (Kd.R_below HO.out (Below.alloc (Below.refl _ _) (Nat.le_refl _) (.cells #[.int .i64 x.k, .int .u8 x.w, .int .u64 x.n, .string ⟨x.s.toArray⟩] 32))) hb)
          have HB1 := Lib.hid ((HB.out.alloc HB.out.size _).trans (hb.mono (by simp; omega)))
          have hown := Lib.hid (kB_bytes2 HO1.out)
          have hlen3 : (D.map fun b => (b.toNat : Int)).length = D.length := by simp
          have HL3 := Lib.hid hlen3
          clear hb hlen3
          have hw1 := HB1.out.size
          by_cases hlong : (65536 : Int) < (D.length : Int) + (t.length : Int)
          · have hr : res = ([], 4) := by
              rw [hWr.out, if_pos HM.out, if_pos]
              have h1 := part_len xs (k + 1)
              rw [HN.out, List.length_append] at h1
              omega
            subst hr
            go_wp2_with (at_builtin; refine print_append_str (w0 := w1) w.heap.size rfl (.tmp 28) (.tmp 30) 52 9 5 rfl Try.underlying52 Try.underlying9 infoB (.slice B D.length cp) (D.map fun b => (b.toNat : Int)) ⟨t.toArray⟩ rfl rfl hown.out (Below.refl _ _) hw1 (by show _ + t.length ≤ _; rw [HL3.out]; omega) ?_; intro v3 W3 ho hb hg; have Hr3 := Lib.hid (kB_str ho); have Hb3 := Lib.hid (HB1.out.trans hb); obtain ⟨B3, cp3, rfl⟩ := Kd.R_slice Hr3.out; clear ho hb hg)
            go_ret2
            exact ⟨rfl, Hb3.out⟩
          · have hshort : (Ws.bytes (xs.take (k + 1))).length ≤ 65536 := by rw [HN.out, List.length_append]; omega
            have HS := Lib.hid hshort
            clear hshort
            go_wp2_with (at_builtin; refine print_append_str (w0 := w1) w.heap.size rfl (.tmp 28) (.tmp 30) 52 9 5 rfl Try.underlying52 Try.underlying9 infoB (.slice B D.length cp) (D.map fun b => (b.toNat : Int)) ⟨t.toArray⟩ rfl rfl hown.out (Below.refl _ _) hw1 (by show _ + t.length ≤ _; rw [HL3.out]; omega) ?_; intro v3 W3 ho hb hg; have Hr3 := Lib.hid (kB_str ho); have Hb3 := Lib.hid (HB1.out.trans hb); obtain ⟨B3, cp3, rfl⟩ := Kd.R_slice Hr3.out; clear ho hb hg)
            go_roundw
            case rel =>
              refine ⟨k + 1, by omega, by go_num, HS.out, ?_, Hb3⟩
              rw [HN.out, ← List.length_append]
              exact Hr3
            case measure => simp [intOf]; omega
        · have hkk : k = xs.length := by omega
          subst hkk
          rw [List.take_length] at HD
          have hr : res = (D, 0) := by rw [hWr.out, if_pos HM.out, ← HD.out, if_neg (by omega)]
          subst hr
          obtain ⟨A1, c1, he, ho⟩ := kB_bytes HO.out
          have hcv := own_string (P := Try.prog) Try.underlying52 Try.underlying5 Try.underlying9 (by rw [he] at ho; exact ho)
          rw [← he, str_bytes] at hcv
          have hlt : ¬ ((xs.length : Int) < (xs.length : Int)) := by omega
          clear ho he
          go_wp2
          go_ret2
          exact ⟨rfl, HB.out⟩
end Go.Proofs.Ytehmneckcfchmaa
