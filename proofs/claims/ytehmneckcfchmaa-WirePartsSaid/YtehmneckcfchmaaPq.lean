/- The walk of WireParts itself. No conditions but the kinds' own. -/
import Derived.Test.YtehmneckcfchmaaPp
set_option linter.unusedVariables false
set_option linter.unusedSimpArgs false
namespace Go.Proofs.Ytehmneckcfchmaa
open Go.RowKit Go.Proofs.YtehmneckcfchmaaW.PrintWords

set_option maxHeartbeats 4000000 in
set_option maxRecDepth 100000 in
theorem parts_calls (xs ys : List Ws.Fd) (A B : Option Addr) (c d : Nat) (at_ : Int) (w : World) (hC : kF.C w A xs.length xs) (hD : kF.C w B ys.length ys) (hc : xs.length ≤ c)
    (hn : ∀ f ∈ xs, f.n < 2 ^ 64) (hm : ∀ f ∈ ys, f.n < 2 ^ 64) (hl : xs.length * 40 ≤ 140737488351232) (hl2 : ys.length * 40 ≤ 140737488351232) (ha1 : -9223372036854775808 ≤ at_) (ha2 : at_ ≤ 9223372036854775807) :
    Calls Try.prog 5 #[.slice A xs.length c, .slice B ys.length d, .int .i64 at_] w fun e w' => e = .returned (.bool true) ∧ Below w.heap.size w w' := by
  have HC := Lib.hid hC
  have HD := Lib.hid hD
  have HN := Lib.hid hn
  have HM := Lib.hid hm
  have hu := Try.underlying32
  obtain ⟨x, k1, hw1⟩ : ∃ s k, Ws.write xs = (s, k) := ⟨_, _, rfl⟩
  obtain ⟨y, k2, hw2⟩ : ∃ s k, Ws.write ys = (s, k) := ⟨_, _, rfl⟩
  have HW1 := Lib.hid hw1
  have HW2 := Lib.hid hw2
  clear hC hD hn hm hw1 hw2
  go_enter Try.func5, Try.ntmps5
  go_wp2_with fail
  refine (lives_calls _).mono ?_
  rintro e w1 ⟨rfl, hb1⟩
  have HB := Lib.hid hb1
  clear hb1
  go_wp2_with fail
  refine (write_calls xs A c w1 (Kd.C_below HC.out HB.out) HN.out).mono ?_
  rw [HW1.out]
  rintro e w2 ⟨rfl, hb⟩
  have HB2 := Lib.hid (HB.out.trans (hb.mono HB.out.size))
  clear hb HB
  go_wp2_with fail
  refine (write_calls ys B d w2 (Kd.C_below HD.out HB2.out) HM.out).mono ?_
  rw [HW2.out]
  rintro e w3 ⟨rfl, hb⟩
  have HB3 := Lib.hid (HB2.out.trans (hb.mono HB2.out.size))
  clear hb HB2
  by_cases hk1 : k1 = 0
  · by_cases hk2 : k2 = 0
    · subst hk1
      subst hk2
      have hx4 := (Ws.write_ok HW1.out).1
      have hy4 := (Ws.write_ok HW2.out).1
      have hxl : x.length ≤ 65536 := by have h := (Ws.write_ok HW1.out).2.2; rw [h.1]; exact h.2
      have hyl : y.length ≤ 65536 := by have h := (Ws.write_ok HW2.out).2.2; rw [h.1]; exact h.2
      have hrt := Ws.read_two xs ys x y HN.out HM.out HW1.out HW2.out
      have HRT1 := Lib.hid hrt.1
      have HRT2 := Lib.hid hrt.2
      clear hrt
      have hsx : (⟨x.toArray⟩ : ByteArray).size = x.length := by simp [ByteArray.size]
      have hsy : (⟨y.toArray⟩ : ByteArray).size = y.length := by simp [ByteArray.size]
      go_wp2_with fail
      refine (read_calls ((⟨x.toArray⟩ : ByteArray) ++ (⟨y.toArray⟩ : ByteArray)) _).mono ?_
      have htl : ((⟨x.toArray⟩ : ByteArray) ++ ⟨y.toArray⟩).data.toList = x ++ y := by rw [ByteArray.data_append]; simp
      rw [htl]
      clear htl
      obtain ⟨r, k3, hr3⟩ : ∃ s k, Ws.read (x ++ y) = (s, k) := ⟨_, _, rfl⟩
      rw [hr3]
      have HR3 := Lib.hid hr3
      clear hr3
      rintro e w4 ⟨v, rfl, hr, hb⟩
      have HB4 := Lib.hid (HB3.out.trans (hb.mono HB3.out.size))
      obtain ⟨E, q, rfl, _, hE⟩ := Kd.R_reads hr
      have HE := Lib.hid hE
      clear hr hb hE HB3
      by_cases hbig : 65536 < x.length + y.length ∨ 4096 < xs.length + ys.length
      · obtain ⟨k, hk, hk34⟩ := HRT1.out hbig
        rw [HR3.out] at hk
        obtain ⟨rfl, rfl⟩ : r = [] ∧ k3 = k := by rw [Prod.mk.injEq] at hk; exact hk
        have hb1 : (65536 : Int) < (x.length : Int) + (y.length : Int) ∨ (4096 : Int) < (xs.length : Int) + (ys.length : Int) := by omega
        have hk34' : (k3 : Int) = 4 ∨ (k3 : Int) = 3 := by omega
        clear hk
        rcases hk34 with rfl | rfl
        all_goals
          by_cases hx1 : (65536 : Int) < (x.length : Int) + (y.length : Int)
          · go_wp2_with fail
            go_ret
            exact ⟨rfl, HB4.out⟩
          · have hx2 : (4096 : Int) < (xs.length : Int) + (ys.length : Int) := by omega
            go_wp2_with fail
            go_ret
            exact ⟨rfl, HB4.out⟩
      · have hr2 := HRT2.out hbig
        rw [HR3.out] at hr2
        obtain ⟨hrr, rfl⟩ : r = xs ++ ys ∧ k3 = 0 := by rw [Prod.mk.injEq] at hr2; exact hr2
        have HRR := Lib.hid hrr
        have hrl : r.length ≤ 4096 := by rw [hrr, List.length_append]; omega
        have hl3 : (xs.length + ys.length) * 40 ≤ 140737488355328 := by omega
        have hl0 : (0 + xs.length) * 40 ≤ 140737488355328 := by omega
        have hws := HB4.out.size
        clear hr2 hrr HRT1 HRT2
        have hb1 : ¬ (65536 : Int) < (x.length : Int) + (y.length : Int) := by omega
        have hb2 : ¬ (4096 : Int) < (xs.length : Int) + (ys.length : Int) := by omega
        clear hbig
        have hHL3 := Lib.hid hl3
        have hHL0 := Lib.hid hl0
        clear hl3 hl0
        go_wp2_with (first
          | (at_builtin; refine append_rows_g kF (w0 := w4) w.heap.size (by rfl) (.tmp 67) (.tmp 68) 22 32 _ 40 rfl Try.underlying22 infoF rfl (by decide) (by decide) (.slice (some ⟨w4.heap.size, 0, none⟩) 0 0) [] xs A xs.length c (fun _ => True) (fun _ => False) rfl rfl ?hO ?hR (fun x cs h => kF_of _ _ _ x cs h) (fun _ hk => hk.elim) (fun _ _ => trivial) ?hB ?hbs hHL0.out ?_; (case hO => exact kF_none w4 w.heap.size HB4.out.size); (case hR => exact Kd.C_below (Kd.C_below HC.out HB4.out) (Below.alloc (Below.refl _ _) (Nat.le_refl _) _)); (case hB => exact Below.alloc (Below.refl _ _) hws _); (case hbs => exact Nat.le_trans hws (by simp)); intro v1 w5 ho hb hg hat; rw [List.nil_append] at ho; have HB5 := Lib.hid (HB4.out.trans hb); have HB45 := Lib.hid (Below.grown (Below.alloc (Below.refl w4.heap.size w4) (Nat.le_refl _) _) hg (by simp) (fun k hk => by simp [Value.ownBlock] at hk; omega)); have HAT := Lib.hid (show ∀ k, v1.ownBlock = some k → w4.heap.size ≤ k from fun k hk => by
              rcases hat with he | ⟨b, he, hbb⟩
              · rw [he] at hk; simp [Value.ownBlock] at hk; omega
              · rw [he] at hk; simp at hk hbb; omega); obtain ⟨A1, c1, rfl⟩ := Kd.R_slice ho; have HO1 := Lib.hid ho; clear ho hb hg hat)
          | (at_builtin; refine append_rows_g kF (w0 := w5) w.heap.size (by rfl) (.tmp 69) (.tmp 70) 22 32 _ 40 rfl Try.underlying22 infoF rfl (by decide) (by decide) (.slice A1 xs.length c1) xs ys B ys.length d (fun _ => True) (fun _ => False) rfl rfl ?hO ?hR (fun x cs h => kF_of _ _ _ x cs h) (fun _ hk => hk.elim) (fun _ _ => trivial) ?hB ?hbs hHL3.out ?_; (case hO => exact HO1.out); (case hR => exact Kd.C_below HD.out HB5.out); (case hB => exact Below.refl _ _); (case hbs => exact HB5.out.size); intro v1 w6 ho hb hg hat; rw [← HRR.out] at ho; have HB6 := Lib.hid (HB5.out.trans hb); have HG6 := Lib.hid hg; obtain ⟨A2, c2, rfl⟩ := Kd.R_slice ho; have HO2 := Lib.hid ho; clear ho hb hg hat)
          | fail)
        have HE6 := Lib.hid (Kd.C_below HE.out (Below.grown HB45.out HG6.out HB45.out.size HAT.out))
        obtain ⟨_, _, hO6⟩ := Kd.R_reads' HO2.out
        refine (same_calls r r E A2 q c2 w6 HE6.out hO6 (by omega)).mono ?_
        rw [decide_eq_true rfl]
        rintro e w7 ⟨rfl, hb⟩
        have HB7 := Lib.hid (HB6.out.trans (hb.mono HB6.out.size))
        clear hO6 HE6 HO2 HG6 HO1 HAT HB45 HB5 HB6 HE HRR HR3 hb
        by_cases hat1 : at_ < 0
        · go_wp2_with fail
          go_ret
          exact ⟨rfl, HB7.out⟩
        · by_cases hat2 : (x.length : Int) < at_
          · go_wp2_with fail
            go_ret
            exact ⟨rfl, HB7.out⟩
          · obtain ⟨m, rfl⟩ : ∃ m : Nat, at_ = m := ⟨at_.toNat, by omega⟩
            have hmx : m ≤ x.length := by omega
            clear hat1 hat2 ha1 ha2
            have hex := Ws.extract_head ⟨x.toArray⟩ m
            obtain ⟨j, k4, hj, hrd, hsum⟩ := Ws.read_cut xs x m HN.out HW1.out
            have HRD := Lib.hid hrd
            have HSUM := Lib.hid hsum
            obtain ⟨T, hT⟩ : ∃ T, T = xs.take j := ⟨_, rfl⟩
            have hTl : T.length = j := by rw [hT, List.length_take, Nat.min_eq_left hj]
            have hTn : ∀ f ∈ T, f.n < 2 ^ 64 := fun f hf => HN.out f (List.mem_of_mem_take (by rw [← hT]; exact hf))
            rw [← hT] at HRD HSUM
            have HTN := Lib.hid hTn
            have HT := Lib.hid hT
            clear hrd hsum hTn hT
            have hTx : T.length ≤ xs.length := by omega
            have hTi : (T.length : Int) ≤ (xs.length : Int) := by omega
            have hTc : T.length ≤ c := by omega
            have HTL := Lib.hid hTl
            clear hTl hj
            go_wp2_with fail
            refine (read_calls ⟨(x.take m).toArray⟩ _).mono ?_
            show ∀ e w', ReadPost _ (Ws.read (x.take m)) e w' → _
            rw [HRD.out]
            rintro e w8 ⟨v, rfl, hr, hb⟩
            have HB8 := Lib.hid (HB7.out.trans (hb.mono HB7.out.size))
            obtain ⟨G, c8, rfl, _, hG⟩ := Kd.R_reads hr
            have HG := Lib.hid hG
            clear hr hb hG HB7 hex
            go_wp2_with fail
            go_loopw [15, 92] (fun s i wr => ∃ k : Nat, k ≤ T.length ∧ i = .int .i64 k ∧ s = .int .i64 (sizes (T.take k)) ∧ Hid (Below w.heap.size w wr) ∧ Hid (Below w8.heap.size w8 wr)) (fun _ i _ => T.length - (intOf i).toNat)
            case atStart => exact ⟨0, Nat.zero_le _, rfl, rfl, HB8, Below.refl _ _⟩
            case round =>
              clear HB8
              obtain ⟨k, hk, rfl, rfl, HB, HB3⟩ := hrel
              by_cases hkn : k < T.length
              · obtain ⟨f, hf⟩ : ∃ f, T[k]? = some f := ⟨T[k], List.getElem?_eq_getElem hkn⟩
                obtain ⟨ad, rfl, c0, c1, c2, c3⟩ := cellsF_at (Kd.C_below HG.out HB3.out) k hkn f hf
                have hxn := HTN.out f (List.mem_of_getElem? hf)
                have hxs := size_le f hxn
                have hks := sizes_le (T.take k) (fun f hf => HTN.out f (List.mem_of_mem_take hf))
                rw [List.length_take, Nat.min_eq_left hk] at hks
                have HX := Lib.hid hf
                clear hf
                go_wp2_with fail
                refine (size_of f _ hxn).mono ?_
                rintro e w9 ⟨rfl, hb⟩
                have Hb := Lib.hid ((HB.out.alloc HB.out.size _).trans (hb.mono (by have := HB.out.size; simp; omega)))
                have Hb3 := Lib.hid ((HB3.out.alloc HB3.out.size _).trans (hb.mono (by have := HB3.out.size; simp; omega)))
                clear hb
                go_wp2_with fail
                go_roundw
                case rel => exact ⟨k + 1, by omega, by go_num, by rw [sizes_more _ _ _ HX.out]; go_num, Hb, Hb3⟩
                case measure => simp [intOf]; omega
              · have hkk : k = T.length := by omega
                subst hkk
                rw [List.take_length]
                by_cases hk4 : k4 = 0
                · subst hk4
                  have hs := HSUM.out rfl hmx
                  rw [hs]
                  have hCT := kF_take (Kd.C_below HC.out HB.out) T.length hTx
                  rw [show xs.take T.length = T by rw [HTL.out]; exact HT.out.symm] at hCT
                  have HCT := Lib.hid hCT
                  clear hCT
                  go_wp2_with fail
                  refine (same_calls T T G A c8 c wr (Kd.C_below HG.out HB3.out) HCT.out (by omega)).mono ?_
                  rw [decide_eq_true rfl]
                  rintro e w9 ⟨rfl, hb⟩
                  have Hb := Lib.hid (HB.out.trans (hb.mono HB.out.size))
                  clear hb
                  go_wp2_with fail
                  go_ret
                  exact ⟨rfl, Hb.out⟩
                · have hk4' : ¬ (k4 : Int) = 0 := by omega
                  go_wp2_with fail
                  go_ret
                  exact ⟨rfl, HB.out⟩
    · have hk3 : ¬ (k2 : Int) = 0 := by omega
      subst hk1
      go_wp2_with fail
      go_ret
      exact ⟨rfl, HB3.out⟩
  · have hk3 : ¬ (k1 : Int) = 0 := by omega
    go_wp2_with fail
    go_ret
    exact ⟨rfl, HB3.out⟩
end Go.Proofs.Ytehmneckcfchmaa
