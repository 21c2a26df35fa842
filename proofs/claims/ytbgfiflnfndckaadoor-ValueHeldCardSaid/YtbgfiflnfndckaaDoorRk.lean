/- The walk of the document's check, of any value. No conditions but the kinds' own. -/
import Derived.Test.YtbgfiflnfndckaaDoorRp
set_option linter.unusedVariables false
set_option linter.unusedSimpArgs false
namespace Go.Proofs.YtbgfiflnfndckaaDoor
open Go.RowKit Go.Proofs.YtbgfiflnfndckaaDoorW.PrintWords
attribute [local go_sem] run_store_float

set_option maxHeartbeats 4000000 in
set_option maxRecDepth 100000 in
theorem rcheck_of (x : Vs.Sc) (l : List Vs.V) (m : List (ByteArray × Vs.V)) (A : Option Addr) (ca : Nat) (B : Option Addr) (cb : Nat) (d : Nat) (w : World) (Cs : Nat → Array Value)
    (hl : l.length * 96 ≤ 140737488351232) (hm : m.length * 112 ≤ 140737488351232)
    (hA : ∀ i, i < l.length → ∃ a, A = some a ∧ At w (a.add (i * 7)) (Cs i))
    (hCs : ∀ i v, l[i]? = some v → Rd w v (Cs i)) (hS : ∀ i v, l[i]? = some v → RCheckAt w v (Cs i))
    (hP : ∀ W, Below w.heap.size w W → ∀ e : Nat, e ≤ 9 → (m ≠ [] → e ≤ 8) → Calls Tryd.prog 58 #[.slice B m.length cb, .int .i64 e] W fun e' w' => e' = .returned (.int .i64 (Vs.chkP m [] e)) ∧ Below W.heap.size W w')
    (hd : d ≤ 8) :
    Calls Tryd.prog 54 #[.agg (cellsV x (.slice A l.length ca) (.slice B m.length cb)), .int .i64 d] w fun e w' => e = .returned (.int .i64 (Vs.chk (.mk x l m) d)) ∧ Below w.heap.size w w' := by
  have hz := zero_calls x A B l.length ca m.length cb
  have HZ := Lib.hid hz
  have HA := Lib.hid hA
  have HC := Lib.hid hCs
  have HS := Lib.hid hS
  have HP := Lib.hid hP
  have hv := fun w (h : x.s.size ≤ 4096) => utf_calls x.s w (by omega)
  have HV := Lib.hid hv
  have hl1 : l.length ≤ 1467000000000 := by omega
  have hm1 : m.length ≤ 1467000000000 := by omega
  clear hz hA hCs hS hP hv hl hm
  have HO : Hid (∀ c, Vs.own1 x l.length m.length d = c → c ≠ 0 → Vs.chk (.mk x l m) d = c) := Lib.hid fun c h hc => Vs.chk_own h hc
  have HI : Hid (Vs.own1 x l.length m.length d = 0 → Vs.chk (.mk x l m) d = if Vs.chkL l (d + 1) ≠ 0 then Vs.chkL l (d + 1) else Vs.chkP m [] (d + 1)) := Lib.hid fun h => Vs.chk_in h
  obtain ⟨R, hR⟩ : ∃ R, R = Vs.chk (.mk x l m) d := ⟨_, rfl⟩
  rw [← hR] at HO HI ⊢
  clear hR
  have HO5 := Lib.hid (fun h => HO.out 5 (Vs.own1_5 h) (by decide))
  have HO4 := Lib.hid (fun h h2 => HO.out 4 (Vs.own1_4 h h2) (by decide))
  have HO12 := Lib.hid (fun h h2 h3 => HO.out 12 (Vs.own1_12 h h2 h3) (by decide))
  have HO3 := Lib.hid (fun h h2 h3 h4 => HO.out 3 (Vs.own1_3 h h2 h3 h4) (by decide))
  have HO11 := Lib.hid (fun h h2 h3 h4 h5 => HO.out 11 (Vs.own1_11 h h2 h3 h4 h5) (by decide))
  have HO0 := Lib.hid (fun h h2 h3 h4 h5 => HI.out (Vs.own1_0 h h2 h3 h4 h5))
  have HLM : Hid (Vs.zeroB x l.length m.length = true → (x.k ≠ 5 → l.length = 0) ∧ (x.k ≠ 6 → m.length = 0)) := Lib.hid fun h => by
    unfold Vs.zeroB at h
    simp only [Bool.and_eq_true] at h
    exact flat_parts h.2
  obtain ⟨rz, hrz⟩ : ∃ rz, rz = Vs.zeroB x l.length m.length := ⟨_, rfl⟩
  have hrz2 := hrz
  unfold Vs.zeroB at hrz2
  rw [← hrz2] at HO5 HO4 HO12 HO3 HO11 HO0
  rw [← hrz] at HZ HLM
  clear hrz hrz2 HO HI
  obtain ⟨k, s, b, n, f⟩ := x
  simp only at HO5 HO4 HO12 HO3 HO11 HO0 HV HLM
  have hX0 := blk_new w (boxV ⟨k, s, b, n, f⟩ (.slice A l.length ca) (.slice B m.length cb))
  have hB0 := (Below.refl w.heap.size w).alloc (Nat.le_refl _) (boxV ⟨k, s, b, n, f⟩ (.slice A l.length ca) (.slice B m.length cb))
  have HX0 := Lib.hid hX0
  have HB0 := Lib.hid hB0
  clear hX0 hB0
  unfold boxV cellsV at HB0 HX0
  unfold cellsV at *
  simp only at HB0 HX0
  go_enter Tryd.func54, Tryd.ntmps54
  go_wp2_with fail
  refine (HZ.out _).mono ?_
  rintro e w1 ⟨rfl, hb⟩
  have HX1 := Lib.hid (blk_below HX0.out hb)
  have HB1 := Lib.hid (HB0.out.trans (hb.mono HB0.out.size))
  clear hb HX0 HB0
  have hrz : rz = false ∨ rz = true := by cases rz <;> simp
  rcases hrz with hrz | hrz
  · subst hrz
    have hr := HO5.out (by simp)
    go_wp2
    go_ret
    exact ⟨by rw [hr]; rfl, HB1.out⟩
  subst hrz
  have HLM2 := Lib.hid (HLM.out (by simp))
  clear HLM HO5
  have b0 := blk_cell HX1.out 0
  have b1 := blk_cell HX1.out 1
  have b5 := blk_cell HX1.out 5
  have b6 := blk_cell HX1.out 6
  by_cases hs : 4096 < s.size
  · have hs1 : (4096 : Int) < (s.size : Int) := by omega
    have hr := HO4.out (by simp) hs
    go_wp2
    go_ret
    exact ⟨by rw [hr]; rfl, HB1.out⟩
  have hs1 : ¬ (4096 : Int) < (s.size : Int) := by omega
  by_cases hk1 : k = 1
  · subst hk1
    have c2 : ((1 : Int) == 1) = true := rfl
    have hvd : Lib.validD s.data.toList = false ∨ Lib.validD s.data.toList = true := by cases Lib.validD s.data.toList <;> simp
    go_wp2_with fail
    refine (HV.out _ (by omega)).mono ?_
    rintro e w4 ⟨rfl, hb⟩
    have HX3 := Lib.hid (blk_below HX1.out hb)
    have HB3 := Lib.hid (HB1.out.trans (hb.mono HB1.out.size))
    clear hb HX1 HB1 b0 b1 b5 b6
    rcases hvd with hvd | hvd
    · have hr := HO12.out (by simp) hs ⟨trivial, hvd⟩
      rw [hvd]
      go_wp2
      go_ret
      exact ⟨by rw [hr]; rfl, HB3.out⟩
    have HN1 : Hid (¬ ((1 : Nat) = 1 ∧ Lib.validD s.data.toList = false)) := Lib.hid (by rw [hvd]; simp)
    rw [hvd]
    have b0 := blk_cell HX3.out 0
    have b5 := blk_cell HX3.out 5
    have b6 := blk_cell HX3.out 6
    by_cases ha1 : 256 < l.length
    · have hx1 : (256 : Int) < (l.length : Int) := by omega
      have hr := HO3.out (by simp) hs (by simpa using HN1.out) (.inl ha1)
      go_wp2
      go_ret
      exact ⟨by rw [hr]; rfl, HB3.out⟩
    have hx1 : ¬ (256 : Int) < (l.length : Int) := by omega
    by_cases hb1 : 256 < m.length
    · have hx2 : (256 : Int) < (m.length : Int) := by omega
      have hr := HO3.out (by simp) hs (by simpa using HN1.out) (.inr hb1)
      go_wp2
      go_ret
      exact ⟨by rw [hr]; rfl, HB3.out⟩
    have hx2 : ¬ (256 : Int) < (m.length : Int) := by omega
    have hab : ¬ (256 < l.length ∨ 256 < m.length) := by omega
    have c51 : ((1 : Int) == 5) = false := rfl
    have c61 : ((1 : Int) == 6) = false := rfl
    have HND : Hid (¬ (((1 : Nat) = 5 ∨ (1 : Nat) = 6) ∧ 8 ≤ d)) := Lib.hid (by omega)
    have hr0 := HO0.out (by simp) hs (by simpa using HN1.out) hab HND.out
    have hch : l ≠ [] ∨ m ≠ [] → d + 1 ≤ 8 := fun h => by
      have := HLM2.out
      rcases h with h | h
      · have h1 : l.length ≠ 0 := by simpa using h
        by_cases h2 : (1 : Nat) = 5
        · have := HND.out; omega
        · exact absurd (this.1 h2) h1
      · have h1 : m.length ≠ 0 := by simpa using h
        by_cases h2 : (1 : Nat) = 6
        · have := HND.out; omega
        · exact absurd (this.2 h2) h1
    have HCH := Lib.hid hch
    have HR0 := Lib.hid hr0
    clear hr0 hch
    go_wp2
    go_loopw [4, 6, 7, 54] (fun i4 i6 i7 i wr => ∃ q : Nat, i4 = .int .i64 0 ∧ q ≤ l.length ∧ i = .int .i64 q ∧ Hid (R = if Vs.chkL (l.drop q) (d + 1) ≠ 0 then Vs.chkL (l.drop q) (d + 1) else Vs.chkP m [] (d + 1)) ∧
        Hid (Below w.heap.size w wr) ∧ Hid (wr.heap[w.heap.size]? = some (.cells #[.int .u8 1, .string s, .bool b, .int .i64 n, .float .f64 f, .slice A l.length ca, .slice B m.length cb] 27 (0, 0)))) (fun _ _ _ i _ => l.length - (intOf i).toNat)
    case atStart => exact ⟨0, rfl, Nat.zero_le _, rfl, Lib.hid (by simpa using HR0.out), HB3, HX3⟩
    case round =>
      obtain ⟨q, rfl, hq, rfl, HRq, HWq, HXq⟩ := hrel
      by_cases hql : q < l.length
      · obtain ⟨v, hv⟩ : ∃ v, l[q]? = some v := ⟨l[q], List.getElem?_eq_getElem hql⟩
        obtain ⟨ad, hAd, hat⟩ := HA.out q hql
        obtain ⟨A1, ca1, B1, cb1, hcs⟩ := (HC.out q v hv).cells
        have hsq := HS.out q v hv
        have hd8 : d + 1 ≤ 8 := HCH.out (.inl (fun h => by rw [h] at hv; simp at hv))
        have hst := Vs.chkL_at l q (d + 1) v hv
        rw [hcs] at hat hsq
        have HSS := Lib.hid hsq
        have HST := Lib.hid hst
        obtain ⟨c0, c1, c2', c3, c4, c5, c6⟩ := at_cells _ (hat.below HWq.out)
        clear hv hat hcs hsq hst
        subst hAd
        have HW0 := Lib.hid (HWq.out.alloc HWq.out.size (boxV v.x (.slice A1 v.l.length ca1) (.slice B1 v.m.length cb1)))
        have HX4 := Lib.hid (blk_alloc HXq.out (boxV v.x (.slice A1 v.l.length ca1) (.slice B1 v.m.length cb1)))
        unfold boxV at HW0 HX4
        unfold cellsV at HW0 HX4 HSS
        have hwr : Go.RowKit.wrap64 ((d : Int) + 1) = ((d + 1 : Nat) : Int) := by unfold Go.RowKit.wrap64; omega
        go_wp2_with fail
        refine (HSS.out _ HW0.out (d + 1) hd8).mono ?_
        rintro e w5 ⟨rfl, hb⟩
        have HW5 := Lib.hid (HW0.out.trans (hb.mono HW0.out.size))
        have HX5 := Lib.hid (blk_below HX4.out hb)
        clear hb c0 c1 c2' c3 c4 c5 c6
        by_cases hce : Vs.chk v (d + 1) = 0
        · have hR2 : R = if Vs.chkL (l.drop (q + 1)) (d + 1) ≠ 0 then Vs.chkL (l.drop (q + 1)) (d + 1) else Vs.chkP m [] (d + 1) := by rw [HRq.out, HST.out, if_neg (by simp [hce] : ¬ Vs.chk v (d + 1) ≠ 0)]
          have HR2 := Lib.hid hR2
          clear hR2
          rw [hce]
          go_wp2
          go_roundw
          case rel => exact ⟨q + 1, rfl, by omega, by go_num, HR2, HW5, HX5⟩
          case measure => simp [intOf]; omega
        · have hr : R = Vs.chk v (d + 1) := by rw [HRq.out, HST.out, if_pos hce, if_pos hce]
          have hn : ((Vs.chk v (d + 1) : Int) != 0) = true := by rw [bne_iff_ne]; omega
          go_wp2
          go_ret
          exact ⟨by rw [hr]; rfl, HW5.out⟩
      · have hqe : q = l.length := by omega
        have hR2 : R = Vs.chkP m [] (d + 1) := by rw [HRq.out, hqe, List.drop_length, Vs.chkL]; simp
        have b6 := blk_cell HXq.out 6
        have hwr : Go.RowKit.wrap64 ((d : Int) + 1) = ((d + 1 : Nat) : Int) := by unfold Go.RowKit.wrap64; omega
        have hde : d + 1 ≤ 9 := by omega
        have hde2 : m ≠ [] → d + 1 ≤ 8 := fun h => HCH.out (.inr h)
        go_wp2_with fail
        refine (HP.out _ HWq.out (d + 1) hde hde2).mono ?_
        rw [← hR2]
        rintro e w5 ⟨rfl, hb⟩
        go_wp2
        go_ret
        exact ⟨by first | rfl | (rw [hR2]; rfl), HWq.out.trans (hb.mono HWq.out.size)⟩
  have c2 : ((k : Int) == 1) = false := by rw [beq_eq_false_iff_ne]; omega
  have hn1 : ¬ (k = 1 ∧ Lib.validD s.data.toList = false) := fun h => hk1 h.1
  have HN1 := Lib.hid hn1
  clear hn1
  have HX3 := HX1
  have HB3 := HB1
  clear HX1 HB1 b0 b5 b6
  have b0 := blk_cell HX3.out 0
  have b5 := blk_cell HX3.out 5
  have b6 := blk_cell HX3.out 6
  by_cases ha1 : 256 < l.length
  · have hx1 : (256 : Int) < (l.length : Int) := by omega
    have hr := HO3.out (by simp) hs (by simpa using HN1.out) (.inl ha1)
    go_wp2
    go_ret
    exact ⟨by rw [hr]; rfl, HB3.out⟩
  have hx1 : ¬ (256 : Int) < (l.length : Int) := by omega
  by_cases hb1 : 256 < m.length
  · have hx2 : (256 : Int) < (m.length : Int) := by omega
    have hr := HO3.out (by simp) hs (by simpa using HN1.out) (.inr hb1)
    go_wp2
    go_ret
    exact ⟨by rw [hr]; rfl, HB3.out⟩
  have hx2 : ¬ (256 : Int) < (m.length : Int) := by omega
  have hab : ¬ (256 < l.length ∨ 256 < m.length) := by omega
  by_cases hk5 : k = 5
  · have c5 : ((k : Int) == 5) = true := by rw [beq_iff_eq]; omega
    by_cases hd8 : d < 8
    · have hdl : ¬ (8 : Int) ≤ (d : Int) := by omega
      have HND : Hid (¬ ((k = 5 ∨ k = 6) ∧ 8 ≤ d)) := Lib.hid (by omega)
      have hr0 := HO0.out (by simp) hs (by simpa using HN1.out) hab HND.out
      have hch : l ≠ [] ∨ m ≠ [] → d + 1 ≤ 8 := fun h => by
        have := HLM2.out
        rcases h with h | h
        · have h1 : l.length ≠ 0 := by simpa using h
          by_cases h2 : k = 5
          · have := HND.out; omega
          · exact absurd (this.1 h2) h1
        · have h1 : m.length ≠ 0 := by simpa using h
          by_cases h2 : k = 6
          · have := HND.out; omega
          · exact absurd (this.2 h2) h1
      have HCH := Lib.hid hch
      have HR0 := Lib.hid hr0
      clear hr0 hch
      go_wp2
      go_loopw [4, 6, 7, 54] (fun i4 i6 i7 i wr => ∃ q : Nat, i4 = .int .i64 0 ∧ q ≤ l.length ∧ i = .int .i64 q ∧ Hid (R = if Vs.chkL (l.drop q) (d + 1) ≠ 0 then Vs.chkL (l.drop q) (d + 1) else Vs.chkP m [] (d + 1)) ∧
          Hid (Below w.heap.size w wr) ∧ Hid (wr.heap[w.heap.size]? = some (.cells #[.int .u8 k, .string s, .bool b, .int .i64 n, .float .f64 f, .slice A l.length ca, .slice B m.length cb] 27 (0, 0)))) (fun _ _ _ i _ => l.length - (intOf i).toNat)
      case atStart => exact ⟨0, rfl, Nat.zero_le _, rfl, Lib.hid (by simpa using HR0.out), HB3, HX3⟩
      case round =>
        obtain ⟨q, rfl, hq, rfl, HRq, HWq, HXq⟩ := hrel
        by_cases hql : q < l.length
        · obtain ⟨v, hv⟩ : ∃ v, l[q]? = some v := ⟨l[q], List.getElem?_eq_getElem hql⟩
          obtain ⟨ad, hAd, hat⟩ := HA.out q hql
          obtain ⟨A1, ca1, B1, cb1, hcs⟩ := (HC.out q v hv).cells
          have hsq := HS.out q v hv
          have hd8 : d + 1 ≤ 8 := HCH.out (.inl (fun h => by rw [h] at hv; simp at hv))
          have hst := Vs.chkL_at l q (d + 1) v hv
          rw [hcs] at hat hsq
          have HSS := Lib.hid hsq
          have HST := Lib.hid hst
          obtain ⟨c0, c1, c2', c3, c4, c5, c6⟩ := at_cells _ (hat.below HWq.out)
          clear hv hat hcs hsq hst
          subst hAd
          have HW0 := Lib.hid (HWq.out.alloc HWq.out.size (boxV v.x (.slice A1 v.l.length ca1) (.slice B1 v.m.length cb1)))
          have HX4 := Lib.hid (blk_alloc HXq.out (boxV v.x (.slice A1 v.l.length ca1) (.slice B1 v.m.length cb1)))
          unfold boxV at HW0 HX4
          unfold cellsV at HW0 HX4 HSS
          have hwr : Go.RowKit.wrap64 ((d : Int) + 1) = ((d + 1 : Nat) : Int) := by unfold Go.RowKit.wrap64; omega
          go_wp2_with fail
          refine (HSS.out _ HW0.out (d + 1) hd8).mono ?_
          rintro e w5 ⟨rfl, hb⟩
          have HW5 := Lib.hid (HW0.out.trans (hb.mono HW0.out.size))
          have HX5 := Lib.hid (blk_below HX4.out hb)
          clear hb c0 c1 c2' c3 c4 c5 c6
          by_cases hce : Vs.chk v (d + 1) = 0
          · have hR2 : R = if Vs.chkL (l.drop (q + 1)) (d + 1) ≠ 0 then Vs.chkL (l.drop (q + 1)) (d + 1) else Vs.chkP m [] (d + 1) := by rw [HRq.out, HST.out, if_neg (by simp [hce] : ¬ Vs.chk v (d + 1) ≠ 0)]
            have HR2 := Lib.hid hR2
            clear hR2
            rw [hce]
            go_wp2
            go_roundw
            case rel => exact ⟨q + 1, rfl, by omega, by go_num, HR2, HW5, HX5⟩
            case measure => simp [intOf]; omega
          · have hr : R = Vs.chk v (d + 1) := by rw [HRq.out, HST.out, if_pos hce, if_pos hce]
            have hn : ((Vs.chk v (d + 1) : Int) != 0) = true := by rw [bne_iff_ne]; omega
            go_wp2
            go_ret
            exact ⟨by rw [hr]; rfl, HW5.out⟩
        · have hqe : q = l.length := by omega
          have hR2 : R = Vs.chkP m [] (d + 1) := by rw [HRq.out, hqe, List.drop_length, Vs.chkL]; simp
          have b6 := blk_cell HXq.out 6
          have hwr : Go.RowKit.wrap64 ((d : Int) + 1) = ((d + 1 : Nat) : Int) := by unfold Go.RowKit.wrap64; omega
          have hde : d + 1 ≤ 9 := by omega
          have hde2 : m ≠ [] → d + 1 ≤ 8 := fun h => HCH.out (.inr h)
          go_wp2_with fail
          refine (HP.out _ HWq.out (d + 1) hde hde2).mono ?_
          rw [← hR2]
          rintro e w5 ⟨rfl, hb⟩
          go_wp2
          go_ret
          exact ⟨by first | rfl | (rw [hR2]; rfl), HWq.out.trans (hb.mono HWq.out.size)⟩
    · have hdl : (8 : Int) ≤ (d : Int) := by omega
      have hr := HO11.out (by simp) hs (by simpa using HN1.out) hab ⟨by omega, by omega⟩
      go_wp2
      go_ret
      exact ⟨by rw [hr]; rfl, HB3.out⟩
  by_cases hk6 : k = 6
  · have c5 : ((k : Int) == 5) = false := by rw [beq_eq_false_iff_ne]; omega
    have c6 : ((k : Int) == 6) = true := by rw [beq_iff_eq]; omega
    by_cases hd8 : d < 8
    · have hdl : ¬ (8 : Int) ≤ (d : Int) := by omega
      have HND : Hid (¬ ((k = 5 ∨ k = 6) ∧ 8 ≤ d)) := Lib.hid (by omega)
      have hr0 := HO0.out (by simp) hs (by simpa using HN1.out) hab HND.out
      have hch : l ≠ [] ∨ m ≠ [] → d + 1 ≤ 8 := fun h => by
        have := HLM2.out
        rcases h with h | h
        · have h1 : l.length ≠ 0 := by simpa using h
          by_cases h2 : k = 5
          · have := HND.out; omega
          · exact absurd (this.1 h2) h1
        · have h1 : m.length ≠ 0 := by simpa using h
          by_cases h2 : k = 6
          · have := HND.out; omega
          · exact absurd (this.2 h2) h1
      have HCH := Lib.hid hch
      have HR0 := Lib.hid hr0
      clear hr0 hch
      go_wp2
      go_loopw [4, 6, 7, 54] (fun i4 i6 i7 i wr => ∃ q : Nat, i4 = .int .i64 0 ∧ q ≤ l.length ∧ i = .int .i64 q ∧ Hid (R = if Vs.chkL (l.drop q) (d + 1) ≠ 0 then Vs.chkL (l.drop q) (d + 1) else Vs.chkP m [] (d + 1)) ∧
          Hid (Below w.heap.size w wr) ∧ Hid (wr.heap[w.heap.size]? = some (.cells #[.int .u8 k, .string s, .bool b, .int .i64 n, .float .f64 f, .slice A l.length ca, .slice B m.length cb] 27 (0, 0)))) (fun _ _ _ i _ => l.length - (intOf i).toNat)
      case atStart => exact ⟨0, rfl, Nat.zero_le _, rfl, Lib.hid (by simpa using HR0.out), HB3, HX3⟩
      case round =>
        obtain ⟨q, rfl, hq, rfl, HRq, HWq, HXq⟩ := hrel
        by_cases hql : q < l.length
        · obtain ⟨v, hv⟩ : ∃ v, l[q]? = some v := ⟨l[q], List.getElem?_eq_getElem hql⟩
          obtain ⟨ad, hAd, hat⟩ := HA.out q hql
          obtain ⟨A1, ca1, B1, cb1, hcs⟩ := (HC.out q v hv).cells
          have hsq := HS.out q v hv
          have hd8 : d + 1 ≤ 8 := HCH.out (.inl (fun h => by rw [h] at hv; simp at hv))
          have hst := Vs.chkL_at l q (d + 1) v hv
          rw [hcs] at hat hsq
          have HSS := Lib.hid hsq
          have HST := Lib.hid hst
          obtain ⟨c0, c1, c2', c3, c4, c5, c6⟩ := at_cells _ (hat.below HWq.out)
          clear hv hat hcs hsq hst
          subst hAd
          have HW0 := Lib.hid (HWq.out.alloc HWq.out.size (boxV v.x (.slice A1 v.l.length ca1) (.slice B1 v.m.length cb1)))
          have HX4 := Lib.hid (blk_alloc HXq.out (boxV v.x (.slice A1 v.l.length ca1) (.slice B1 v.m.length cb1)))
          unfold boxV at HW0 HX4
          unfold cellsV at HW0 HX4 HSS
          have hwr : Go.RowKit.wrap64 ((d : Int) + 1) = ((d + 1 : Nat) : Int) := by unfold Go.RowKit.wrap64; omega
          go_wp2_with fail
          refine (HSS.out _ HW0.out (d + 1) hd8).mono ?_
          rintro e w5 ⟨rfl, hb⟩
          have HW5 := Lib.hid (HW0.out.trans (hb.mono HW0.out.size))
          have HX5 := Lib.hid (blk_below HX4.out hb)
          clear hb c0 c1 c2' c3 c4 c5 c6
          by_cases hce : Vs.chk v (d + 1) = 0
          · have hR2 : R = if Vs.chkL (l.drop (q + 1)) (d + 1) ≠ 0 then Vs.chkL (l.drop (q + 1)) (d + 1) else Vs.chkP m [] (d + 1) := by rw [HRq.out, HST.out, if_neg (by simp [hce] : ¬ Vs.chk v (d + 1) ≠ 0)]
            have HR2 := Lib.hid hR2
            clear hR2
            rw [hce]
            go_wp2
            go_roundw
            case rel => exact ⟨q + 1, rfl, by omega, by go_num, HR2, HW5, HX5⟩
            case measure => simp [intOf]; omega
          · have hr : R = Vs.chk v (d + 1) := by rw [HRq.out, HST.out, if_pos hce, if_pos hce]
            have hn : ((Vs.chk v (d + 1) : Int) != 0) = true := by rw [bne_iff_ne]; omega
            go_wp2
            go_ret
            exact ⟨by rw [hr]; rfl, HW5.out⟩
        · have hqe : q = l.length := by omega
          have hR2 : R = Vs.chkP m [] (d + 1) := by rw [HRq.out, hqe, List.drop_length, Vs.chkL]; simp
          have b6 := blk_cell HXq.out 6
          have hwr : Go.RowKit.wrap64 ((d : Int) + 1) = ((d + 1 : Nat) : Int) := by unfold Go.RowKit.wrap64; omega
          have hde : d + 1 ≤ 9 := by omega
          have hde2 : m ≠ [] → d + 1 ≤ 8 := fun h => HCH.out (.inr h)
          go_wp2_with fail
          refine (HP.out _ HWq.out (d + 1) hde hde2).mono ?_
          rw [← hR2]
          rintro e w5 ⟨rfl, hb⟩
          go_wp2
          go_ret
          exact ⟨by first | rfl | (rw [hR2]; rfl), HWq.out.trans (hb.mono HWq.out.size)⟩
    · have hdl : (8 : Int) ≤ (d : Int) := by omega
      have hr := HO11.out (by simp) hs (by simpa using HN1.out) hab ⟨by omega, by omega⟩
      go_wp2
      go_ret
      exact ⟨by rw [hr]; rfl, HB3.out⟩
  have c5 : ((k : Int) == 5) = false := by rw [beq_eq_false_iff_ne]; omega
  have c6 : ((k : Int) == 6) = false := by rw [beq_eq_false_iff_ne]; omega
  have HND : Hid (¬ ((k = 5 ∨ k = 6) ∧ 8 ≤ d)) := Lib.hid (by omega)
  have hr0 := HO0.out (by simp) hs (by simpa using HN1.out) hab HND.out
  have hch : l ≠ [] ∨ m ≠ [] → d + 1 ≤ 8 := fun h => by
    have := HLM2.out
    rcases h with h | h
    · have h1 : l.length ≠ 0 := by simpa using h
      by_cases h2 : k = 5
      · have := HND.out; omega
      · exact absurd (this.1 h2) h1
    · have h1 : m.length ≠ 0 := by simpa using h
      by_cases h2 : k = 6
      · have := HND.out; omega
      · exact absurd (this.2 h2) h1
  have HCH := Lib.hid hch
  have HR0 := Lib.hid hr0
  clear hr0 hch
  go_wp2
  go_loopw [4, 6, 7, 54] (fun i4 i6 i7 i wr => ∃ q : Nat, i4 = .int .i64 0 ∧ q ≤ l.length ∧ i = .int .i64 q ∧ Hid (R = if Vs.chkL (l.drop q) (d + 1) ≠ 0 then Vs.chkL (l.drop q) (d + 1) else Vs.chkP m [] (d + 1)) ∧
      Hid (Below w.heap.size w wr) ∧ Hid (wr.heap[w.heap.size]? = some (.cells #[.int .u8 k, .string s, .bool b, .int .i64 n, .float .f64 f, .slice A l.length ca, .slice B m.length cb] 27 (0, 0)))) (fun _ _ _ i _ => l.length - (intOf i).toNat)
  case atStart => exact ⟨0, rfl, Nat.zero_le _, rfl, Lib.hid (by simpa using HR0.out), HB3, HX3⟩
  case round =>
    obtain ⟨q, rfl, hq, rfl, HRq, HWq, HXq⟩ := hrel
    by_cases hql : q < l.length
    · obtain ⟨v, hv⟩ : ∃ v, l[q]? = some v := ⟨l[q], List.getElem?_eq_getElem hql⟩
      obtain ⟨ad, hAd, hat⟩ := HA.out q hql
      obtain ⟨A1, ca1, B1, cb1, hcs⟩ := (HC.out q v hv).cells
      have hsq := HS.out q v hv
      have hd8 : d + 1 ≤ 8 := HCH.out (.inl (fun h => by rw [h] at hv; simp at hv))
      have hst := Vs.chkL_at l q (d + 1) v hv
      rw [hcs] at hat hsq
      have HSS := Lib.hid hsq
      have HST := Lib.hid hst
      obtain ⟨c0, c1, c2', c3, c4, c5, c6⟩ := at_cells _ (hat.below HWq.out)
      clear hv hat hcs hsq hst
      subst hAd
      have HW0 := Lib.hid (HWq.out.alloc HWq.out.size (boxV v.x (.slice A1 v.l.length ca1) (.slice B1 v.m.length cb1)))
      have HX4 := Lib.hid (blk_alloc HXq.out (boxV v.x (.slice A1 v.l.length ca1) (.slice B1 v.m.length cb1)))
      unfold boxV at HW0 HX4
      unfold cellsV at HW0 HX4 HSS
      have hwr : Go.RowKit.wrap64 ((d : Int) + 1) = ((d + 1 : Nat) : Int) := by unfold Go.RowKit.wrap64; omega
      go_wp2_with fail
      refine (HSS.out _ HW0.out (d + 1) hd8).mono ?_
      rintro e w5 ⟨rfl, hb⟩
      have HW5 := Lib.hid (HW0.out.trans (hb.mono HW0.out.size))
      have HX5 := Lib.hid (blk_below HX4.out hb)
      clear hb c0 c1 c2' c3 c4 c5 c6
      by_cases hce : Vs.chk v (d + 1) = 0
      · have hR2 : R = if Vs.chkL (l.drop (q + 1)) (d + 1) ≠ 0 then Vs.chkL (l.drop (q + 1)) (d + 1) else Vs.chkP m [] (d + 1) := by rw [HRq.out, HST.out, if_neg (by simp [hce] : ¬ Vs.chk v (d + 1) ≠ 0)]
        have HR2 := Lib.hid hR2
        clear hR2
        rw [hce]
        go_wp2
        go_roundw
        case rel => exact ⟨q + 1, rfl, by omega, by go_num, HR2, HW5, HX5⟩
        case measure => simp [intOf]; omega
      · have hr : R = Vs.chk v (d + 1) := by rw [HRq.out, HST.out, if_pos hce, if_pos hce]
        have hn : ((Vs.chk v (d + 1) : Int) != 0) = true := by rw [bne_iff_ne]; omega
        go_wp2
        go_ret
        exact ⟨by rw [hr]; rfl, HW5.out⟩
    · have hqe : q = l.length := by omega
      have hR2 : R = Vs.chkP m [] (d + 1) := by rw [HRq.out, hqe, List.drop_length, Vs.chkL]; simp
      have b6 := blk_cell HXq.out 6
      have hwr : Go.RowKit.wrap64 ((d : Int) + 1) = ((d + 1 : Nat) : Int) := by unfold Go.RowKit.wrap64; omega
      have hde : d + 1 ≤ 9 := by omega
      have hde2 : m ≠ [] → d + 1 ≤ 8 := fun h => HCH.out (.inr h)
      go_wp2_with fail
      refine (HP.out _ HWq.out (d + 1) hde hde2).mono ?_
      rw [← hR2]
      rintro e w5 ⟨rfl, hb⟩
      go_wp2
      go_ret
      exact ⟨by first | rfl | (rw [hR2]; rfl), HWq.out.trans (hb.mono HWq.out.size)⟩

/-- The document's check, of any value that lies in memory. -/
theorem rcheck_at {w : World} {v : Vs.V} {cs : Array Value} (h : Rd w v cs) : RCheckAt w v cs := by
  induction h with
  | mk x l m A ca B cb Cs Ds hx hl hm hA hCs hB hDs ih1 ih2 =>
    intro w' hb d hd
    refine rcheck_of x l m A ca B cb d w' Cs hl hm (fun i hi => ?_) (fun i v hv => (hCs i v hv).lower hb) (fun i v hv => (ih1 i v hv).lower hb) (fun W hW e he he2 => ?_) hd
    · obtain ⟨a, h1, h2⟩ := hA i hi
      exact ⟨a, h1, h2.below hb⟩
    · have hWW : Below w.heap.size w W := hb.trans (hW.mono hb.size)
      refine rpairs_of m B cb e W Ds hm (fun i p hp => ?_) (fun i p hp => (hDs i p hp).lower hWW) (fun i p hp => (ih2 i p hp).lower hWW) he he2
      obtain ⟨b, h1, h2, h3, h4⟩ := hB i p hp
      exact ⟨b, h1, (hWW.cell (cell_lt h2)).trans h2, h3, h4.below hWW⟩
end Go.Proofs.YtbgfiflnfndckaaDoor
