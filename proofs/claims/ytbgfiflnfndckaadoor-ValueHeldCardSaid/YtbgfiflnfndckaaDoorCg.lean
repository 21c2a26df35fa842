/- The walk of check, of any value. No conditions but the kinds' own. -/
import Derived.Test.YtbgfiflnfndckaaDoorCp
set_option linter.unusedVariables false
set_option linter.unusedSimpArgs false
namespace Go.Proofs.YtbgfiflnfndckaaDoor
open Go.RowKit Go.Proofs.YtbgfiflnfndckaaDoorW.PrintWords
attribute [local go_sem] run_store_float

namespace Vs
/-- The stages of own1. -/
theorem own1_5 {x : Sc} {la lb d : Nat} (h : (decide (x.k < 8) && flat x (bareS x) la (if x.k = 5 then la else 0) lb (if x.k = 6 then lb else 0)) = false) : own1 x la lb d = 5 := by unfold own1; rw [if_pos h]
theorem own1_4 {x : Sc} {la lb d : Nat} (h : (decide (x.k < 8) && flat x (bareS x) la (if x.k = 5 then la else 0) lb (if x.k = 6 then lb else 0)) = true) (h2 : 4096 < x.s.size) : own1 x la lb d = 4 := by
  unfold own1; rw [if_neg (by simp [h]), if_pos h2]
theorem own1_12 {x : Sc} {la lb d : Nat} (h : (decide (x.k < 8) && flat x (bareS x) la (if x.k = 5 then la else 0) lb (if x.k = 6 then lb else 0)) = true) (h2 : ¬ 4096 < x.s.size)
    (h3 : x.k = 1 ∧ Go.Lib.validD x.s.data.toList = false) : own1 x la lb d = 12 := by
  unfold own1; rw [if_neg (by simp [h]), if_neg h2, if_pos h3]
theorem own1_3 {x : Sc} {la lb d : Nat} (h : (decide (x.k < 8) && flat x (bareS x) la (if x.k = 5 then la else 0) lb (if x.k = 6 then lb else 0)) = true) (h2 : ¬ 4096 < x.s.size)
    (h3 : ¬ (x.k = 1 ∧ Go.Lib.validD x.s.data.toList = false)) (h4 : 256 < la ∨ 256 < lb) : own1 x la lb d = 3 := by
  unfold own1; rw [if_neg (by simp [h]), if_neg h2, if_neg h3, if_pos h4]
theorem own1_11 {x : Sc} {la lb d : Nat} (h : (decide (x.k < 8) && flat x (bareS x) la (if x.k = 5 then la else 0) lb (if x.k = 6 then lb else 0)) = true) (h2 : ¬ 4096 < x.s.size)
    (h3 : ¬ (x.k = 1 ∧ Go.Lib.validD x.s.data.toList = false)) (h4 : ¬ (256 < la ∨ 256 < lb)) (h5 : (x.k = 5 ∨ x.k = 6) ∧ 8 ≤ d) : own1 x la lb d = 11 := by
  unfold own1; rw [if_neg (by simp [h]), if_neg h2, if_neg h3, if_neg h4, if_pos h5]
theorem own1_0 {x : Sc} {la lb d : Nat} (h : (decide (x.k < 8) && flat x (bareS x) la (if x.k = 5 then la else 0) lb (if x.k = 6 then lb else 0)) = true) (h2 : ¬ 4096 < x.s.size)
    (h3 : ¬ (x.k = 1 ∧ Go.Lib.validD x.s.data.toList = false)) (h4 : ¬ (256 < la ∨ 256 < lb)) (h5 : ¬ ((x.k = 5 ∨ x.k = 6) ∧ 8 ≤ d)) : own1 x la lb d = 0 := by
  unfold own1; rw [if_neg (by simp [h]), if_neg h2, if_neg h3, if_neg h4, if_neg h5]
theorem chk_own {x : Sc} {l : List V} {m : List (ByteArray × V)} {d c : Nat} (h : own1 x l.length m.length d = c) (hc : c ≠ 0) : chk (.mk x l m) d = c := by rw [chk, h, if_pos hc]
theorem chk_in {x : Sc} {l : List V} {m : List (ByteArray × V)} {d : Nat} (h : own1 x l.length m.length d = 0) : chk (.mk x l m) d = if chkL l (d + 1) ≠ 0 then chkL l (d + 1) else chkP m [] (d + 1) := by rw [chk, h, if_neg (by simp)]
theorem chkL_at (l : List V) (k d : Nat) (v : V) (h : l[k]? = some v) : chkL (l.drop k) d = if chk v d ≠ 0 then chk v d else chkL (l.drop (k + 1)) d := by
  have hk : k < l.length := (List.getElem?_eq_some_iff.1 h).1
  have he : l[k] = v := (List.getElem?_eq_some_iff.1 h).2
  rw [List.drop_eq_getElem_cons hk, he, chkL]
end Vs

theorem flat_parts {x y : Vs.Sc} {k la lb : Nat} (h : Vs.flat x y la (if k = 5 then la else 0) lb (if k = 6 then lb else 0) = true) : (k ≠ 5 → la = 0) ∧ (k ≠ 6 → lb = 0) := by
  unfold Vs.flat at h
  simp only [Bool.and_eq_true, beq_iff_eq] at h
  obtain ⟨_, _, _, _, _, g1, g2⟩ := h
  refine ⟨fun h => ?_, fun h => ?_⟩
  · rw [if_neg h] at g1; exact g1
  · rw [if_neg h] at g2; exact g2

set_option maxHeartbeats 4000000 in
set_option maxRecDepth 100000 in
theorem check_of (x : Vs.Sc) (l : List Vs.V) (m : List (ByteArray × Vs.V)) (A : Option Addr) (ca : Nat) (B : Option Addr) (cb : Nat) (d : Nat) (w : World) (Cs : Nat → Array Value)
    (hx : FitsS x) (hl : l.length * 96 ≤ 140737488351232) (hm : m.length * 112 ≤ 140737488351232)
    (hA : ∀ i, i < l.length → ∃ a, A = some a ∧ At w (a.add (i * 7)) (Cs i))
    (hCs : ∀ i v, l[i]? = some v → Rd w v (Cs i)) (hS : ∀ i v, l[i]? = some v → CheckAt w v (Cs i))
    (hP : ∀ W, Below w.heap.size w W → Tabs W → ∀ e : Nat, e ≤ 9 → (m ≠ [] → e ≤ 8) → Calls Tryd.prog 57 #[.slice B m.length cb, .int .i64 e] W fun e' w' => e' = ends (Vs.chkP m [] e) ∧ Below W.heap.size W w')
    (hT : Tabs w) (hd : d ≤ 8) :
    Calls Tryd.prog 48 #[.agg (cellsV x (.slice A l.length ca) (.slice B m.length cb)), .int .i64 d] w fun e w' => e = ends (Vs.chk (.mk x l m) d) ∧ Below w.heap.size w w' := by
  have hbr := bare_calls x A B l.length ca m.length cb
  have hft : ∀ W, Calls Tryd.prog 50 #[.agg (cellsV x (.slice A l.length ca) (.slice B m.length cb)), .agg (cellsV (Vs.bareS x) (if x.k = 5 then .slice A l.length ca else nilS) (if x.k = 6 then .slice B m.length cb else nilS))] W fun e w' =>
      e = .returned (.bool (Vs.flat x (Vs.bareS x) l.length (if x.k = 5 then l.length else 0) m.length (if x.k = 6 then m.length else 0))) ∧ Below W.heap.size W w' := fun W => by
    have h := flat_calls x (Vs.bareS x) A B (if x.k = 5 then A else none) (if x.k = 6 then B else none) l.length ca m.length cb (if x.k = 5 then l.length else 0) (if x.k = 5 then ca else 0) (if x.k = 6 then m.length else 0) (if x.k = 6 then cb else 0) W
    have e5 : Value.slice (if x.k = 5 then A else none) (if x.k = 5 then l.length else 0) (if x.k = 5 then ca else 0) = if x.k = 5 then Value.slice A l.length ca else nilS := by unfold nilS; split <;> rfl
    have e6 : Value.slice (if x.k = 6 then B else none) (if x.k = 6 then m.length else 0) (if x.k = 6 then cb else 0) = if x.k = 6 then Value.slice B m.length cb else nilS := by unfold nilS; split <;> rfl
    rw [e5, e6] at h
    exact h
  have HBR := Lib.hid hbr
  have HFT := Lib.hid hft
  have HA := Lib.hid hA
  have HC := Lib.hid hCs
  have HS := Lib.hid hS
  have HP := Lib.hid hP
  have HT := Lib.hid hT
  have hv := fun w => valid_calls x.s w hx.s
  have HV := Lib.hid hv
  clear hbr hft hA hCs hS hP hT hv
  have HO : Hid (∀ c, Vs.own1 x l.length m.length d = c → c ≠ 0 → Vs.chk (.mk x l m) d = c) := Lib.hid fun c h hc => Vs.chk_own h hc
  have HI : Hid (Vs.own1 x l.length m.length d = 0 → Vs.chk (.mk x l m) d = if Vs.chkL l (d + 1) ≠ 0 then Vs.chkL l (d + 1) else Vs.chkP m [] (d + 1)) := Lib.hid fun h => Vs.chk_in h
  obtain ⟨R, hR⟩ : ∃ R, R = Vs.chk (.mk x l m) d := ⟨_, rfl⟩
  rw [← hR] at HO HI ⊢
  clear hR
  have hl1 : l.length ≤ 1467000000000 := by omega
  have hm1 : m.length ≤ 1467000000000 := by omega
  obtain ⟨y, hy⟩ : ∃ y, y = Vs.bareS x := ⟨_, rfl⟩
  have HL1 := Lib.hid hl1
  have HM1 := Lib.hid hm1
  obtain ⟨k, s, b, n, f⟩ := x
  have HO5 := Lib.hid (fun h => HO.out 5 (Vs.own1_5 h) (by decide))
  have HO4 := Lib.hid (fun h h2 => HO.out 4 (Vs.own1_4 h h2) (by decide))
  have HO12 := Lib.hid (fun h h2 h3 => HO.out 12 (Vs.own1_12 h h2 h3) (by decide))
  have HO3 := Lib.hid (fun h h2 h3 h4 => HO.out 3 (Vs.own1_3 h h2 h3 h4) (by decide))
  have HO11 := Lib.hid (fun h h2 h3 h4 h5 => HO.out 11 (Vs.own1_11 h h2 h3 h4 h5) (by decide))
  have HO0 := Lib.hid (fun h h2 h3 h4 h5 => HI.out (Vs.own1_0 h h2 h3 h4 h5))
  rw [← hy] at HO5 HO4 HO12 HO3 HO11 HO0 HBR HFT
  clear hy HO HI hx hl hm hl1 hm1
  simp only at HO5 HO4 HO12 HO3 HO11 HO0 HBR HFT HV
  generalize hf5 : (if k = 5 then Value.slice A l.length ca else nilS) = z5 at *
  generalize hf6 : (if k = 6 then Value.slice B m.length cb else nilS) = z6 at *
  generalize hff : Vs.flat ⟨k, s, b, n, f⟩ y l.length (if k = 5 then l.length else 0) m.length (if k = 6 then m.length else 0) = rf at *
  unfold cellsV at *
  go_enter Tryd.func48, Tryd.ntmps48
  go_wp2
  obtain ⟨W0, hW0⟩ : ∃ W0, W0 = w.alloc (.cells #[.int .u8 k, .string s, .bool b, .int .i64 n, .float .f64 f, .slice A l.length ca, .slice B m.length cb] 27) := ⟨_, rfl⟩
  rw [← hW0]
  have HX := Lib.hid (show W0.heap[w.heap.size]? = some (.cells #[.int .u8 k, .string s, .bool b, .int .i64 n, .float .f64 f, .slice A l.length ca, .slice B m.length cb] 27 (0, 0)) from by rw [hW0]; exact heap_alloc_new w _)
  have HB0 := Lib.hid (show Below w.heap.size w W0 from by rw [hW0]; exact (Below.refl _ _).alloc (Nat.le_refl _) _)
  clear hW0
  refine Rg.begin_ [0, 1, 2, 3, 4, 5] (fun W => W.heap[w.heap.size]? = some (.cells #[.int .u8 k, .string s, .bool b, .int .i64 n, .float .f64 f, .slice A l.length ca, .slice B m.length cb] 27 (0, 0))) (by kernel_rfl) ?_
  refine Rg.take_ (i := 0) (v := .pointer (some ⟨w.heap.size, 0, none⟩)) rfl (by simp) (by kernel_rfl) (fun _ _ _ h => h) (.inl ⟨rfl, ?_⟩) ?_ ?_
  · intro W hW
    go_simp
  · exact HX.out
  refine Rg.take_ (i := 1) (v := .int .u8 k) rfl (by simp) (by kernel_rfl) (fun _ _ _ h => h) (.inl ⟨rfl, ?_⟩) ?_ ?_
  · intro W hW
    have c0 := blk_cell hW 0
    go_simp
  · exact HX.out
  refine Rg.take_ (i := 2) (v := .bool (decide ((k : Int) < 8))) rfl (by simp) (by kernel_rfl) (fun _ _ _ h => h) (.inl ⟨rfl, ?_⟩) ?_ ?_
  · intro W hW
    go_simp
  · exact HX.out
  refine Rg.take_ (i := 3) (v := .bool (decide ((k : Int) < 8))) rfl (by simp) (by kernel_rfl) (fun _ _ _ h => h) (.inl ⟨rfl, ?_⟩) ?_ ?_
  · intro W hW
    go_simp
  · exact HX.out
  by_cases h8 : (k : Int) < 8
  · rw [decide_eq_true h8]
    refine Rg.take_ (i := 4) (v := .agg #[.int .u8 k, .string s, .bool b, .int .i64 n, .float .f64 f, .slice A l.length ca, .slice B m.length cb]) rfl (by simp) (by kernel_rfl) (fun _ _ _ h => h) (.inl ⟨rfl, ?_⟩) ?_ ?_
    · intro W hW
      have c0 := blk_cell hW 0
      have c1 := blk_cell hW 1
      have c2 := blk_cell hW 2
      have c3 := blk_cell hW 3
      have c4 := blk_cell hW 4
      have c5 := blk_cell hW 5
      have c6 := blk_cell hW 6
      go_simp
    · exact HX.out
    refine Rg.take_ (i := 5) (v := .agg #[.int .u8 k, .string s, .bool b, .int .i64 n, .float .f64 f, .slice A l.length ca, .slice B m.length cb]) rfl (by simp) (by kernel_rfl) (fun _ _ _ h => h) (.inl ⟨rfl, ?_⟩) ?_ ?_
    · intro W hW
      have c0 := blk_cell hW 0
      have c1 := blk_cell hW 1
      have c2 := blk_cell hW 2
      have c3 := blk_cell hW 3
      have c4 := blk_cell hW 4
      have c5 := blk_cell hW 5
      have c6 := blk_cell hW 6
      go_simp
    · exact HX.out
    refine Rg.step_ (j := 6) rfl (by kernel_rfl) ?_
    go_wp2_with fail
    refine (HBR.out _).mono ?_
    rintro e w1 ⟨rfl, hb⟩
    have hb2 := below_undrew hb
    have HX1 := Lib.hid (blk_below HX.out hb2)
    have HB1 := Lib.hid (HB0.out.trans (hb2.mono HB0.out.size))
    clear hb hb2 HX HB0
    go_wp2_with fail
    refine And.intro HX1.out ?_
    refine Rg.step_ (j := 7) rfl (by kernel_rfl) ?_
    go_wp2_with fail
    refine (HFT.out _).mono ?_
    rintro e w2 ⟨rfl, hb⟩
    have HX2 := Lib.hid (blk_below HX1.out hb)
    have HB2 := Lib.hid (HB1.out.trans (hb.mono HB1.out.size))
    clear hb HX1 HB1
    have hrf : rf = false ∨ rf = true := by cases rf <;> simp
    rcases hrf with hrf | hrf
    · subst hrf
      have hr : ends R = vdies 5 := by rw [HO5.out (by simp)]; rfl
      go_wp2_with fail
      refine And.intro HX2.out ?_
      refine Rg.step_ (j := 8) rfl (by kernel_rfl) ?_
      go_wp2_with fail
      refine And.intro HX2.out ?_
      refine Rg.step_ (j := 9) rfl (by kernel_rfl) ?_
      go_wp2_with fail
      refine (must_dies 5 _).mono ?_
      rintro e w3 ⟨rfl, rfl⟩
      exact ⟨rfl, by rw [hr]; rfl, HB2.out⟩
    · subst hrf
      have h8' : k < 8 := by omega
      have hok : (decide (k < 8) && true) = true := by simp [h8']
      have HLM : Hid ((k ≠ 5 → l.length = 0) ∧ (k ≠ 6 → m.length = 0)) := Lib.hid (flat_parts hff)
      have HOK := Lib.hid hok
      clear hok
      go_wp2_with fail
      refine And.intro HX2.out ?_
      refine Rg.step_ (j := 8) rfl (by kernel_rfl) ?_
      go_wp2_with fail
      refine And.intro HX2.out ?_
      refine Rg.step_ (j := 9) rfl (by kernel_rfl) ?_
      go_wp2_with fail
      refine (must_ok 5 _).mono ?_
      rintro e w3 ⟨rfl, rfl⟩
      go_wp2_with fail
      refine And.intro HX2.out ?_
      refine Rg.done_ (by kernel_rfl) ?_ _
      have b0 := blk_cell HX2.out 0
      have b1 := blk_cell HX2.out 1
      have b5 := blk_cell HX2.out 5
      have b6 := blk_cell HX2.out 6
      by_cases hs : 4096 < s.size
      · have hs1 : ¬ (s.size : Int) ≤ 4096 := by omega
        have hr : ends R = vdies 4 := by rw [HO4.out HOK.out hs]; rfl
        go_wp2_with fail
        refine (must_dies 4 _).mono ?_
        rintro e w3 ⟨rfl, rfl⟩
        exact ⟨rfl, by rw [hr]; rfl, HB2.out⟩
      have hs1 : (s.size : Int) ≤ 4096 := by omega
      go_wp2_with fail
      refine (must_ok 4 _).mono ?_
      rintro e w3 ⟨rfl, rfl⟩
      by_cases hk1 : k = 1
      · subst hk1
        have c2 : ((1 : Int) != 1) = false := rfl
        have hvd : Lib.validD s.data.toList = false ∨ Lib.validD s.data.toList = true := by cases Lib.validD s.data.toList <;> simp
        go_wp2_with fail
        refine (HV.out _ (HT.out.below HB2.out)).mono ?_
        rintro e w4 ⟨rfl, hb⟩
        have HX3 := Lib.hid (blk_below HX2.out hb)
        have HB3 := Lib.hid (HB2.out.trans (hb.mono HB2.out.size))
        clear hb HX2 HB2 b0 b1 b5 b6
        rcases hvd with hvd | hvd
        · have hr : ends R = vdies 12 := by rw [HO12.out HOK.out hs ⟨trivial, hvd⟩]; rfl
          rw [hvd]
          go_wp2_with fail
          refine (must_dies 12 _).mono ?_
          rintro e w5 ⟨rfl, rfl⟩
          exact ⟨rfl, by rw [hr]; rfl, HB3.out⟩
        have HN1 : Hid (¬ ((1 : Nat) = 1 ∧ Lib.validD s.data.toList = false)) := Lib.hid (by rw [hvd]; simp)
        rw [hvd]
        go_wp2_with fail
        refine (must_ok 12 _).mono ?_
        rintro e w5 ⟨rfl, rfl⟩
        have b0 := blk_cell HX3.out 0
        have b5 := blk_cell HX3.out 5
        have b6 := blk_cell HX3.out 6
        by_cases hab : 256 < l.length ∨ 256 < m.length
        · have hmx : ¬ max (l.length : Int) (m.length : Int) ≤ 256 := by omega
          have hr : ends R = vdies 3 := by rw [HO3.out HOK.out hs HN1.out hab]; rfl
          go_wp2_with fail
          rw [decide_eq_false (by omega : ¬ max (l.length : Int) (m.length : Int) ≤ 256)]
          refine (must_dies 3 _).mono ?_
          rintro e w5 ⟨rfl, rfl⟩
          exact ⟨rfl, by rw [hr]; rfl, HB3.out⟩
        have hmx : max (l.length : Int) (m.length : Int) ≤ 256 := by omega
        go_wp2_with fail
        refine (must_ok 3 _).mono ?_
        rintro e w5 ⟨rfl, rfl⟩
        have HND : Hid (¬ (((1 : Nat) = 5 ∨ (1 : Nat) = 6) ∧ 8 ≤ d)) := Lib.hid (by omega)
        go_wp2_with fail
        refine (must_ok 11 _).mono ?_
        rintro e w6 ⟨rfl, rfl⟩
        have hr0 := HO0.out HOK.out hs HN1.out hab HND.out
        have hch : l ≠ [] ∨ m ≠ [] → d + 1 ≤ 8 := fun h => by
          have := HLM.out
          rcases h with h | h
          · have h1 : l.length ≠ 0 := by simpa using h
            by_cases h2 : (1 : Nat) = 5
            · have := HND.out; omega
            · exact absurd (this.1 h2) h1
          · have h1 : m.length ≠ 0 := by simpa using h
            by_cases h2 : (1 : Nat) = 6
            · have := HND.out; omega
            · exact absurd (this.2 h2) h1
        have HCH := Lib.hid hch
        have HR0 := Lib.hid hr0
        clear hr0 hch
        go_wp2
        go_loopw [5, 55] (fun i5 i wr => ∃ q : Nat, q ≤ l.length ∧ i = .int .i64 q ∧ Hid (R = if Vs.chkL (l.drop q) (d + 1) ≠ 0 then Vs.chkL (l.drop q) (d + 1) else Vs.chkP m [] (d + 1)) ∧
            Hid (Below w.heap.size w wr) ∧ Hid (wr.heap[w.heap.size]? = some (.cells #[.int .u8 1, .string s, .bool b, .int .i64 n, .float .f64 f, .slice A l.length ca, .slice B m.length cb] 27 (0, 0)))) (fun _ i _ => l.length - (intOf i).toNat)
        case atStart => exact ⟨0, Nat.zero_le _, rfl, Lib.hid (by simpa using HR0.out), HB3, HX3⟩
        case round =>
          obtain ⟨q, hq, rfl, HRq, HWq, HXq⟩ := hrel
          by_cases hql : q < l.length
          · obtain ⟨v, hv⟩ : ∃ v, l[q]? = some v := ⟨l[q], List.getElem?_eq_getElem hql⟩
            obtain ⟨ad, hAd, hat⟩ := HA.out q hql
            obtain ⟨A1, ca1, B1, cb1, hcs⟩ := (HC.out q v hv).cells
            have hsq := HS.out q v hv
            have hd8 : d + 1 ≤ 8 := HCH.out (.inl (fun h => by rw [h] at hv; simp at hv))
            have hst := Vs.chkL_at l q (d + 1) v hv
            rw [hcs] at hat hsq
            have HSS := Lib.hid hsq
            have HST := Lib.hid hst
            obtain ⟨c0, c1, c2', c3, c4, c5, c6⟩ := at_cells _ (hat.below HWq.out)
            clear hv hat hcs hsq hst
            subst hAd
            have HW0 := Lib.hid (HWq.out.alloc HWq.out.size (boxV v.x (.slice A1 v.l.length ca1) (.slice B1 v.m.length cb1)))
            have HX4 := Lib.hid (blk_alloc HXq.out (boxV v.x (.slice A1 v.l.length ca1) (.slice B1 v.m.length cb1)))
            unfold boxV at HW0 HX4
            unfold cellsV at HW0 HX4 HSS
            have hwr : Go.RowKit.wrap64 ((d : Int) + 1) = ((d + 1 : Nat) : Int) := by unfold Go.RowKit.wrap64; omega
            go_wp2_with fail
            refine (HSS.out _ HW0.out (HT.out.below HW0.out) (d + 1) hd8).mono ?_
            by_cases hce : Vs.chk v (d + 1) = 0
            · have hR2 : R = if Vs.chkL (l.drop (q + 1)) (d + 1) ≠ 0 then Vs.chkL (l.drop (q + 1)) (d + 1) else Vs.chkP m [] (d + 1) := by rw [HRq.out, HST.out, if_neg (by simp [hce] : ¬ Vs.chk v (d + 1) ≠ 0)]
              have HR2 := Lib.hid hR2
              clear hR2
              rw [hce, ends_zero]
              rintro e w5 ⟨rfl, hb⟩
              have HW5 := Lib.hid (HW0.out.trans (hb.mono HW0.out.size))
              have HX5 := Lib.hid (blk_below HX4.out hb)
              clear hb c0 c1 c2' c3 c4 c5 c6
              go_wp2
              go_roundw
              case rel => exact ⟨q + 1, by omega, by go_num, HR2, HW5, HX5⟩
              case measure => simp [intOf]; omega
            · have hr : ends R = vdies (Vs.chk v (d + 1)) := by rw [HRq.out, HST.out, if_pos hce, if_pos hce, ends_ne hce]
              rw [ends_ne hce]
              unfold vdies
              rintro e w5 ⟨rfl, hb⟩
              exact ⟨rfl, by rw [hr]; rfl, HW0.out.trans (hb.mono HW0.out.size)⟩
          · have hqe : q = l.length := by omega
            have hR2 : R = Vs.chkP m [] (d + 1) := by rw [HRq.out, hqe, List.drop_length, Vs.chkL]; simp
            have b6 := blk_cell HXq.out 6
            have hwr : Go.RowKit.wrap64 ((d : Int) + 1) = ((d + 1 : Nat) : Int) := by unfold Go.RowKit.wrap64; omega
            have hde : d + 1 ≤ 9 := by omega
            have hde2 : m ≠ [] → d + 1 ≤ 8 := fun h => HCH.out (.inr h)
            go_wp2_with fail
            refine (HP.out _ HWq.out (HT.out.below HWq.out) (d + 1) hde hde2).mono ?_
            rw [← hR2]
            by_cases hre : R = 0
            · rw [hre, ends_zero]
              rintro e w5 ⟨rfl, hb⟩
              go_wp2
              go_end0
              exact ⟨by rw [hre]; rfl, HWq.out.trans (hb.mono HWq.out.size)⟩
            · rw [ends_ne hre]
              unfold vdies
              rintro e w5 ⟨rfl, hb⟩
              exact ⟨rfl, by rw [ends_ne hre]; rfl, HWq.out.trans (hb.mono HWq.out.size)⟩
      have c2 : ((k : Int) != 1) = true := by rw [bne_iff_ne]; omega
      have hn1 : ¬ (k = 1 ∧ Lib.validD s.data.toList = false) := fun h => hk1 h.1
      have HN1 := Lib.hid hn1
      clear hn1
      go_wp2_with fail
      refine (must_ok 12 _).mono ?_
      rintro e w5 ⟨rfl, rfl⟩
      have HX3 := HX2
      have HB3 := HB2
      clear HX2 HB2 b0 b1 b5 b6
      have b0 := blk_cell HX3.out 0
      have b5 := blk_cell HX3.out 5
      have b6 := blk_cell HX3.out 6
      by_cases hab : 256 < l.length ∨ 256 < m.length
      · have hmx : ¬ max (l.length : Int) (m.length : Int) ≤ 256 := by omega
        have hr : ends R = vdies 3 := by rw [HO3.out HOK.out hs HN1.out hab]; rfl
        go_wp2_with fail
        rw [decide_eq_false (by omega : ¬ max (l.length : Int) (m.length : Int) ≤ 256)]
        refine (must_dies 3 _).mono ?_
        rintro e w5 ⟨rfl, rfl⟩
        exact ⟨rfl, by rw [hr]; rfl, HB3.out⟩
      have hmx : max (l.length : Int) (m.length : Int) ≤ 256 := by omega
      go_wp2_with fail
      refine (must_ok 3 _).mono ?_
      rintro e w5 ⟨rfl, rfl⟩
      by_cases hk5 : k = 5
      · have c5 : ((k : Int) != 5) = false := by rw [bne_eq_false_iff_eq]; omega
        by_cases hd8 : d < 8
        · have hdl : (d : Int) < 8 := by omega
          have HND : Hid (¬ ((k = 5 ∨ k = 6) ∧ 8 ≤ d)) := Lib.hid (by omega)
          go_wp2_with fail
          refine (must_ok 11 _).mono ?_
          rintro e w6 ⟨rfl, rfl⟩
          have hr0 := HO0.out HOK.out hs HN1.out hab HND.out
          have hch : l ≠ [] ∨ m ≠ [] → d + 1 ≤ 8 := fun h => by
            have := HLM.out
            rcases h with h | h
            · have h1 : l.length ≠ 0 := by simpa using h
              by_cases h2 : k = 5
              · have := HND.out; omega
              · exact absurd (this.1 h2) h1
            · have h1 : m.length ≠ 0 := by simpa using h
              by_cases h2 : k = 6
              · have := HND.out; omega
              · exact absurd (this.2 h2) h1
          have HCH := Lib.hid hch
          have HR0 := Lib.hid hr0
          clear hr0 hch
          go_wp2
          go_loopw [5, 55] (fun i5 i wr => ∃ q : Nat, q ≤ l.length ∧ i = .int .i64 q ∧ Hid (R = if Vs.chkL (l.drop q) (d + 1) ≠ 0 then Vs.chkL (l.drop q) (d + 1) else Vs.chkP m [] (d + 1)) ∧
              Hid (Below w.heap.size w wr) ∧ Hid (wr.heap[w.heap.size]? = some (.cells #[.int .u8 k, .string s, .bool b, .int .i64 n, .float .f64 f, .slice A l.length ca, .slice B m.length cb] 27 (0, 0)))) (fun _ i _ => l.length - (intOf i).toNat)
          case atStart => exact ⟨0, Nat.zero_le _, rfl, Lib.hid (by simpa using HR0.out), HB3, HX3⟩
          case round =>
            obtain ⟨q, hq, rfl, HRq, HWq, HXq⟩ := hrel
            by_cases hql : q < l.length
            · obtain ⟨v, hv⟩ : ∃ v, l[q]? = some v := ⟨l[q], List.getElem?_eq_getElem hql⟩
              obtain ⟨ad, hAd, hat⟩ := HA.out q hql
              obtain ⟨A1, ca1, B1, cb1, hcs⟩ := (HC.out q v hv).cells
              have hsq := HS.out q v hv
              have hd8 : d + 1 ≤ 8 := HCH.out (.inl (fun h => by rw [h] at hv; simp at hv))
              have hst := Vs.chkL_at l q (d + 1) v hv
              rw [hcs] at hat hsq
              have HSS := Lib.hid hsq
              have HST := Lib.hid hst
              obtain ⟨c0, c1, c2', c3, c4, c5, c6⟩ := at_cells _ (hat.below HWq.out)
              clear hv hat hcs hsq hst
              subst hAd
              have HW0 := Lib.hid (HWq.out.alloc HWq.out.size (boxV v.x (.slice A1 v.l.length ca1) (.slice B1 v.m.length cb1)))
              have HX4 := Lib.hid (blk_alloc HXq.out (boxV v.x (.slice A1 v.l.length ca1) (.slice B1 v.m.length cb1)))
              unfold boxV at HW0 HX4
              unfold cellsV at HW0 HX4 HSS
              have hwr : Go.RowKit.wrap64 ((d : Int) + 1) = ((d + 1 : Nat) : Int) := by unfold Go.RowKit.wrap64; omega
              go_wp2_with fail
              refine (HSS.out _ HW0.out (HT.out.below HW0.out) (d + 1) hd8).mono ?_
              by_cases hce : Vs.chk v (d + 1) = 0
              · have hR2 : R = if Vs.chkL (l.drop (q + 1)) (d + 1) ≠ 0 then Vs.chkL (l.drop (q + 1)) (d + 1) else Vs.chkP m [] (d + 1) := by rw [HRq.out, HST.out, if_neg (by simp [hce] : ¬ Vs.chk v (d + 1) ≠ 0)]
                have HR2 := Lib.hid hR2
                clear hR2
                rw [hce, ends_zero]
                rintro e w5 ⟨rfl, hb⟩
                have HW5 := Lib.hid (HW0.out.trans (hb.mono HW0.out.size))
                have HX5 := Lib.hid (blk_below HX4.out hb)
                clear hb c0 c1 c2' c3 c4 c5 c6
                go_wp2
                go_roundw
                case rel => exact ⟨q + 1, by omega, by go_num, HR2, HW5, HX5⟩
                case measure => simp [intOf]; omega
              · have hr : ends R = vdies (Vs.chk v (d + 1)) := by rw [HRq.out, HST.out, if_pos hce, if_pos hce, ends_ne hce]
                rw [ends_ne hce]
                unfold vdies
                rintro e w5 ⟨rfl, hb⟩
                exact ⟨rfl, by rw [hr]; rfl, HW0.out.trans (hb.mono HW0.out.size)⟩
            · have hqe : q = l.length := by omega
              have hR2 : R = Vs.chkP m [] (d + 1) := by rw [HRq.out, hqe, List.drop_length, Vs.chkL]; simp
              have b6 := blk_cell HXq.out 6
              have hwr : Go.RowKit.wrap64 ((d : Int) + 1) = ((d + 1 : Nat) : Int) := by unfold Go.RowKit.wrap64; omega
              have hde : d + 1 ≤ 9 := by omega
              have hde2 : m ≠ [] → d + 1 ≤ 8 := fun h => HCH.out (.inr h)
              go_wp2_with fail
              refine (HP.out _ HWq.out (HT.out.below HWq.out) (d + 1) hde hde2).mono ?_
              rw [← hR2]
              by_cases hre : R = 0
              · rw [hre, ends_zero]
                rintro e w5 ⟨rfl, hb⟩
                go_wp2
                go_end0
                exact ⟨by rw [hre]; rfl, HWq.out.trans (hb.mono HWq.out.size)⟩
              · rw [ends_ne hre]
                unfold vdies
                rintro e w5 ⟨rfl, hb⟩
                exact ⟨rfl, by rw [ends_ne hre]; rfl, HWq.out.trans (hb.mono HWq.out.size)⟩
        · have hdl : ¬ (d : Int) < 8 := by omega
          have hr : ends R = vdies 11 := by rw [HO11.out HOK.out hs HN1.out hab ⟨by omega, by omega⟩]; rfl
          go_wp2_with fail
          rw [decide_eq_false (by omega : ¬ (d : Int) < 8)]
          refine (must_dies 11 _).mono ?_
          rintro e w6 ⟨rfl, rfl⟩
          exact ⟨rfl, by rw [hr]; rfl, HB3.out⟩
      by_cases hk6 : k = 6
      · have c5 : ((k : Int) != 5) = true := by rw [bne_iff_ne]; omega
        have c6 : ((k : Int) != 6) = false := by rw [bne_eq_false_iff_eq]; omega
        by_cases hd8 : d < 8
        · have hdl : (d : Int) < 8 := by omega
          have HND : Hid (¬ ((k = 5 ∨ k = 6) ∧ 8 ≤ d)) := Lib.hid (by omega)
          go_wp2_with fail
          refine (must_ok 11 _).mono ?_
          rintro e w6 ⟨rfl, rfl⟩
          have hr0 := HO0.out HOK.out hs HN1.out hab HND.out
          have hch : l ≠ [] ∨ m ≠ [] → d + 1 ≤ 8 := fun h => by
            have := HLM.out
            rcases h with h | h
            · have h1 : l.length ≠ 0 := by simpa using h
              by_cases h2 : k = 5
              · have := HND.out; omega
              · exact absurd (this.1 h2) h1
            · have h1 : m.length ≠ 0 := by simpa using h
              by_cases h2 : k = 6
              · have := HND.out; omega
              · exact absurd (this.2 h2) h1
          have HCH := Lib.hid hch
          have HR0 := Lib.hid hr0
          clear hr0 hch
          go_wp2
          go_loopw [5, 55] (fun i5 i wr => ∃ q : Nat, q ≤ l.length ∧ i = .int .i64 q ∧ Hid (R = if Vs.chkL (l.drop q) (d + 1) ≠ 0 then Vs.chkL (l.drop q) (d + 1) else Vs.chkP m [] (d + 1)) ∧
              Hid (Below w.heap.size w wr) ∧ Hid (wr.heap[w.heap.size]? = some (.cells #[.int .u8 k, .string s, .bool b, .int .i64 n, .float .f64 f, .slice A l.length ca, .slice B m.length cb] 27 (0, 0)))) (fun _ i _ => l.length - (intOf i).toNat)
          case atStart => exact ⟨0, Nat.zero_le _, rfl, Lib.hid (by simpa using HR0.out), HB3, HX3⟩
          case round =>
            obtain ⟨q, hq, rfl, HRq, HWq, HXq⟩ := hrel
            by_cases hql : q < l.length
            · obtain ⟨v, hv⟩ : ∃ v, l[q]? = some v := ⟨l[q], List.getElem?_eq_getElem hql⟩
              obtain ⟨ad, hAd, hat⟩ := HA.out q hql
              obtain ⟨A1, ca1, B1, cb1, hcs⟩ := (HC.out q v hv).cells
              have hsq := HS.out q v hv
              have hd8 : d + 1 ≤ 8 := HCH.out (.inl (fun h => by rw [h] at hv; simp at hv))
              have hst := Vs.chkL_at l q (d + 1) v hv
              rw [hcs] at hat hsq
              have HSS := Lib.hid hsq
              have HST := Lib.hid hst
              obtain ⟨c0, c1, c2', c3, c4, c5, c6⟩ := at_cells _ (hat.below HWq.out)
              clear hv hat hcs hsq hst
              subst hAd
              have HW0 := Lib.hid (HWq.out.alloc HWq.out.size (boxV v.x (.slice A1 v.l.length ca1) (.slice B1 v.m.length cb1)))
              have HX4 := Lib.hid (blk_alloc HXq.out (boxV v.x (.slice A1 v.l.length ca1) (.slice B1 v.m.length cb1)))
              unfold boxV at HW0 HX4
              unfold cellsV at HW0 HX4 HSS
              have hwr : Go.RowKit.wrap64 ((d : Int) + 1) = ((d + 1 : Nat) : Int) := by unfold Go.RowKit.wrap64; omega
              go_wp2_with fail
              refine (HSS.out _ HW0.out (HT.out.below HW0.out) (d + 1) hd8).mono ?_
              by_cases hce : Vs.chk v (d + 1) = 0
              · have hR2 : R = if Vs.chkL (l.drop (q + 1)) (d + 1) ≠ 0 then Vs.chkL (l.drop (q + 1)) (d + 1) else Vs.chkP m [] (d + 1) := by rw [HRq.out, HST.out, if_neg (by simp [hce] : ¬ Vs.chk v (d + 1) ≠ 0)]
                have HR2 := Lib.hid hR2
                clear hR2
                rw [hce, ends_zero]
                rintro e w5 ⟨rfl, hb⟩
                have HW5 := Lib.hid (HW0.out.trans (hb.mono HW0.out.size))
                have HX5 := Lib.hid (blk_below HX4.out hb)
                clear hb c0 c1 c2' c3 c4 c5 c6
                go_wp2
                go_roundw
                case rel => exact ⟨q + 1, by omega, by go_num, HR2, HW5, HX5⟩
                case measure => simp [intOf]; omega
              · have hr : ends R = vdies (Vs.chk v (d + 1)) := by rw [HRq.out, HST.out, if_pos hce, if_pos hce, ends_ne hce]
                rw [ends_ne hce]
                unfold vdies
                rintro e w5 ⟨rfl, hb⟩
                exact ⟨rfl, by rw [hr]; rfl, HW0.out.trans (hb.mono HW0.out.size)⟩
            · have hqe : q = l.length := by omega
              have hR2 : R = Vs.chkP m [] (d + 1) := by rw [HRq.out, hqe, List.drop_length, Vs.chkL]; simp
              have b6 := blk_cell HXq.out 6
              have hwr : Go.RowKit.wrap64 ((d : Int) + 1) = ((d + 1 : Nat) : Int) := by unfold Go.RowKit.wrap64; omega
              have hde : d + 1 ≤ 9 := by omega
              have hde2 : m ≠ [] → d + 1 ≤ 8 := fun h => HCH.out (.inr h)
              go_wp2_with fail
              refine (HP.out _ HWq.out (HT.out.below HWq.out) (d + 1) hde hde2).mono ?_
              rw [← hR2]
              by_cases hre : R = 0
              · rw [hre, ends_zero]
                rintro e w5 ⟨rfl, hb⟩
                go_wp2
                go_end0
                exact ⟨by rw [hre]; rfl, HWq.out.trans (hb.mono HWq.out.size)⟩
              · rw [ends_ne hre]
                unfold vdies
                rintro e w5 ⟨rfl, hb⟩
                exact ⟨rfl, by rw [ends_ne hre]; rfl, HWq.out.trans (hb.mono HWq.out.size)⟩
        · have hdl : ¬ (d : Int) < 8 := by omega
          have hr : ends R = vdies 11 := by rw [HO11.out HOK.out hs HN1.out hab ⟨by omega, by omega⟩]; rfl
          go_wp2_with fail
          rw [decide_eq_false (by omega : ¬ (d : Int) < 8)]
          refine (must_dies 11 _).mono ?_
          rintro e w6 ⟨rfl, rfl⟩
          exact ⟨rfl, by rw [hr]; rfl, HB3.out⟩
      have c5 : ((k : Int) != 5) = true := by rw [bne_iff_ne]; omega
      have c6 : ((k : Int) != 6) = true := by rw [bne_iff_ne]; omega
      have HND : Hid (¬ ((k = 5 ∨ k = 6) ∧ 8 ≤ d)) := Lib.hid (by omega)
      go_wp2_with fail
      refine (must_ok 11 _).mono ?_
      rintro e w6 ⟨rfl, rfl⟩
      have hr0 := HO0.out HOK.out hs HN1.out hab HND.out
      have hch : l ≠ [] ∨ m ≠ [] → d + 1 ≤ 8 := fun h => by
        have := HLM.out
        rcases h with h | h
        · have h1 : l.length ≠ 0 := by simpa using h
          by_cases h2 : k = 5
          · have := HND.out; omega
          · exact absurd (this.1 h2) h1
        · have h1 : m.length ≠ 0 := by simpa using h
          by_cases h2 : k = 6
          · have := HND.out; omega
          · exact absurd (this.2 h2) h1
      have HCH := Lib.hid hch
      have HR0 := Lib.hid hr0
      clear hr0 hch
      go_wp2
      go_loopw [5, 55] (fun i5 i wr => ∃ q : Nat, q ≤ l.length ∧ i = .int .i64 q ∧ Hid (R = if Vs.chkL (l.drop q) (d + 1) ≠ 0 then Vs.chkL (l.drop q) (d + 1) else Vs.chkP m [] (d + 1)) ∧
          Hid (Below w.heap.size w wr) ∧ Hid (wr.heap[w.heap.size]? = some (.cells #[.int .u8 k, .string s, .bool b, .int .i64 n, .float .f64 f, .slice A l.length ca, .slice B m.length cb] 27 (0, 0)))) (fun _ i _ => l.length - (intOf i).toNat)
      case atStart => exact ⟨0, Nat.zero_le _, rfl, Lib.hid (by simpa using HR0.out), HB3, HX3⟩
      case round =>
        obtain ⟨q, hq, rfl, HRq, HWq, HXq⟩ := hrel
        by_cases hql : q < l.length
        · obtain ⟨v, hv⟩ : ∃ v, l[q]? = some v := ⟨l[q], List.getElem?_eq_getElem hql⟩
          obtain ⟨ad, hAd, hat⟩ := HA.out q hql
          obtain ⟨A1, ca1, B1, cb1, hcs⟩ := (HC.out q v hv).cells
          have hsq := HS.out q v hv
          have hd8 : d + 1 ≤ 8 := HCH.out (.inl (fun h => by rw [h] at hv; simp at hv))
          have hst := Vs.chkL_at l q (d + 1) v hv
          rw [hcs] at hat hsq
          have HSS := Lib.hid hsq
          have HST := Lib.hid hst
          obtain ⟨c0, c1, c2', c3, c4, c5, c6⟩ := at_cells _ (hat.below HWq.out)
          clear hv hat hcs hsq hst
          subst hAd
          have HW0 := Lib.hid (HWq.out.alloc HWq.out.size (boxV v.x (.slice A1 v.l.length ca1) (.slice B1 v.m.length cb1)))
          have HX4 := Lib.hid (blk_alloc HXq.out (boxV v.x (.slice A1 v.l.length ca1) (.slice B1 v.m.length cb1)))
          unfold boxV at HW0 HX4
          unfold cellsV at HW0 HX4 HSS
          have hwr : Go.RowKit.wrap64 ((d : Int) + 1) = ((d + 1 : Nat) : Int) := by unfold Go.RowKit.wrap64; omega
          go_wp2_with fail
          refine (HSS.out _ HW0.out (HT.out.below HW0.out) (d + 1) hd8).mono ?_
          by_cases hce : Vs.chk v (d + 1) = 0
          · have hR2 : R = if Vs.chkL (l.drop (q + 1)) (d + 1) ≠ 0 then Vs.chkL (l.drop (q + 1)) (d + 1) else Vs.chkP m [] (d + 1) := by rw [HRq.out, HST.out, if_neg (by simp [hce] : ¬ Vs.chk v (d + 1) ≠ 0)]
            have HR2 := Lib.hid hR2
            clear hR2
            rw [hce, ends_zero]
            rintro e w5 ⟨rfl, hb⟩
            have HW5 := Lib.hid (HW0.out.trans (hb.mono HW0.out.size))
            have HX5 := Lib.hid (blk_below HX4.out hb)
            clear hb c0 c1 c2' c3 c4 c5 c6
            go_wp2
            go_roundw
            case rel => exact ⟨q + 1, by omega, by go_num, HR2, HW5, HX5⟩
            case measure => simp [intOf]; omega
          · have hr : ends R = vdies (Vs.chk v (d + 1)) := by rw [HRq.out, HST.out, if_pos hce, if_pos hce, ends_ne hce]
            rw [ends_ne hce]
            unfold vdies
            rintro e w5 ⟨rfl, hb⟩
            exact ⟨rfl, by rw [hr]; rfl, HW0.out.trans (hb.mono HW0.out.size)⟩
        · have hqe : q = l.length := by omega
          have hR2 : R = Vs.chkP m [] (d + 1) := by rw [HRq.out, hqe, List.drop_length, Vs.chkL]; simp
          have b6 := blk_cell HXq.out 6
          have hwr : Go.RowKit.wrap64 ((d : Int) + 1) = ((d + 1 : Nat) : Int) := by unfold Go.RowKit.wrap64; omega
          have hde : d + 1 ≤ 9 := by omega
          have hde2 : m ≠ [] → d + 1 ≤ 8 := fun h => HCH.out (.inr h)
          go_wp2_with fail
          refine (HP.out _ HWq.out (HT.out.below HWq.out) (d + 1) hde hde2).mono ?_
          rw [← hR2]
          by_cases hre : R = 0
          · rw [hre, ends_zero]
            rintro e w5 ⟨rfl, hb⟩
            go_wp2
            go_end0
            exact ⟨by rw [hre]; rfl, HWq.out.trans (hb.mono HWq.out.size)⟩
          · rw [ends_ne hre]
            unfold vdies
            rintro e w5 ⟨rfl, hb⟩
            exact ⟨rfl, by rw [ends_ne hre]; rfl, HWq.out.trans (hb.mono HWq.out.size)⟩
  · have hr : ends R = vdies 5 := by
      have h9 : decide (k < 8) = false := by simp; omega
      rw [HO5.out (by rw [h9]; rfl)]; rfl
    rw [decide_eq_false h8]
    refine Rg.take_ (i := 4) (v := undef) rfl (by simp) (by kernel_rfl) (fun _ _ _ h => h) (.inr ⟨rfl, rfl⟩) HX.out ?_
    refine Rg.take_ (i := 5) (v := undef) rfl (by simp) (by kernel_rfl) (fun _ _ _ h => h) (.inr ⟨rfl, rfl⟩) HX.out ?_
    refine Rg.step_ (j := 6) rfl (by kernel_rfl) ?_
    go_wp2_with fail
    refine And.intro HX.out ?_
    refine Rg.step_ (j := 7) rfl (by kernel_rfl) ?_
    go_wp2_with fail
    refine And.intro HX.out ?_
    refine Rg.step_ (j := 8) rfl (by kernel_rfl) ?_
    go_wp2_with fail
    refine And.intro HX.out ?_
    refine Rg.step_ (j := 9) rfl (by kernel_rfl) ?_
    go_wp2_with fail
    refine (must_dies 5 _).mono ?_
    rintro e w3 ⟨rfl, rfl⟩
    exact ⟨rfl, by rw [hr]; rfl, HB0.out.drew⟩

/-- check, of any value that lies in memory. -/
theorem check_at {w : World} {v : Vs.V} {cs : Array Value} (h : Rd w v cs) : CheckAt w v cs := by
  induction h with
  | mk x l m A ca B cb Cs Ds hx hl hm hA hCs hB hDs ih1 ih2 =>
    intro w' hb hT d hd
    refine check_of x l m A ca B cb d w' Cs hx hl hm (fun i hi => ?_) (fun i v hv => (hCs i v hv).lower hb) (fun i v hv => (ih1 i v hv).lower hb) (fun W hW hTW e he he2 => ?_) hT hd
    · obtain ⟨a, h1, h2⟩ := hA i hi
      exact ⟨a, h1, h2.below hb⟩
    · have hWW : Below w.heap.size w W := hb.trans (hW.mono hb.size)
      refine checkpairs_of m B cb e W Ds hm (fun i p hp => ?_) (fun i p hp => (hDs i p hp).lower hWW) (fun i p hp => (ih2 i p hp).lower hWW) hTW he he2
      obtain ⟨b, h1, h2, h3, h4⟩ := hB i p hp
      exact ⟨b, h1, (hWW.cell (cell_lt h2)).trans h2, h3, h4.below hWW⟩
/-- checkPairs, of any pairs that lie in memory. -/
theorem checkpairs_at {w : World} {B : Option Addr} {m : List (ByteArray × Vs.V)} (h : RdP w B m) (c d : Nat) (hT : Tabs w) (hd : d ≤ 8) :
    Calls Tryd.prog 57 #[.slice B m.length c, .int .i64 d] w fun e w' => e = ends (Vs.chkP m [] d) ∧ Below w.heap.size w w' := by
  obtain ⟨Ds, hm, hB, hDs⟩ := h
  exact checkpairs_of m B c d w Ds hm hB hDs (fun i p hp => check_at (hDs i p hp)) hT (by omega) (fun _ => hd)
end Go.Proofs.YtbgfiflnfndckaaDoor
