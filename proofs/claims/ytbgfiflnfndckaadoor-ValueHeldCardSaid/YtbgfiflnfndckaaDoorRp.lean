/- The walk of the document's pairs, out of check's. No conditions but the kinds' own. -/
import Derived.Test.YtbgfiflnfndckaaDoorCg
import Derived.Test.YtbgfiflnfndckaaDoorZr
set_option linter.unusedVariables false
set_option linter.unusedSimpArgs false
namespace Go.Proofs.YtbgfiflnfndckaaDoor
open Go.RowKit Go.Proofs.YtbgfiflnfndckaaDoorW.PrintWords
attribute [local go_sem] run_store_float

namespace Vs
/-- Why a pair is not right, but for its like. -/
def prE : List (ByteArray × V) → Nat → Nat
  | [], _ => 0
  | (k, v) :: m, d => if (if keyE k = 0 then chk v d else keyE k) ≠ 0 then (if keyE k = 0 then chk v d else keyE k) else prE m d
theorem chkP_prE : ∀ (m : List (ByteArray × V)) (ks : List (List UInt8)) (d : Nat), chkP m ks d = if prE m d ≠ 0 then prE m d else if (ks ++ m.map (·.1.data.toList)).Nodup then 0 else 6
  | [], ks, d => by rw [chkP, prE]; simp
  | (k, v) :: m, ks, d => by
    rw [chkP, prE, chkP_prE m _ d]
    by_cases h1 : keyE k = 0
    · by_cases h2 : chk v d = 0
      · simp [h1, h2, List.append_assoc]
      · simp [h1, h2]
    · simp [h1]
theorem prE_at (m : List (ByteArray × V)) (k d : Nat) (x : ByteArray × V) (h : m[k]? = some x) :
    prE (m.drop k) d = if (if keyE x.1 = 0 then chk x.2 d else keyE x.1) ≠ 0 then (if keyE x.1 = 0 then chk x.2 d else keyE x.1) else prE (m.drop (k + 1)) d := by
  have hk : k < m.length := (List.getElem?_eq_some_iff.1 h).1
  have he : m[k] = x := (List.getElem?_eq_some_iff.1 h).2
  rw [List.drop_eq_getElem_cons hk, he]
  obtain ⟨a, b⟩ := x
  rw [prE]
/-- No two in front of it, and it is none of those: so far. -/
theorem nodup_at {α : Type} [DecidableEq α] (l : List α) (i : Nat) (x : α) (h : l[i]? = some x) (h1 : (l.take i).Nodup) (h2 : x ∉ l.take i) : (l.take (i + 1)).Nodup := by
  rw [List.take_add_one, h]
  simp only [Option.toList_some, List.nodup_append]
  refine ⟨h1, by simp, ?_⟩
  intro a ha b hb
  simp at hb
  subst hb
  intro e; subst e; exact h2 ha
theorem not_nodup_at {α : Type} (l : List α) (i k : Nat) (x : α) (hk : k < i) (h : l[i]? = some x) (h2 : l[k]? = some x) : ¬ l.Nodup := fun hn => by
  have hi : i < l.length := (List.getElem?_eq_some_iff.1 h).1
  have := (List.getElem_inj (h₀ := by omega) (h₁ := hi) hn (i := k) (j := i)).1 (by rw [(List.getElem?_eq_some_iff.1 h).2, (List.getElem?_eq_some_iff.1 h2).2])
  omega
end Vs

/-- What the document's check owes at a value. -/
def RCheckAt (w : World) (v : Vs.V) (cs : Array Value) : Prop := ∀ w', Below w.heap.size w w' → ∀ d : Nat, d ≤ 8 →
  Calls Tryd.prog 54 #[.agg cs, .int .i64 d] w' fun e w'' => e = .returned (.int .i64 (Vs.chk v d)) ∧ Below w'.heap.size w' w''
theorem RCheckAt.lower {w w' : World} {v : Vs.V} {cs : Array Value} (h : RCheckAt w v cs) (hb : Below w.heap.size w w') : RCheckAt w' v cs := fun w2 hb2 => h w2 (hb.trans (hb2.mono hb.size))

set_option maxHeartbeats 4000000 in
set_option maxRecDepth 100000 in
theorem rpairs_of (m : List (ByteArray × Vs.V)) (B : Option Addr) (c d : Nat) (w : World) (Ds : Nat → Array Value) (hm : m.length * 112 ≤ 140737488351232)
    (hB : ∀ i p, m[i]? = some p → ∃ b, B = some b ∧ w.cell? (b.add (i * 8)) = some (.string p.1) ∧ p.1.size ≤ 140737488351232 ∧ At w ((b.add (i * 8)).add 1) (Ds i)) (hDs : ∀ i p, m[i]? = some p → Rd w p.2 (Ds i))
    (hS : ∀ i v, m[i]? = some v → RCheckAt w v.2 (Ds i)) (hd : d ≤ 9) (hd2 : m ≠ [] → d ≤ 8) :
    Calls Tryd.prog 58 #[.slice B m.length c, .int .i64 d] w fun e w' => e = .returned (.int .i64 (Vs.chkP m [] d)) ∧ Below w.heap.size w w' := by
  have hm1 : m.length ≤ 1467000000000 := by omega
  have HB := Lib.hid hB
  have HD := Lib.hid hDs
  have HS := Lib.hid hS
  have HD2 := Lib.hid hd2
  clear hB hDs hS hm hd2
  obtain ⟨res, hres⟩ : ∃ r, r = Vs.chkP m [] d := ⟨_, rfl⟩
  rw [← hres]
  rw [Vs.chkP_prE] at hres
  have HR := Lib.hid hres
  clear hres
  go_enter Tryd.func58, Tryd.ntmps58
  go_wp2
  go_loopw [4, 6, 7, 12] (fun i4 i6 i7 i wr => ∃ (k : Nat), i4 = .int .i64 0 ∧ k ≤ m.length ∧ i = .int .i64 k ∧ Hid (Vs.prE m d = Vs.prE (m.drop k) d) ∧ Hid (Below w.heap.size w wr)) (fun _ _ _ i _ => m.length - (intOf i).toNat)
  case atStart => exact ⟨0, rfl, Nat.zero_le _, rfl, Lib.hid (by simp), Lib.hid (Below.refl _ _)⟩
  case round =>
    obtain ⟨k, rfl, hk, rfl, HC, HW⟩ := hrel
    by_cases hkn : k < m.length
    · obtain ⟨x, hx⟩ : ∃ x, m[k]? = some x := ⟨m[k], List.getElem?_eq_getElem hkn⟩
      obtain ⟨ad, hAd, hat0, hasz, hat⟩ := HB.out k x hx
      obtain ⟨A1, ca1, B1, cb1, hcs⟩ := (HD.out k x hx).cells
      have hs := HS.out k x hx
      have hd8 : d ≤ 8 := HD2.out (fun h => by rw [h] at hx; simp at hx)
      have hst := Vs.prE_at m k d x hx
      rw [hcs] at hat hs
      have HSS := Lib.hid hs
      have HST := Lib.hid hst
      have HASZ := Lib.hid hasz
      obtain ⟨c0, c1, c2, c3, c4, c5, c6, c7⟩ := at_pair _ ((HW.out.cell (cell_lt hat0)).trans hat0) (hat.below HW.out)
      clear hx hat hat0 hcs hs hst hasz
      subst hAd
      have HX0 := Lib.hid (blk_new wr (boxP x.1 x.2.x (.slice A1 x.2.l.length ca1) (.slice B1 x.2.m.length cb1)))
      have HW0 := Lib.hid (HW.out.alloc HW.out.size (boxP x.1 x.2.x (.slice A1 x.2.l.length ca1) (.slice B1 x.2.m.length cb1)))
      unfold boxP cellsP at HW0
      go_wp2_with fail
      refine (rkey_calls x.1 _ HASZ.out).mono ?_
      rintro e w2 ⟨rfl, hb⟩
      have HW1 := Lib.hid (HW0.out.trans (hb.mono HW0.out.size))
      obtain ⟨p0, p1, p2, p3, p4, p5, p6, p7⟩ := boxp_cells (blk_below HX0.out hb)
      clear hb c0 c1 c2 c3 c4 c5 c6 c7
      by_cases hke : Vs.keyE x.1 = 0
      · rw [hke]
        go_wp2_with fail
        refine (HSS.out _ HW1.out d hd8).mono ?_
        rintro e w3 ⟨rfl, hb⟩
        have HW2 := Lib.hid (HW1.out.trans (hb.mono HW1.out.size))
        clear hb p0 p1 p2 p3 p4 p5 p6 p7
        by_cases hce : Vs.chk x.2 d = 0
        · have hC2 : Vs.prE m d = Vs.prE (m.drop (k + 1)) d := by rw [HC.out, HST.out, if_pos hke, if_neg (by simp [hce])]
          rw [hce]
          go_wp2
          go_roundw
          case measure => simp [intOf]; omega
          case rel => exact ⟨k + 1, rfl, by omega, by go_num, Lib.hid hC2, HW2⟩
        · have hC2 : Vs.prE m d = Vs.chk x.2 d := by rw [HC.out, HST.out, if_pos hke, if_pos hce]
          have hr : res = Vs.chk x.2 d := by rw [HR.out, hC2, if_pos hce]
          have hn : ((Vs.chk x.2 d : Int) != 0) = true := by rw [bne_iff_ne]; omega
          go_wp2
          go_ret
          exact ⟨by rw [hr]; rfl, HW2.out⟩
      · have hC2 : Vs.prE m d = Vs.keyE x.1 := by rw [HC.out, HST.out, if_neg hke, if_pos hke]
        have hr : res = Vs.keyE x.1 := by rw [HR.out, hC2, if_pos hke]
        have hn : ((Vs.keyE x.1 : Int) != 0) = true := by rw [bne_iff_ne]; omega
        have hn2 : ((Vs.keyE x.1 : Int) == 0) = false := by rw [beq_eq_false_iff_ne]; omega
        go_wp2
        go_ret
        exact ⟨by rw [hr]; rfl, HW1.out⟩
    · have hkl : k = m.length := by omega
      have hp0 : Vs.prE m d = 0 := by rw [HC.out, hkl, List.drop_length, Vs.prE]
      have hr2 : res = if (m.map (·.1.data.toList)).Nodup then 0 else 6 := by rw [HR.out, hp0]; simp
      have HR2 := Lib.hid hr2
      clear hr2 hp0
      go_wp2
      go_loopw [4, 8, 9, 31] (fun i4 i8 i9 i wr2 => ∃ (k : Nat), i4 = .int .i64 0 ∧ k ≤ m.length ∧ i = .int .i64 k ∧ Hid (((m.take k).map (·.1.data.toList)).Nodup) ∧ Hid (Below w.heap.size w wr2)) (fun _ _ _ i _ => m.length - (intOf i).toNat)
      case atStart => exact ⟨0, rfl, Nat.zero_le _, rfl, Lib.hid (by simp), HW⟩
      case round =>
        obtain ⟨k, rfl, hk, rfl, HN, HW2⟩ := hrel
        by_cases hkn : k < m.length
        · obtain ⟨x, hx⟩ : ∃ x, m[k]? = some x := ⟨m[k], List.getElem?_eq_getElem hkn⟩
          obtain ⟨ad, hAd, hat0, hasz, hat⟩ := HB.out k x hx
          subst hAd
          have c0 := (HW2.out.cell (cell_lt hat0)).trans hat0
          have HX := Lib.hid hx
          clear hx hat0 hasz hat
          go_wp2
          go_loopw [4, 9] (fun i4 i9 wr3 => ∃ (q : Nat), i4 = .int .i64 0 ∧ q ≤ k ∧ i9 = .int .i64 q ∧ Hid (x.1.data.toList ∉ (m.take q).map (·.1.data.toList)) ∧ Hid (Below wr.heap.size wr wr3)) (fun _ i _ => k - (intOf i).toNat)
          case atStart => exact ⟨0, rfl, Nat.zero_le _, rfl, Lib.hid (by simp), Lib.hid (Below.refl _ _)⟩
          case round =>
            obtain ⟨q, rfl, hq, rfl, HQ, HW3⟩ := hrel
            by_cases hqk : q < k
            · obtain ⟨y, hy⟩ : ∃ y, m[q]? = some y := ⟨m[q], List.getElem?_eq_getElem (by omega)⟩
              obtain ⟨ad2, hAd2, hat2, _, _⟩ := HB.out q y hy
              have hae : ad2 = ad := by injection hAd2 with h; exact h.symm
              rw [hae] at hat2
              have d0 := (HW3.out.cell (cell_lt ((HW2.out.cell (cell_lt hat2)).trans hat2))).trans ((HW2.out.cell (cell_lt hat2)).trans hat2)
              have c00 := (HW3.out.cell (cell_lt c0)).trans c0
              have HY := Lib.hid hy
              clear hy hat2 hAd2 hae
              have htl : ∀ t : ByteArray, t.toList = t.data.toList := fun t => Go.Lib.toList_data t
              by_cases hxy : x.1.data.toList = y.1.data.toList
              · have ce : (x.1.toList == y.1.toList) = true := by rw [htl, htl, hxy]; simp
                have hx1 : (m.map (·.1.data.toList))[k]? = some x.1.data.toList := by rw [List.getElem?_map, HX.out]; rfl
                have hy1 : (m.map (·.1.data.toList))[q]? = some x.1.data.toList := by rw [List.getElem?_map, HY.out, hxy]; rfl
                have hr : res = 6 := by rw [HR2.out, if_neg (Vs.not_nodup_at _ k q _ hqk hx1 hy1)]
                clear htl hx1 hy1 hxy
                go_wp2
                repeat (go_quiet (fail); try go_wp2)
                go_ret
                refine ⟨by rw [hr]; rfl, ?_⟩
                have hbb : Below w.heap.size w wr := HW2.out.trans (HW3.out.mono HW2.out.size)
                first | exact hbb | exact pw_below_drewN hbb _
              · have ce : (x.1.toList == y.1.toList) = false := by rw [htl, htl, beq_eq_false_iff_ne]; exact hxy
                have hq2 : x.1.data.toList ∉ (m.take (q + 1)).map (·.1.data.toList) := by
                  rw [Vs.keys_take m q y HY.out, List.mem_append]
                  rintro (h | h)
                  · exact HQ.out h
                  · exact hxy (by simpa using h)
                have HQ2 := Lib.hid hq2
                clear htl hxy hq2
                go_wp2
                repeat (go_quiet (fail); try go_wp2)
                go_roundw
                case measure => simp [intOf]; omega
                case rel => exact ⟨q + 1, rfl, by omega, by go_num, HQ2, Lib.hid (by first | exact HW3.out | exact pw_below_drewN HW3.out _)⟩
            · have hqe : q = k := by omega
              have hn2 : ((m.take (k + 1)).map (·.1.data.toList)).Nodup := by
                rw [Vs.keys_take m k x HX.out, List.nodup_append]
                refine ⟨HN.out, by simp, ?_⟩
                intro a ha b hb e
                simp only [List.mem_singleton] at hb
                subst hb e
                exact (by rw [← hqe]; exact HQ.out : _ ∉ _) ha
              have HN2 := Lib.hid hn2
              have HW4 := Lib.hid (HW2.out.trans (HW3.out.mono HW2.out.size))
              clear hn2
              go_wp2
              go_roundw
              case measure => simp [intOf]; omega
              case rel => exact ⟨k + 1, rfl, by omega, by go_num, HN2, HW4⟩
        · have hke : m.take k = m := by rw [List.take_of_length_le (by omega)]
          have hr : res = 0 := by rw [HR2.out, if_pos (by have := HN.out; rwa [hke] at this)]
          go_wp2
          go_ret
          exact ⟨by rw [hr]; rfl, HW2.out⟩
end Go.Proofs.YtbgfiflnfndckaaDoor
