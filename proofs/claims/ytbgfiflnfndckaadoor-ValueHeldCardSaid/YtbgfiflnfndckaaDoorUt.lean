/- The document's Utf: a text is UTF-8. No conditions but that the text has a size that a text may have. -/
import Derived.Test.YtbgfiflnfndckaaDoorCk
import Derived.Test.YtbgfiflnfndckaaDoorVi
import Derived.Lib.MapLaws
import Derived.Lib.TrimUEq
import Derived.Lib.ValidLaws
import Derived.Laws.RangeAny
import Derived.Laws.RangeString
set_option linter.unusedVariables false
set_option linter.unusedSimpArgs false
namespace Go.Proofs.YtbgfiflnfndckaaDoor
open Go.RowKit Go.Proofs.YtbgfiflnfndckaaDoorW.PrintWords
attribute [local go_sem] run_store_float

namespace Vs
open Go.Lib
theorem byte_of {b : UInt8} {n : Nat} (h : b.toNat = n % 256) : b = UInt8.ofNat n := by
  apply UInt8.toNat_inj.1
  rw [h]; simp
theorem take3 (l : List UInt8) (h : 2 < l.length) : l.take 3 = [l.getD 0 0, l.getD 1 0, l.getD 2 0] := by
  match l, h with
  | a :: b :: c :: t, _ => simp
theorem utf_bad (l : List UInt8) : ((decodeL l).1 = 65533 ∧ (l.length < 3 ∨ l.take 3 ≠ [239, 191, 189])) ↔ ((decodeL l).1 = 65533 ∧ (decodeL l).2 = 1) := by
  rw [decodeL_N]
  have k0 := (l.getD 0 0).toNat_lt
  have k1 := (l.getD 1 0).toNat_lt
  have k2 := (l.getD 2 0).toNat_lt
  have k3 := (l.getD 3 0).toNat_lt
  rcases decodeN_shape l.length (l.getD 0 0).toNat (l.getD 1 0).toNat (l.getD 2 0).toNat (l.getD 3 0).toNat with ⟨c, e⟩ | ⟨c1, c2, c3, cv, e⟩ | ⟨c1, c2, c3, c4, cv, cs, e⟩ | ⟨c1, c2, c3, c4, c5, cv, cw, e⟩ | e
  · rw [e]; dsimp only; constructor <;> rintro ⟨h, _⟩ <;> omega
  · rw [e]; dsimp only; constructor <;> rintro ⟨h, _⟩ <;> omega
  · rw [e]; dsimp only
    constructor
    · rintro ⟨h, h2⟩
      exfalso
      rcases h2 with h2 | h2
      · omega
      · apply h2
        rw [take3 l c2]
        have e0 : l.getD 0 0 = 239 := byte_of (n := 239) (by omega)
        have e1 : l.getD 1 0 = 191 := byte_of (n := 191) (by omega)
        have e2 : l.getD 2 0 = 189 := byte_of (n := 189) (by omega)
        rw [e0, e1, e2]
    · rintro ⟨h, h2⟩; omega
  · rw [e]; dsimp only; constructor <;> rintro ⟨h, _⟩ <;> omega
  · rw [e]; dsimp only
    refine ⟨fun _ => ⟨rfl, rfl⟩, fun _ => ⟨rfl, ?_⟩⟩
    by_cases h3 : l.length < 3
    · exact .inl h3
    · refine .inr fun ht => ?_
      rw [take3 l (by omega)] at ht
      have e0 : l.getD 0 0 = 239 := by injection ht
      have e1 : l.getD 1 0 = 191 := by injection ht with _ ht; injection ht
      have e2 : l.getD 2 0 = 189 := by injection ht with _ ht; injection ht with _ ht; injection ht
      rw [e0, e1, e2] at e
      unfold decodeN at e
      have h4 : 2 < l.length := by omega
      simp [h4, Utf8.valid] at e
      omega
/-- A step at a place of a text. -/
theorem utf_step (s : ByteArray) (pos : Nat) (h : pos < s.size) : Go.Lib.validD (s.data.toList.drop pos) =
    if (Utf8.decode s pos).1 = 65533 ∧ (s.size < pos + 3 ∨ (s.data.toList.drop pos).take 3 ≠ [239, 191, 189]) then false else Go.Lib.validD (s.data.toList.drop (pos + (Utf8.decode s pos).2)) := by
  have hl : s.data.toList.length = s.size := by rw [Array.length_toList]; rfl
  have hne : s.data.toList.drop pos ≠ [] := by
    intro hh
    have := congrArg List.length hh
    rw [List.length_drop, hl] at this
    simp at this
    omega
  rw [validD_step _ hne]
  have hb := utf_bad (s.data.toList.drop pos)
  have he : (s.data.toList.drop pos).length < 3 ↔ s.size < pos + 3 := by rw [List.length_drop, hl]; omega
  rw [he] at hb
  have hd := decodeL_drop s pos
  rw [hd] at hb ⊢
  rw [List.drop_drop]
  by_cases hc : (Utf8.decode s pos).1 = 65533 ∧ (Utf8.decode s pos).2 = 1
  · rw [if_pos hc, if_pos (hb.2 hc)]
  · rw [if_neg hc, if_neg (fun h => hc (hb.1 h))]
theorem utf_end (s : ByteArray) (pos : Nat) (h : ¬ pos < s.size) : Go.Lib.validD (s.data.toList.drop pos) = true := by
  have hl : s.data.toList.length = s.size := by rw [Array.length_toList]; rfl
  rw [List.drop_eq_nil_of_le (by omega)]; rfl
theorem utf_width (s : ByteArray) (pos : Nat) : 1 ≤ (Utf8.decode s pos).2 := by rw [← decodeL_drop]; exact decodeL_width _
theorem utf_inside (s : ByteArray) (pos : Nat) (h : pos < s.size) : pos + (Utf8.decode s pos).2 ≤ s.size := by
  have hl : s.data.toList.length = s.size := by rw [Array.length_toList]; rfl
  have hne : s.data.toList.drop pos ≠ [] := by
    intro hh
    have := congrArg List.length hh
    rw [List.length_drop, hl] at this
    simp at this
    omega
  have := decodeL_le _ hne
  rw [decodeL_drop, List.length_drop, hl] at this
  omega
end Vs

set_option maxHeartbeats 1000000 in
set_option maxRecDepth 100000 in
theorem utf_calls (s : ByteArray) (w : World) (hs : s.size ≤ 140737488351232) :
    Calls Tryd.prog 85 #[.string s] w fun e w' => e = .returned (.bool (Go.Lib.validD s.data.toList)) ∧ Below w.heap.size w w' := by
  obtain ⟨res, hres⟩ : ∃ r, r = Go.Lib.validD s.data.toList := ⟨_, rfl⟩
  rw [← hres]
  have HR := Lib.hid hres
  clear hres
  go_enter Tryd.func85, Tryd.ntmps85
  go_wp2
  go_loopw [2, 3, 4] (fun u2 u3 u4 wr => ∃ pos : Nat, u2 = .bool false ∧ wr = w.iter s pos ∧ pos ≤ s.size ∧ Hid (res = Go.Lib.validD (s.data.toList.drop pos))) (fun _ _ _ wr => s.size - wr.iterPos w.heap.size)
  case atStart => exact ⟨0, rfl, rfl, Nat.zero_le _, Lib.hid (by rw [HR.out]; rfl)⟩
  case round =>
    obtain ⟨pos, rfl, rfl, hpl, HV⟩ := hrel
    by_cases hp : pos < s.size
    · have hnx : ∀ ty, (Instr.next (.pointer (some ⟨w.heap.size, 0, none⟩)) true ty).run Tryd.prog (w.iter s pos) = _ := fun ty => run_next_any w s pos ty hp
      have HS := Lib.hid (Vs.utf_step s pos hp)
      have HWD := Lib.hid (Vs.utf_width s pos)
      have HIN := Lib.hid (Vs.utf_inside s pos hp)
      have hdl := decode_le s pos
      obtain ⟨r, hr⟩ : ∃ r, r = (Utf8.decode s pos).1 := ⟨_, rfl⟩
      obtain ⟨wd, hwd⟩ : ∃ wd, wd = (Utf8.decode s pos).2 := ⟨_, rfl⟩
      rw [← hr] at hnx HS hdl
      rw [← hwd] at hnx HS HWD HIN
      clear hr hwd
      have hw1 : Go.RowKit.wrap64 ((pos : Int) + 3) = (pos : Int) + 3 := by unfold Go.RowKit.wrap64; omega
      by_cases hr : r = 65533
      · have c1 : ((r : Int) == 65533) = true := by rw [beq_iff_eq]; omega
        by_cases h3 : s.size < pos + 3
        · have c2 : (s.size : Int) < (pos : Int) + 3 := by omega
          have hres : res = false := by rw [HV.out, HS.out, if_pos ⟨hr, .inl h3⟩]
          go_wp2
          go_ret
          exact ⟨by first | rfl | (rw [hres]; rfl), (Below.refl _ _).alloc (Nat.le_refl _) _⟩
        · have c2 : ¬ (s.size : Int) < (pos : Int) + 3 := by omega
          have hx : (s.extract pos (pos + 3)).toList = (s.data.toList.drop pos).take 3 := by
            rw [Go.Lib.extract_toList, Nat.add_sub_cancel_left]
          by_cases ht : (s.data.toList.drop pos).take 3 = [239, 191, 189]
          · have c3 : ((s.extract pos (pos + 3)).toList == [239, 191, 189]) = true := by rw [beq_iff_eq, hx, ht]
            have hres : res = Go.Lib.validD (s.data.toList.drop (pos + wd)) := by rw [HV.out, HS.out, if_neg (fun h => h.2.elim h3 (fun h => h ht))]
            have HRES := Lib.hid hres
            clear hres hx ht
            go_wp2
            go_roundw
            case rel => exact ⟨pos + wd, rfl, rfl, HIN.out, HRES⟩
            case measure =>
              have := HWD.out
              simp
              omega
          · have c3 : ((s.extract pos (pos + 3)).toList == [239, 191, 189]) = false := by rw [beq_eq_false_iff_ne, hx]; exact ht
            have hres : res = false := by rw [HV.out, HS.out, if_pos ⟨hr, .inr ht⟩]
            clear hx ht
            go_wp2
            go_ret
            exact ⟨by first | rfl | (rw [hres]; rfl), (Below.refl _ _).alloc (Nat.le_refl _) _⟩
      · have c1 : ((r : Int) == 65533) = false := by rw [beq_eq_false_iff_ne]; omega
        have hres : res = Go.Lib.validD (s.data.toList.drop (pos + wd)) := by rw [HV.out, HS.out, if_neg (fun h => hr h.1)]
        have HRES := Lib.hid hres
        clear hres
        go_wp2
        go_roundw
        case rel => exact ⟨pos + wd, rfl, rfl, HIN.out, HRES⟩
        case measure =>
          have := HWD.out
          simp
          omega
    · have hnx : ∀ ty, (Instr.next (.pointer (some ⟨w.heap.size, 0, none⟩)) true ty).run Tryd.prog (w.iter s pos) = _ := fun ty => run_next_end w s pos ty hp
      have hr : res = true := by rw [HV.out, Vs.utf_end s pos hp]
      go_wp2
      go_ret
      exact ⟨by rw [hr]; rfl, (Below.refl _ _).alloc (Nat.le_refl _) _⟩

set_option maxHeartbeats 1000000 in
set_option maxRecDepth 100000 in
/-- The document's Key. -/
theorem rkey_calls (s : ByteArray) (w : World) (hs : s.size ≤ 140737488351232) :
    Calls Tryd.prog 87 #[.string s] w fun e w' => e = .returned (.int .i64 (Vs.keyE s)) ∧ Below w.heap.size w w' := by
  have hv := fun w => utf_calls s w hs
  have HV := Lib.hid hv
  clear hv
  obtain ⟨res, hres⟩ : ∃ r, r = Vs.keyE s := ⟨_, rfl⟩
  rw [← hres]
  unfold Vs.keyE at hres
  by_cases h : 4096 < s.size
  · have c1 : (4096 : Int) < (s.size : Int) := by omega
    rw [if_pos h] at hres
    subst hres
    go_enter Tryd.func87, Tryd.ntmps87
    go_wp2
    go_ret
    exact ⟨rfl, Below.refl _ _⟩
  · have c1 : ¬ (4096 : Int) < (s.size : Int) := by omega
    rw [if_neg h] at hres
    cases hd : Go.Lib.validD s.data.toList
    · rw [hd] at hres HV
      subst hres
      go_enter Tryd.func87, Tryd.ntmps87
      go_wp2_with fail
      refine (HV.out _).mono ?_
      rintro e w2 ⟨rfl, hb⟩
      go_wp2
      go_ret
      exact ⟨rfl, hb⟩
    · rw [hd] at hres HV
      subst hres
      go_enter Tryd.func87, Tryd.ntmps87
      go_wp2_with fail
      refine (HV.out _).mono ?_
      rintro e w2 ⟨rfl, hb⟩
      go_wp2
      go_ret
      exact ⟨rfl, hb⟩
end Go.Proofs.YtbgfiflnfndckaaDoor
