/- ValueHeld's walk: values held against each other, right or not, the same or not, as the document says. No conditions but the kinds' own. -/
import Derived.Test.YtbgfiflnfndckaaDoorCh
import Derived.Test.YtbgfiflnfndckaaDoorRc
import Derived.Test.YtbgfiflnfndckaaDoorSe
import Derived.Test.YtbgfiflnfndckaaDoorVn
import Derived.Test.YtbgfiflnfndckaaDoorRj
import Derived.Lib.LaidU8T
set_option linter.unusedVariables false
set_option linter.unusedSimpArgs false
namespace Go.Proofs.YtbgfiflnfndckaaDoor
open Go.RowKit Go.Proofs.YtbgfiflnfndckaaDoorW.PrintWords

theorem Rd.fits {w : World} {v : Vs.V} {cs : Array Value} (h : Rd w v cs) : FitsS v.x := by
  cases h with
  | mk x l m A ca B cb Cs Ds hx => exact hx
set_option maxHeartbeats 8000000 in
set_option maxRecDepth 100000 in
theorem held_of (x y : Vs.Sc) (A B A' B' : Option Addr) (la ca lb cb la' ca' lb' cb' : Nat) (D D' : Option Addr) (lm cm lm' cm' : Nat) (w : World) (r1 : Int) (r2 : Bool) (R1 R2 : Nat) (b1 b2 : Bool)
    (K1 : ∀ W, Below w.heap.size w W → Calls Tryd.prog 13 #[.agg (cellsV x (.slice A la ca) (.slice B lb cb)), .agg (cellsV y (.slice A' la' ca') (.slice B' lb' cb'))] W fun e w' => e = .returned (.tuple #[.int .i64 r1, .bool r2]) ∧ Below W.heap.size W w')
    (K2 : ∀ W, Below w.heap.size w W → Calls Tryd.prog 19 #[.agg (cellsV x (.slice A la ca) (.slice B lb cb)), .agg (cellsV y (.slice A' la' ca') (.slice B' lb' cb'))] W fun e w' => e = .returned (.tuple #[.int .i64 r1, .bool r2]) ∧ Below W.heap.size W w')
    (K3 : ∀ W, Below w.heap.size w W → Calls Tryd.prog 20 #[.agg (cellsV x (.slice A la ca) (.slice B lb cb))] W fun e w' => e = .returned (.int .i64 R1) ∧ Below W.heap.size W w')
    (K4 : ∀ W, Below w.heap.size w W → Calls Tryd.prog 21 #[.agg (cellsV x (.slice A la ca) (.slice B lb cb))] W fun e w' => e = .returned (.int .i64 R1) ∧ Below W.heap.size W w')
    (K5 : ∀ W, Below w.heap.size w W → Calls Tryd.prog 22 #[.slice D lm cm] W fun e w' => e = .returned (.int .i64 R2) ∧ Below W.heap.size W w')
    (K6 : ∀ W, Below w.heap.size w W → Calls Tryd.prog 23 #[.slice D lm cm] W fun e w' => e = .returned (.int .i64 R2) ∧ Below W.heap.size W w')
    (K7 : ∀ W, Below w.heap.size w W → Calls Tryd.prog 18 #[.agg (cellsV x (.slice A la ca) (.slice B lb cb)), .agg (cellsV y (.slice A' la' ca') (.slice B' lb' cb'))] W fun e w' => e = .returned (.bool b1) ∧ Below W.heap.size W w')
    (K8 : ∀ W, Below w.heap.size w W → Calls Tryd.prog 24 #[.agg (cellsV x (.slice A la ca) (.slice B lb cb)), .agg (cellsV y (.slice A' la' ca') (.slice B' lb' cb'))] W fun e w' => e = .returned (.bool b1) ∧ Below W.heap.size W w')
    (K9 : ∀ W, Below w.heap.size w W → Calls Tryd.prog 25 #[.slice D lm cm, .slice D' lm' cm'] W fun e w' => e = .returned (.bool b2) ∧ Below W.heap.size W w')
    (K10 : ∀ W, Below w.heap.size w W → Calls Tryd.prog 26 #[.slice D lm cm, .slice D' lm' cm'] W fun e w' => e = .returned (.bool b2) ∧ Below W.heap.size W w') :
    Calls Tryd.prog 6 #[.agg (cellsV x (.slice A la ca) (.slice B lb cb)), .agg (cellsV y (.slice A' la' ca') (.slice B' lb' cb')), .slice D lm cm, .slice D' lm' cm'] w fun e w' => e = .returned (.bool true) ∧ Below w.heap.size w w' := by
  have HT0 := Lib.hid (two_made w x y (.slice A la ca) (.slice B lb cb) (.slice A' la' ca') (.slice B' lb' cb'))
  have HB0 := Lib.hid (two_below w (boxV x (.slice A la ca) (.slice B lb cb)) (boxV y (.slice A' la' ca') (.slice B' lb' cb')))
  obtain ⟨k, s, b, n, f⟩ := x
  obtain ⟨k', s', b', n', f'⟩ := y
  unfold boxV cellsV at HB0
  unfold cellsV at *
  simp only at *
  have C1 := Lib.hid K1
  have C2 := Lib.hid K2
  have C3 := Lib.hid K3
  have C4 := Lib.hid K4
  have C5 := Lib.hid K5
  have C6 := Lib.hid K6
  have C7 := Lib.hid K7
  have C8 := Lib.hid K8
  have C9 := Lib.hid K9
  have C10 := Lib.hid K10
  clear K1 K2 K3 K4 K5 K6 K7 K8 K9 K10
  go_enter Tryd.func6, Tryd.ntmps6
  go_wp2_with fail
  refine (C1.out _ HB0.out).mono ?_
  rintro e w1 ⟨rfl, hb⟩
  have HT1 := Lib.hid (HT0.out.below hb)
  have HB1 := Lib.hid (HB0.out.trans (hb.mono HB0.out.size))
  clear hb HB0 HT0
  obtain ⟨c0, c1, c2, c3, c4, c5, c6⟩ := box_cells HT1.out.1
  obtain ⟨d0, d1, d2, d3, d4, d5, d6⟩ := box_cells HT1.out.2
  go_wp2_with fail
  refine (C2.out _ HB1.out).mono ?_
  rintro e w2 ⟨rfl, hb⟩
  have HT2 := Lib.hid (HT1.out.below hb)
  have HB2 := Lib.hid (HB1.out.trans (hb.mono HB1.out.size))
  clear hb HB1 HT1 c0 c1 c2 c3 c4 c5 c6 d0 d1 d2 d3 d4 d5 d6
  go_wp2
  refine Rg.begin_calm [2, 4, 9, 11, 16, 17, 19, 20, 25, 26, 28, 29, 34, 35, 39, 40] (fun W => Two w.heap.size ⟨k, s, b, n, f⟩ ⟨k', s', b', n', f'⟩ (.slice A la ca) (.slice B lb cb) (.slice A' la' ca') (.slice B' lb' cb') W ∧ Below w.heap.size w W) (by kernel_rfl) ?_
  have hcall := vlives_calls w2.drew
  refine Rg.step_call1 (j := 0) (o := { dst := some 25, op := .call { callee := .value (.func 12), args := #[], argTypes := #[] }, type := 4, pos := _, after := _, guard := none }) (f := 12) rfl (by kernel_rfl) (by simp [Region.wanted, yielded]) (by go_simp) hcall ?_
  intro w3 hb
  have HT3 := Lib.hid (Two.below (W := w2.drew) ⟨HT2.out.1, HT2.out.2⟩ hb)
  have HB3 := Lib.hid (Below.trans HB2.out.drew (hb.mono (Below.size HB2.out.drew)))
  clear hb hcall HT2 HB2
  simp only [Act.put, List.setIfInBounds_toArray, List.set_cons_zero, List.set_cons_succ]
  refine And.intro ⟨HT3.out, HB3.out⟩ ?_
  refine Rg.step_val (j := 1) (v := .bool true) (o := { dst := some 26, op := .move (.tmp 25), type := 4, pos := _, after := _, guard := none }) rfl (by kernel_rfl) (by simp [Region.wanted, yielded]) (by go_simp) ⟨HT3.out, HB3.out⟩ ?_
  simp only [Act.put, List.setIfInBounds_toArray, List.set_cons_zero, List.set_cons_succ]
  refine Rg.take_ (i := 2) (oi := ⟨some 27, _, _, _, _, _⟩) (v := .agg #[.int .u8 k, .string s, .bool b, .int .i64 n, .float .f64 f, .slice A la ca, .slice B lb cb]) rfl (by simp) (by kernel_rfl) (fun _ _ _ h => h) (.inl ⟨by simp [Region.wanted, yielded], ?_⟩) ?_ ?_
  · intro W hW
    obtain ⟨c0, c1, c2, c3, c4, c5, c6⟩ := box_cells hW.1.1
    go_simp
  · exact ⟨HT3.out, HB3.out⟩
  simp only [Act.put, List.setIfInBounds_toArray, List.set_cons_zero, List.set_cons_succ]
  refine Rg.take_ (i := 4) (oi := ⟨some 29, _, _, _, _, _⟩) (v := .agg #[.int .u8 k, .string s, .bool b, .int .i64 n, .float .f64 f, .slice A la ca, .slice B lb cb]) rfl (by simp) (by kernel_rfl) (fun _ _ _ h => h) (.inl ⟨by simp [Region.wanted, yielded], ?_⟩) ?_ ?_
  · intro W hW
    obtain ⟨c0, c1, c2, c3, c4, c5, c6⟩ := box_cells hW.1.1
    go_simp
  · exact ⟨HT3.out, HB3.out⟩
  simp only [Act.put, List.setIfInBounds_toArray, List.set_cons_zero, List.set_cons_succ]
  have hcall := C3.out _ HB3.out
  refine Rg.step_call1 (j := 3) (o := { dst := some 28, op := .call { callee := .value (.func 20), args := #[.tmp 27], argTypes := #[27] }, type := 38, pos := _, after := _, guard := some (1, true) }) (f := 20) rfl (by kernel_rfl) (by simp [Region.wanted, yielded]) (by go_simp) hcall ?_
  intro w4 hb
  have HT4 := Lib.hid (Two.below (W := w3) HT3.out hb)
  have HB4 := Lib.hid (Below.trans HB3.out (hb.mono (Below.size HB3.out)))
  clear hb hcall HT3 HB3
  simp only [Act.put, List.setIfInBounds_toArray, List.set_cons_zero, List.set_cons_succ]
  refine And.intro ⟨HT4.out, HB4.out⟩ ?_
  have hcall := C4.out _ HB4.out
  refine Rg.step_call1 (j := 5) (o := { dst := some 30, op := .call { callee := .value (.func 21), args := #[.tmp 29], argTypes := #[27] }, type := 38, pos := _, after := _, guard := some (1, true) }) (f := 21) rfl (by kernel_rfl) (by simp [Region.wanted, yielded]) (by go_simp) hcall ?_
  intro w5 hb
  have HT5 := Lib.hid (Two.below (W := w4) HT4.out hb)
  have HB5 := Lib.hid (Below.trans HB4.out (hb.mono (Below.size HB4.out)))
  clear hb hcall HT4 HB4
  simp only [Act.put, List.setIfInBounds_toArray, List.set_cons_zero, List.set_cons_succ]
  refine And.intro ⟨HT5.out, HB5.out⟩ ?_
  refine Rg.step_val (j := 6) (v := .bool true) (o := { dst := some 31, op := .binOp .eql 38 (.tmp 28) (.tmp 30) 38, type := 4, pos := _, after := _, guard := some (1, true) }) rfl (by kernel_rfl) (by simp [Region.wanted, yielded]) (by go_simp) ⟨HT5.out, HB5.out⟩ ?_
  simp only [Act.put, List.setIfInBounds_toArray, List.set_cons_zero, List.set_cons_succ]
  refine Rg.step_val (j := 7) (v := .bool true) (o := { dst := some 32, op := .pick (.tmp 26) (.tmp 31) (.const (.bool false)), type := 4, pos := _, after := _, guard := none }) rfl (by kernel_rfl) (by simp [Region.wanted, yielded]) (by go_simp) ⟨HT5.out, HB5.out⟩ ?_
  simp only [Act.put, List.setIfInBounds_toArray, List.set_cons_zero, List.set_cons_succ]
  refine Rg.step_val (j := 8) (v := .bool true) (o := { dst := some 33, op := .move (.tmp 32), type := 4, pos := _, after := _, guard := none }) rfl (by kernel_rfl) (by simp [Region.wanted, yielded]) (by go_simp) ⟨HT5.out, HB5.out⟩ ?_
  simp only [Act.put, List.setIfInBounds_toArray, List.set_cons_zero, List.set_cons_succ]
  refine Rg.take_ (i := 9) (oi := ⟨some 34, _, _, _, _, _⟩) (v := .slice D lm cm) rfl (by simp) (by kernel_rfl) (fun _ _ _ h => h) (.inl ⟨by simp [Region.wanted, yielded], ?_⟩) ?_ ?_
  · intro W hW
    go_simp
  · exact ⟨HT5.out, HB5.out⟩
  simp only [Act.put, List.setIfInBounds_toArray, List.set_cons_zero, List.set_cons_succ]
  refine Rg.take_ (i := 11) (oi := ⟨some 36, _, _, _, _, _⟩) (v := .slice D lm cm) rfl (by simp) (by kernel_rfl) (fun _ _ _ h => h) (.inl ⟨by simp [Region.wanted, yielded], ?_⟩) ?_ ?_
  · intro W hW
    go_simp
  · exact ⟨HT5.out, HB5.out⟩
  simp only [Act.put, List.setIfInBounds_toArray, List.set_cons_zero, List.set_cons_succ]
  have hcall := C5.out _ HB5.out
  refine Rg.step_call1 (j := 10) (o := { dst := some 35, op := .call { callee := .value (.func 22), args := #[.tmp 34], argTypes := #[25] }, type := 38, pos := _, after := _, guard := some (8, true) }) (f := 22) rfl (by kernel_rfl) (by simp [Region.wanted, yielded]) (by go_simp) hcall ?_
  intro w6 hb
  have HT6 := Lib.hid (Two.below (W := w5) HT5.out hb)
  have HB6 := Lib.hid (Below.trans HB5.out (hb.mono (Below.size HB5.out)))
  clear hb hcall HT5 HB5
  simp only [Act.put, List.setIfInBounds_toArray, List.set_cons_zero, List.set_cons_succ]
  refine And.intro ⟨HT6.out, HB6.out⟩ ?_
  have hcall := C6.out _ HB6.out
  refine Rg.step_call1 (j := 12) (o := { dst := some 37, op := .call { callee := .value (.func 23), args := #[.tmp 36], argTypes := #[25] }, type := 38, pos := _, after := _, guard := some (8, true) }) (f := 23) rfl (by kernel_rfl) (by simp [Region.wanted, yielded]) (by go_simp) hcall ?_
  intro w7 hb
  have HT7 := Lib.hid (Two.below (W := w6) HT6.out hb)
  have HB7 := Lib.hid (Below.trans HB6.out (hb.mono (Below.size HB6.out)))
  clear hb hcall HT6 HB6
  simp only [Act.put, List.setIfInBounds_toArray, List.set_cons_zero, List.set_cons_succ]
  refine And.intro ⟨HT7.out, HB7.out⟩ ?_
  refine Rg.step_val (j := 13) (v := .bool true) (o := { dst := some 38, op := .binOp .eql 38 (.tmp 35) (.tmp 37) 38, type := 4, pos := _, after := _, guard := some (8, true) }) rfl (by kernel_rfl) (by simp [Region.wanted, yielded]) (by go_simp) ⟨HT7.out, HB7.out⟩ ?_
  simp only [Act.put, List.setIfInBounds_toArray, List.set_cons_zero, List.set_cons_succ]
  refine Rg.step_val (j := 14) (v := .bool true) (o := { dst := some 39, op := .pick (.tmp 33) (.tmp 38) (.const (.bool false)), type := 4, pos := _, after := _, guard := none }) rfl (by kernel_rfl) (by simp [Region.wanted, yielded]) (by go_simp) ⟨HT7.out, HB7.out⟩ ?_
  simp only [Act.put, List.setIfInBounds_toArray, List.set_cons_zero, List.set_cons_succ]
  refine Rg.step_val (j := 15) (v := .bool true) (o := { dst := some 40, op := .move (.tmp 39), type := 4, pos := _, after := _, guard := none }) rfl (by kernel_rfl) (by simp [Region.wanted, yielded]) (by go_simp) ⟨HT7.out, HB7.out⟩ ?_
  simp only [Act.put, List.setIfInBounds_toArray, List.set_cons_zero, List.set_cons_succ]
  refine Rg.take_ (i := 16) (oi := ⟨some 41, _, _, _, _, _⟩) (v := .agg #[.int .u8 k, .string s, .bool b, .int .i64 n, .float .f64 f, .slice A la ca, .slice B lb cb]) rfl (by simp) (by kernel_rfl) (fun _ _ _ h => h) (.inl ⟨by simp [Region.wanted, yielded], ?_⟩) ?_ ?_
  · intro W hW
    obtain ⟨c0, c1, c2, c3, c4, c5, c6⟩ := box_cells hW.1.1
    go_simp
  · exact ⟨HT7.out, HB7.out⟩
  simp only [Act.put, List.setIfInBounds_toArray, List.set_cons_zero, List.set_cons_succ]
  refine Rg.take_ (i := 17) (oi := ⟨some 42, _, _, _, _, _⟩) (v := .agg #[.int .u8 k', .string s', .bool b', .int .i64 n', .float .f64 f', .slice A' la' ca', .slice B' lb' cb']) rfl (by simp) (by kernel_rfl) (fun _ _ _ h => h) (.inl ⟨by simp [Region.wanted, yielded], ?_⟩) ?_ ?_
  · intro W hW
    obtain ⟨d0, d1, d2, d3, d4, d5, d6⟩ := box_cells hW.1.2
    go_simp
  · exact ⟨HT7.out, HB7.out⟩
  simp only [Act.put, List.setIfInBounds_toArray, List.set_cons_zero, List.set_cons_succ]
  refine Rg.take_ (i := 19) (oi := ⟨some 44, _, _, _, _, _⟩) (v := .agg #[.int .u8 k, .string s, .bool b, .int .i64 n, .float .f64 f, .slice A la ca, .slice B lb cb]) rfl (by simp) (by kernel_rfl) (fun _ _ _ h => h) (.inl ⟨by simp [Region.wanted, yielded], ?_⟩) ?_ ?_
  · intro W hW
    obtain ⟨c0, c1, c2, c3, c4, c5, c6⟩ := box_cells hW.1.1
    go_simp
  · exact ⟨HT7.out, HB7.out⟩
  simp only [Act.put, List.setIfInBounds_toArray, List.set_cons_zero, List.set_cons_succ]
  refine Rg.take_ (i := 20) (oi := ⟨some 45, _, _, _, _, _⟩) (v := .agg #[.int .u8 k', .string s', .bool b', .int .i64 n', .float .f64 f', .slice A' la' ca', .slice B' lb' cb']) rfl (by simp) (by kernel_rfl) (fun _ _ _ h => h) (.inl ⟨by simp [Region.wanted, yielded], ?_⟩) ?_ ?_
  · intro W hW
    obtain ⟨d0, d1, d2, d3, d4, d5, d6⟩ := box_cells hW.1.2
    go_simp
  · exact ⟨HT7.out, HB7.out⟩
  simp only [Act.put, List.setIfInBounds_toArray, List.set_cons_zero, List.set_cons_succ]
  have hcall := C7.out _ HB7.out
  refine Rg.step_call1 (j := 18) (o := { dst := some 43, op := .call { callee := .value (.func 18), args := #[.tmp 41, .tmp 42], argTypes := #[27, 27] }, type := 4, pos := _, after := _, guard := some (15, true) }) (f := 18) rfl (by kernel_rfl) (by simp [Region.wanted, yielded]) (by go_simp) hcall ?_
  intro w8 hb
  have HT8 := Lib.hid (Two.below (W := w7) HT7.out hb)
  have HB8 := Lib.hid (Below.trans HB7.out (hb.mono (Below.size HB7.out)))
  clear hb hcall HT7 HB7
  simp only [Act.put, List.setIfInBounds_toArray, List.set_cons_zero, List.set_cons_succ]
  refine And.intro ⟨HT8.out, HB8.out⟩ ?_
  have hcall := C8.out _ HB8.out
  refine Rg.step_call1 (j := 21) (o := { dst := some 46, op := .call { callee := .value (.func 24), args := #[.tmp 44, .tmp 45], argTypes := #[27, 27] }, type := 4, pos := _, after := _, guard := some (15, true) }) (f := 24) rfl (by kernel_rfl) (by simp [Region.wanted, yielded]) (by go_simp) hcall ?_
  intro w9 hb
  have HT9 := Lib.hid (Two.below (W := w8) HT8.out hb)
  have HB9 := Lib.hid (Below.trans HB8.out (hb.mono (Below.size HB8.out)))
  clear hb hcall HT8 HB8
  simp only [Act.put, List.setIfInBounds_toArray, List.set_cons_zero, List.set_cons_succ]
  refine And.intro ⟨HT9.out, HB9.out⟩ ?_
  refine Rg.step_val (j := 22) (v := .bool true) (o := { dst := some 47, op := .binOp .eql 4 (.tmp 43) (.tmp 46) 4, type := 4, pos := _, after := _, guard := some (15, true) }) rfl (by kernel_rfl) (by simp [Region.wanted, yielded]) (by go_simp) ⟨HT9.out, HB9.out⟩ ?_
  simp only [Act.put, List.setIfInBounds_toArray, List.set_cons_zero, List.set_cons_succ]
  refine Rg.step_val (j := 23) (v := .bool true) (o := { dst := some 48, op := .pick (.tmp 40) (.tmp 47) (.const (.bool false)), type := 4, pos := _, after := _, guard := none }) rfl (by kernel_rfl) (by simp [Region.wanted, yielded]) (by go_simp) ⟨HT9.out, HB9.out⟩ ?_
  simp only [Act.put, List.setIfInBounds_toArray, List.set_cons_zero, List.set_cons_succ]
  refine Rg.step_val (j := 24) (v := .bool true) (o := { dst := some 49, op := .move (.tmp 48), type := 4, pos := _, after := _, guard := none }) rfl (by kernel_rfl) (by simp [Region.wanted, yielded]) (by go_simp) ⟨HT9.out, HB9.out⟩ ?_
  simp only [Act.put, List.setIfInBounds_toArray, List.set_cons_zero, List.set_cons_succ]
  refine Rg.take_ (i := 25) (oi := ⟨some 50, _, _, _, _, _⟩) (v := .slice D lm cm) rfl (by simp) (by kernel_rfl) (fun _ _ _ h => h) (.inl ⟨by simp [Region.wanted, yielded], ?_⟩) ?_ ?_
  · intro W hW
    go_simp
  · exact ⟨HT9.out, HB9.out⟩
  simp only [Act.put, List.setIfInBounds_toArray, List.set_cons_zero, List.set_cons_succ]
  refine Rg.take_ (i := 26) (oi := ⟨some 51, _, _, _, _, _⟩) (v := .slice D' lm' cm') rfl (by simp) (by kernel_rfl) (fun _ _ _ h => h) (.inl ⟨by simp [Region.wanted, yielded], ?_⟩) ?_ ?_
  · intro W hW
    go_simp
  · exact ⟨HT9.out, HB9.out⟩
  simp only [Act.put, List.setIfInBounds_toArray, List.set_cons_zero, List.set_cons_succ]
  refine Rg.take_ (i := 28) (oi := ⟨some 53, _, _, _, _, _⟩) (v := .slice D lm cm) rfl (by simp) (by kernel_rfl) (fun _ _ _ h => h) (.inl ⟨by simp [Region.wanted, yielded], ?_⟩) ?_ ?_
  · intro W hW
    go_simp
  · exact ⟨HT9.out, HB9.out⟩
  simp only [Act.put, List.setIfInBounds_toArray, List.set_cons_zero, List.set_cons_succ]
  refine Rg.take_ (i := 29) (oi := ⟨some 54, _, _, _, _, _⟩) (v := .slice D' lm' cm') rfl (by simp) (by kernel_rfl) (fun _ _ _ h => h) (.inl ⟨by simp [Region.wanted, yielded], ?_⟩) ?_ ?_
  · intro W hW
    go_simp
  · exact ⟨HT9.out, HB9.out⟩
  simp only [Act.put, List.setIfInBounds_toArray, List.set_cons_zero, List.set_cons_succ]
  have hcall := C9.out _ HB9.out
  refine Rg.step_call1 (j := 27) (o := { dst := some 52, op := .call { callee := .value (.func 25), args := #[.tmp 50, .tmp 51], argTypes := #[25, 25] }, type := 4, pos := _, after := _, guard := some (24, true) }) (f := 25) rfl (by kernel_rfl) (by simp [Region.wanted, yielded]) (by go_simp) hcall ?_
  intro w10 hb
  have HT10 := Lib.hid (Two.below (W := w9) HT9.out hb)
  have HB10 := Lib.hid (Below.trans HB9.out (hb.mono (Below.size HB9.out)))
  clear hb hcall HT9 HB9
  simp only [Act.put, List.setIfInBounds_toArray, List.set_cons_zero, List.set_cons_succ]
  refine And.intro ⟨HT10.out, HB10.out⟩ ?_
  have hcall := C10.out _ HB10.out
  refine Rg.step_call1 (j := 30) (o := { dst := some 55, op := .call { callee := .value (.func 26), args := #[.tmp 53, .tmp 54], argTypes := #[25, 25] }, type := 4, pos := _, after := _, guard := some (24, true) }) (f := 26) rfl (by kernel_rfl) (by simp [Region.wanted, yielded]) (by go_simp) hcall ?_
  intro w11 hb
  have HT11 := Lib.hid (Two.below (W := w10) HT10.out hb)
  have HB11 := Lib.hid (Below.trans HB10.out (hb.mono (Below.size HB10.out)))
  clear hb hcall HT10 HB10
  simp only [Act.put, List.setIfInBounds_toArray, List.set_cons_zero, List.set_cons_succ]
  refine And.intro ⟨HT11.out, HB11.out⟩ ?_
  refine Rg.step_val (j := 31) (v := .bool true) (o := { dst := some 56, op := .binOp .eql 4 (.tmp 52) (.tmp 55) 4, type := 4, pos := _, after := _, guard := some (24, true) }) rfl (by kernel_rfl) (by simp [Region.wanted, yielded]) (by go_simp) ⟨HT11.out, HB11.out⟩ ?_
  simp only [Act.put, List.setIfInBounds_toArray, List.set_cons_zero, List.set_cons_succ]
  refine Rg.step_val (j := 32) (v := .bool true) (o := { dst := some 57, op := .pick (.tmp 49) (.tmp 56) (.const (.bool false)), type := 4, pos := _, after := _, guard := none }) rfl (by kernel_rfl) (by simp [Region.wanted, yielded]) (by go_simp) ⟨HT11.out, HB11.out⟩ ?_
  simp only [Act.put, List.setIfInBounds_toArray, List.set_cons_zero, List.set_cons_succ]
  refine Rg.step_val (j := 33) (v := .bool true) (o := { dst := some 58, op := .move (.tmp 57), type := 4, pos := _, after := _, guard := none }) rfl (by kernel_rfl) (by simp [Region.wanted, yielded]) (by go_simp) ⟨HT11.out, HB11.out⟩ ?_
  simp only [Act.put, List.setIfInBounds_toArray, List.set_cons_zero, List.set_cons_succ]
  refine Rg.take_ (i := 34) (oi := ⟨some 59, _, _, _, _, _⟩) (v := .int .i64 r1) rfl (by simp) (by kernel_rfl) (fun _ _ _ h => h) (.inl ⟨by simp [Region.wanted, yielded], ?_⟩) ?_ ?_
  · intro W hW
    go_simp
  · exact ⟨HT11.out, HB11.out⟩
  simp only [Act.put, List.setIfInBounds_toArray, List.set_cons_zero, List.set_cons_succ]
  refine Rg.take_ (i := 35) (oi := ⟨some 60, _, _, _, _, _⟩) (v := .int .i64 r1) rfl (by simp) (by kernel_rfl) (fun _ _ _ h => h) (.inl ⟨by simp [Region.wanted, yielded], ?_⟩) ?_ ?_
  · intro W hW
    go_simp
  · exact ⟨HT11.out, HB11.out⟩
  simp only [Act.put, List.setIfInBounds_toArray, List.set_cons_zero, List.set_cons_succ]
  refine Rg.step_val (j := 36) (v := .bool true) (o := { dst := some 61, op := .binOp .eql 3 (.tmp 59) (.tmp 60) 3, type := 4, pos := _, after := _, guard := some (33, true) }) rfl (by kernel_rfl) (by simp [Region.wanted, yielded]) (by go_simp) ⟨HT11.out, HB11.out⟩ ?_
  simp only [Act.put, List.setIfInBounds_toArray, List.set_cons_zero, List.set_cons_succ]
  refine Rg.step_val (j := 37) (v := .bool true) (o := { dst := some 62, op := .pick (.tmp 58) (.tmp 61) (.const (.bool false)), type := 4, pos := _, after := _, guard := none }) rfl (by kernel_rfl) (by simp [Region.wanted, yielded]) (by go_simp) ⟨HT11.out, HB11.out⟩ ?_
  simp only [Act.put, List.setIfInBounds_toArray, List.set_cons_zero, List.set_cons_succ]
  refine Rg.step_val (j := 38) (v := .bool true) (o := { dst := some 63, op := .move (.tmp 62), type := 4, pos := _, after := _, guard := none }) rfl (by kernel_rfl) (by simp [Region.wanted, yielded]) (by go_simp) ⟨HT11.out, HB11.out⟩ ?_
  simp only [Act.put, List.setIfInBounds_toArray, List.set_cons_zero, List.set_cons_succ]
  refine Rg.take_ (i := 39) (oi := ⟨some 64, _, _, _, _, _⟩) (v := .bool r2) rfl (by simp) (by kernel_rfl) (fun _ _ _ h => h) (.inl ⟨by simp [Region.wanted, yielded], ?_⟩) ?_ ?_
  · intro W hW
    go_simp
  · exact ⟨HT11.out, HB11.out⟩
  simp only [Act.put, List.setIfInBounds_toArray, List.set_cons_zero, List.set_cons_succ]
  refine Rg.take_ (i := 40) (oi := ⟨some 65, _, _, _, _, _⟩) (v := .bool r2) rfl (by simp) (by kernel_rfl) (fun _ _ _ h => h) (.inl ⟨by simp [Region.wanted, yielded], ?_⟩) ?_ ?_
  · intro W hW
    go_simp
  · exact ⟨HT11.out, HB11.out⟩
  simp only [Act.put, List.setIfInBounds_toArray, List.set_cons_zero, List.set_cons_succ]
  refine Rg.step_val (j := 41) (v := .bool true) (o := { dst := some 66, op := .binOp .eql 4 (.tmp 64) (.tmp 65) 4, type := 4, pos := _, after := _, guard := some (38, true) }) rfl (by kernel_rfl) (by simp [Region.wanted, yielded]) (by go_simp) ⟨HT11.out, HB11.out⟩ ?_
  simp only [Act.put, List.setIfInBounds_toArray, List.set_cons_zero, List.set_cons_succ]
  refine Rg.step_val (j := 42) (v := .bool true) (o := { dst := some 67, op := .pick (.tmp 63) (.tmp 66) (.const (.bool false)), type := 4, pos := _, after := _, guard := none }) rfl (by kernel_rfl) (by simp [Region.wanted, yielded]) (by go_simp) ⟨HT11.out, HB11.out⟩ ?_
  simp only [Act.put, List.setIfInBounds_toArray, List.set_cons_zero, List.set_cons_succ]
  refine Rg.step_val (j := 43) (v := .bool true) (o := { dst := some 8, op := .assign (.tmp 67), type := 4, pos := _, after := _, guard := none }) rfl (by kernel_rfl) (by simp [Region.wanted, yielded]) (by go_simp) ⟨HT11.out, HB11.out⟩ ?_
  simp only [Act.put, List.setIfInBounds_toArray, List.set_cons_zero, List.set_cons_succ]
  refine Rg.done_ (by kernel_rfl) ?_ _
  refine Rg.Calm.normal ?_
  go_wp2
  go_ret
  exact ⟨rfl, HB11.out⟩

/-- ValueHeld, of any values and pairs that lie in memory. -/
theorem held_walk {w : World} {V V' : Vs.V} {cs ds : Array Value} {m m' : List (ByteArray × Vs.V)} {D D' : Option Addr} (cm cm' : Nat) (h1 : Rd w V cs) (h2 : Rd w V' ds) (h3 : RdP w D m) (h4 : RdP w D' m') (hT : Tabs w) :
    Calls Tryd.prog 6 #[.agg cs, .agg ds, .slice D m.length cm, .slice D' m'.length cm'] w fun e w' => e = .returned (.bool true) ∧ Below w.heap.size w w' := by
  obtain ⟨Es, hm, hE, hEs⟩ := h3
  have l3 : RdP w D m := ⟨Es, hm, hE, hEs⟩
  have fx := h1.fits
  have fy := h2.fits
  obtain ⟨A, ca, B, cb, hcs⟩ := h1.cells
  obtain ⟨A', ca', B', cb', hds⟩ := h2.cells
  subst hcs hds
  have hE2 : ∀ W, Below w.heap.size w W → ∀ i p, m[i]? = some p → ∃ b, D = some b ∧ W.cell? (b.add (i * 8)) = some (.string p.1) ∧ p.1.size ≤ 140737488351232 ∧ At W ((b.add (i * 8)).add 1) (Es i) := fun W hW i p hp => by
    obtain ⟨b, g1, g2, g3, g4⟩ := hE i p hp
    exact ⟨b, g1, (hW.cell (cell_lt g2)).trans g2, g3, g4.below hW⟩
  exact held_of V.x V'.x A B A' B' _ ca _ cb _ ca' _ cb' D D' _ cm _ cm' w _ _ _ _ _ _
    (fun W hW => compare_calls _ _ _ _ _ _ W fx.lo fx.hi fy.lo fy.hi) (fun W hW => rcompare_calls _ _ _ _ _ _ W fx.lo fx.hi fy.lo fy.hi)
    (fun W hW => check_says V _ W (h1.lower hW) (hT.below hW)) (fun W hW => rcheck_says V _ W (h1.lower hW))
    (fun W hW => checkp_says m D cm W (l3.lower hW) (hT.below hW)) (fun W hW => rcheckp_says m D cm W (l3.lower hW))
    (fun W hW => same_at h1 W hW V' _ (h2.lower hW)) (fun W hW => rsame_at h1 W hW V' _ (h2.lower hW))
    (fun W hW => samepairs_of m m' D D' cm cm' W Es hm (hE2 W hW) (fun i p hp => (hEs i p hp).lower hW) (h4.lower hW) (fun i p hp => (same_at (hEs i p hp)).lower hW))
    (fun W hW => rsamep_calls m m' D D' cm cm' W Es hm (hE2 W hW) (fun i p hp => (hEs i p hp).lower hW) (h4.lower hW) (fun i p hp => (rsame_at (hEs i p hp)).lower hW))
end Go.Proofs.YtbgfiflnfndckaaDoor
