/- The walks of written; of message and Write at a number. No conditions but the kinds' own. -/
import Derived.Test.YtbgfiflnfndckaaDoorVl
set_option linter.unusedVariables false
set_option linter.unusedSimpArgs false
namespace Go.Proofs.YtbgfiflnfndckaaDoor
open Go.RowKit Go.Proofs.YtbgfiflnfndckaaDoorW.PrintWords
attribute [local go_sem] run_store_float

theorem written_ok (xs : List Ws.Fd) (A : Option Addr) (c : Nat) (w : World) (hC : kF.C w A xs.length xs) (hn : ∀ f ∈ xs, f.n < 2 ^ 64) (s : List UInt8) (h : Ws.write xs = (s, 0)) :
    Calls Tryd.prog 81 #[.slice A xs.length c] w fun e w' => e = .returned (.string ⟨s.toArray⟩) ∧ Below w.heap.size w w' := by
  have HC := Lib.hid hC
  have HN := Lib.hid hn
  have H := Lib.hid h
  clear hC hn h
  go_enter Tryd.func81, Tryd.ntmps81
  go_wp2_with fail
  refine (write_calls xs A c w HC.out HN.out).mono ?_
  rw [H.out]
  rintro e w1 ⟨rfl, hb⟩
  have HB := Lib.hid hb
  clear hb
  go_wp2_with fail
  refine (fine_ok _).mono ?_
  rintro e w2 ⟨rfl, rfl⟩
  go_wp2
  go_ret
  exact ⟨rfl, HB.out⟩
theorem written_dies (xs : List Ws.Fd) (A : Option Addr) (c : Nat) (w : World) (hC : kF.C w A xs.length xs) (hn : ∀ f ∈ xs, f.n < 2 ^ 64) (s : List UInt8) (k : Nat) (h : Ws.write xs = (s, k)) (hk : k ≠ 0) :
    Calls Tryd.prog 81 #[.slice A xs.length c] w fun e w' => e = vdies k ∧ Below w.heap.size w w' := by
  have HC := Lib.hid hC
  have HN := Lib.hid hn
  have H := Lib.hid h
  have hk1 : ((k : Int) == 0) = false := by rw [beq_eq_false_iff_ne]; omega
  clear hC hn h
  unfold vdies
  go_enter Tryd.func81, Tryd.ntmps81
  go_wp2_with fail
  refine (write_calls xs A c w HC.out HN.out).mono ?_
  rw [H.out]
  rintro e w1 ⟨rfl, hb⟩
  have HB := Lib.hid hb
  clear hb
  go_wp2_with fail
  refine (fine_dies k _ hk1).mono ?_
  rintro e w2 ⟨rfl, rfl⟩
  exact ⟨rfl, rfl, HB.out⟩

/-- One field, as a literal. -/
theorem kF_one (w : World) (N : Nat) (hN : w.heap.size = N) (x : Ws.Fd) : kF.C (w.alloc (.cells (cellsF x).toArray 99)) (some ⟨N, 0, none⟩) 1 [x] := by
  subst hN
  exact (Kd.R_reads' (kF_lit w w.heap.size (Nat.le_refl _) x)).2.2

/-- The field of a number. -/
def numFd (x : Vs.Sc) : Ws.Fd := if x.k = 3 then ⟨3, 0, (x.n % 18446744073709551616).toNat, []⟩ else ⟨4, 1, x.f, []⟩
/-- A number as bytes. -/
def numBytes (x : Vs.Sc) : List UInt8 := Ws.one (numFd x)
theorem vi_le (n : Nat) (h : n < 2 ^ 64) : (Ws.vi n).length ≤ 10 := by
  obtain ⟨_, h1, h2⟩ := Ws.vi_len n
  by_cases hl : (Ws.vi n).length ≤ 10
  · exact hl
  · exfalso
    have h3 := h2 (by omega)
    have h4 : 128 ^ 10 ≤ 128 ^ ((Ws.vi n).length - 1) := Nat.pow_le_pow_right (by decide) (by omega)
    have h5 : (2 : Nat) ^ 64 < 128 ^ 10 := by decide
    omega
theorem numWrite (x : Vs.Sc) (hf : x.f < 2 ^ 64) : Ws.write [numFd x] = (numBytes x, 0) ∧ (numFd x).n < 2 ^ 64 := by
  have hlt : (numFd x).n < 2 ^ 64 := by
    unfold numFd
    split
    · show (x.n % 18446744073709551616).toNat < 2 ^ 64; omega
    · exact hf
  refine ⟨?_, hlt⟩
  have hm : Ws.may (numFd x) = true := by unfold numFd; split <;> simp [Ws.may]
  have hl : (Ws.bytes [numFd x]).length ≤ 65536 := by
    simp only [Ws.bytes, List.flatMap_cons, List.flatMap_nil, List.append_nil]
    have h1 := vi_le ((numFd x).k.toNat * 8 + (numFd x).w) (by unfold numFd; split <;> simp)
    have h2 : (Ws.body (numFd x)).length ≤ 10 := by
      by_cases h3 : x.k = 3
      · have e : numFd x = ⟨3, 0, (x.n % 18446744073709551616).toNat, []⟩ := by unfold numFd; rw [if_pos h3]
        rw [e] at hlt ⊢
        simp only [Ws.body]
        exact vi_le _ hlt
      · have e : numFd x = ⟨4, 1, x.f, []⟩ := by unfold numFd; rw [if_neg h3]
        rw [e]
        simp [Ws.body, Ws.lo_len]
    unfold Ws.one
    rw [List.length_append]
    omega
  unfold Ws.write
  rw [if_neg (by simp), if_pos (by simp [hm]), if_neg (by omega)]
  simp [Ws.bytes, numBytes]

set_option maxHeartbeats 1000000 in
set_option maxRecDepth 100000 in
theorem message_num (x : Vs.Sc) (h : isNum x) (hf : x.f < 2 ^ 64) (w : World) :
    Calls Tryd.prog 49 #[.agg (cellsV x nilS nilS)] w fun e w' => e = .returned (.string ⟨(numBytes x).toArray⟩) ∧ Below w.heap.size w w' := by
  have hw := numWrite x hf
  have HW := Lib.hid hw
  have hrun := run_f64bits
  obtain ⟨r, hr⟩ : ∃ r, r = numBytes x := ⟨_, rfl⟩
  rw [← hr] at HW ⊢
  clear hw hf hr
  obtain ⟨k, s, b, n, f⟩ := x
  obtain ⟨h1, h2, h3⟩ := h
  simp only at h1 h2 h3
  subst h2 h3
  unfold cellsV nilS at *
  rcases h1 with ⟨rfl, rfl⟩ | ⟨rfl, rfl⟩
  · have hwr : IntKind.u64.wrap n = ((n % 18446744073709551616).toNat : Int) := by rw [IntKind.wrap_u64]; omega
    have e : numFd ⟨3, ⟨#[]⟩, false, n, 0⟩ = ⟨3, 0, (n % 18446744073709551616).toNat, []⟩ := rfl
    rw [e] at HW
    clear e
    obtain ⟨m, hm⟩ : ∃ m, (n % 18446744073709551616).toNat = m := ⟨_, rfl⟩
    rw [hm] at HW hwr
    clear hm
    go_enter Tryd.func49, Tryd.ntmps49
    go_wp2_with fail
    refine (written_ok [⟨3, 0, m, []⟩] (some ⟨w.heap.size + 1, 0, none⟩) 1 _ (kF_one _ _ (by simp) ⟨3, 0, m, []⟩) (by intro f hf; simp only [List.mem_cons, List.not_mem_nil, or_false] at hf; subst hf; exact HW.out.2) r HW.out.1).mono ?_
    rintro e w1 ⟨rfl, hb⟩
    go_wp2
    go_ret
    exact ⟨rfl, (((Below.refl w.heap.size w).alloc (Nat.le_refl _) _).alloc (by simp) _).trans (hb.mono (by simp; omega))⟩
  · have e : numFd ⟨4, ⟨#[]⟩, false, 0, f⟩ = ⟨4, 1, f, []⟩ := rfl
    rw [e] at HW
    clear e
    go_enter Tryd.func49, Tryd.ntmps49
    go_wp2_with fail
    refine (written_ok [⟨4, 1, f, []⟩] (some ⟨w.heap.size + 1, 0, none⟩) 1 _ (kF_one _ _ (by simp) ⟨4, 1, f, []⟩) (by intro f hf; simp only [List.mem_cons, List.not_mem_nil, or_false] at hf; subst hf; exact HW.out.2) r HW.out.1).mono ?_
    rintro e w1 ⟨rfl, hb⟩
    go_wp2
    go_ret
    exact ⟨rfl, (((Below.refl w.heap.size w).alloc (Nat.le_refl _) _).alloc (by simp) _).trans (hb.mono (by simp; omega))⟩

/-- A value's box. -/
def boxV (x : Vs.Sc) (l m : Value) : Obj := .cells (cellsV x l m) 27 (0, 0)
theorem box_cells {w : World} {b : Nat} {x : Vs.Sc} {l m : Value} (h : w.heap[b]? = some (boxV x l m)) :
    w.cell? ⟨b, 0, none⟩ = some (.int .u8 x.k) ∧ w.cell? ⟨b, 1, none⟩ = some (.string x.s) ∧ w.cell? ⟨b, 2, none⟩ = some (.bool x.b) ∧ w.cell? ⟨b, 3, none⟩ = some (.int .i64 x.n) ∧
      w.cell? ⟨b, 4, none⟩ = some (.float .f64 x.f) ∧ w.cell? ⟨b, 5, none⟩ = some l ∧ w.cell? ⟨b, 6, none⟩ = some m :=
  ⟨blk_cell h 0, blk_cell h 1, blk_cell h 2, blk_cell h 3, blk_cell h 4, blk_cell h 5, blk_cell h 6⟩

set_option maxHeartbeats 1000000 in
set_option maxRecDepth 100000 in
/-- What is handed to caught by Write: it is right, and becomes bytes. -/
theorem write1_ok (x : Vs.Sc) (l m : Value) (b o : Nat) (w : World) (r : ByteArray) (hb : w.heap[b]? = some (boxV x l m)) (ho : w.heap[o]? = some (.cells #[.string ⟨#[]⟩] 9 (0, 0)))
    (hc : ∀ w', Below w.heap.size w w' → Calls Tryd.prog 48 #[.agg (cellsV x l m), .int .i64 0] w' fun e w'' => e = .returned (.tuple #[]) ∧ Below w'.heap.size w' w'')
    (hm : ∀ w', Below w.heap.size w w' → Calls Tryd.prog 49 #[.agg (cellsV x l m)] w' fun e w'' => e = .returned (.string r) ∧ Below w'.heap.size w' w'') :
    Calls Tryd.prog 47 #[.pointer (some ⟨b, 0, none⟩), .pointer (some ⟨o, 0, none⟩)] w fun e w' => e = .returned (.tuple #[]) ∧ ∃ w1, Below w.heap.size w w1 ∧ w' = w1.setCell ⟨o, 0, none⟩ (.string r) := by
  obtain ⟨b0, b1, b2, b3, b4, b5, b6⟩ := box_cells hb
  have HC := Lib.hid hc
  have HM := Lib.hid hm
  have HO := Lib.hid ho
  have HX := Lib.hid hb
  clear hc hm ho hb
  go_enter Tryd.func47, Tryd.ntmps47
  go_wp2_with fail
  refine (HC.out _ (Below.refl _ _)).mono ?_
  rintro e w1 ⟨rfl, hb⟩
  have HB := Lib.hid hb
  obtain ⟨d0, d1, d2, d3, d4, d5, d6⟩ := box_cells (blk_below HX.out HB.out)
  clear hb
  go_wp2_with fail
  refine (HM.out _ HB.out).mono ?_
  rintro e w2 ⟨rfl, hb⟩
  have HB2 := Lib.hid (HB.out.trans (hb.mono HB.out.size))
  have ho2 := blk_below HO.out HB2.out
  have o1 := blk_cell ho2 0
  have o2 := blk_frozen ho2 0
  clear hb ho2
  go_wp2
  go_end0
  exact ⟨rfl, w2, HB2.out, rfl⟩

set_option maxHeartbeats 1000000 in
set_option maxRecDepth 100000 in
/-- Write of a value that is right, out of its parts. -/
theorem write_ok (x : Vs.Sc) (A B : Option Addr) (la ca lb cb : Nat) (w : World) (r : ByteArray)
    (hc : ∀ w', Below w.heap.size w w' → Calls Tryd.prog 48 #[.agg (cellsV x (.slice A la ca) (.slice B lb cb)), .int .i64 0] w' fun e w'' => e = .returned (.tuple #[]) ∧ Below w'.heap.size w' w'')
    (hm : ∀ w', Below w.heap.size w w' → Calls Tryd.prog 49 #[.agg (cellsV x (.slice A la ca) (.slice B lb cb))] w' fun e w'' => e = .returned (.string r) ∧ Below w'.heap.size w' w'') :
    Calls Tryd.prog 17 #[.agg (cellsV x (.slice A la ca) (.slice B lb cb))] w fun e w' => e = .returned (.tuple #[.string r, .int .i64 0]) ∧ Below w.heap.size w w' := by
  have hmf := make_func Tryd.prog
  have HC := Lib.hid hc
  have HM := Lib.hid hm
  clear hc hm
  go_enter Tryd.func17, Tryd.ntmps17
  unfold cellsV
  go_wp2_with fail
  obtain ⟨W0, hW0⟩ : ∃ W0, W0 = (w.alloc (boxV x (.slice A la ca) (.slice B lb cb))).alloc (.cells #[.string ⟨#[]⟩] 9) := ⟨_, rfl⟩
  have hx0 : W0.heap[w.heap.size]? = some (boxV x (.slice A la ca) (.slice B lb cb)) := by rw [hW0]; exact blk_alloc (blk_new w _) _
  have ho0 : W0.heap[w.heap.size + 1]? = some (.cells #[.string ⟨#[]⟩] 9 (0, 0)) := by
    rw [hW0]
    have := blk_new (w.alloc (boxV x (.slice A la ca) (.slice B lb cb))) (.cells #[.string ⟨#[]⟩] 9)
    simpa using this
  have hs0 : W0.heap.size = w.heap.size + 2 := by rw [hW0]; simp
  have HB0 := Lib.hid (show Below w.heap.size w W0 from by rw [hW0]; exact ((Below.refl _ _).alloc (Nat.le_refl _) _).alloc (by simp) _)
  unfold boxV cellsV at hW0
  rw [← hW0]
  clear hW0
  refine (caught_calls 47 #[.pointer (some ⟨w.heap.size, 0, none⟩), .pointer (some ⟨w.heap.size + 1, 0, none⟩)] W0
    (fun w' => ∃ w1, Below (W0.heap.size + 1) (W0.alloc (.cells #[.int .i64 0] 38)) w1 ∧ w' = w1.setCell ⟨w.heap.size + 1, 0, none⟩ (.string r)) (fun _ _ => False) (by intro w'; simp [go_sem]) ?_).mono ?_
  · refine (write1_ok x (.slice A la ca) (.slice B lb cb) w.heap.size (w.heap.size + 1) (W0.alloc (.cells #[.int .i64 0] 38)) r (blk_alloc hx0 _) (blk_alloc ho0 _) ?_ ?_).mono ?_
    · intro w' hb
      exact HC.out w' (HB0.out.trans (((Below.refl W0.heap.size W0).alloc (Nat.le_refl _) _).mono (by rw [hs0]; omega) |>.trans (hb.mono (by simp; omega))))
    · intro w' hb
      exact HM.out w' (HB0.out.trans (((Below.refl W0.heap.size W0).alloc (Nat.le_refl _) _).mono (by rw [hs0]; omega) |>.trans (hb.mono (by simp; omega))))
    · rintro e w' ⟨rfl, w1, hb, rfl⟩
      have hy := blk_far (blk_below (blk_new W0 (.cells #[.int .i64 0] 38)) hb) (p := ⟨w.heap.size + 1, 0, none⟩) (by rw [hs0]; simp) (.string r)
      exact .inl ⟨rfl, blk_cell hy 0, blk_frozen hy 0, w1, by simpa using hb, rfl⟩
  · rintro e w' (⟨rfl, _, ⟨w1, hb, rfl⟩, rfl⟩ | ⟨c, _, _, hbad, _⟩)
    · have ho1 := blk_far (blk_put (blk_below (blk_alloc ho0 (.cells #[.int .i64 0] 38)) (by simpa using hb)) 0 (.string r) rfl) (p := ⟨W0.heap.size, 0, none⟩) (by rw [hs0]; simp) (.int .i64 0)
      have o1 := blk_cell ho1 0
      have o2 := blk_frozen ho1 0
      have hbel : Below w.heap.size w ((w1.setCell ⟨w.heap.size + 1, 0, none⟩ (.string r)).setCell ⟨W0.heap.size, 0, none⟩ (.int .i64 0)) :=
        ((HB0.out.trans ((((Below.refl W0.heap.size W0).alloc (Nat.le_refl _) _).mono (by rw [hs0]; omega)).trans (hb.mono (by rw [hs0]; omega)))).setCell (by simp) _).setCell (by rw [hs0]; simp) _
      generalize ((w1.setCell ⟨w.heap.size + 1, 0, none⟩ (.string r)).setCell ⟨W0.heap.size, 0, none⟩ (.int .i64 0)) = W9 at *
      have HB9 := Lib.hid hbel
      clear hbel ho1 hx0 ho0 hs0
      simp at o1
      go_wp2
      have hh := World.cell?_setCell_same (w := W9) (a := ⟨w.heap.size + 1, 0, none⟩) (v := .string r) o1
      refine bodyPost_ret (v := .tuple #[.string r, .int .i64 0]) ?_ rfl ?_
      · simp [results, Tryd.results17, go_sem, hh]
      · exact ⟨rfl, HB9.out.setCell (by simp) _⟩
    · exact hbad.elim

theorem write_num (x : Vs.Sc) (h : isNum x) (hf : x.f < 2 ^ 64) (w : World) :
    Calls Tryd.prog 17 #[.agg (cellsV x nilS nilS)] w fun e w' => e = .returned (.tuple #[.string ⟨(numBytes x).toArray⟩, .int .i64 0]) ∧ Below w.heap.size w w' :=
  write_ok x none none 0 0 0 0 w ⟨(numBytes x).toArray⟩ (fun w' _ => check_num x h w') (fun w' _ => message_num x h hf w')
end Go.Proofs.YtbgfiflnfndckaaDoor
