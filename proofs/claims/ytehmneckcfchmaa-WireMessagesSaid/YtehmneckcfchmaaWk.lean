/- The walk of Same: are two lists of fields one? No conditions but that the first is no longer than a list may be. -/
import Derived.Test.YtehmneckcfchmaaWh
import Derived.Test.YtehmneckcfchmaaWEqStruct
set_option linter.unusedVariables false
set_option linter.unusedSimpArgs false
namespace Go.Proofs.Ytehmneckcfchmaa
open Go.RowKit Go.Proofs.YtehmneckcfchmaaW.PrintWords

theorem fd_eq (d : Nat) (w : World) (x0 y0 : Int) (x1 y1 : Int) (x2 y2 : Int) (x3 y3 : ByteArray) :
    (Op.equalIn (d + 2) 32 (.agg #[.int .i64 x0, .int .u8 x1, .int .u64 x2, .string x3]) (.agg #[.int .i64 y0, .int .u8 y1, .int .u64 y2, .string y3])).run Try.prog w = .ok (x0 == y0 && (x1 == y1 && (x2 == y2 && (x3.toList == y3.toList)))) w := by
  refine eqA_of Try.underlying32 (by kernel_rfl) ?_
  refine eqf_cons (by rfl) (by go_simp; rfl) (by go_simp; rfl) (by go_simp) ?_
  refine eqf_cons (by rfl) (by go_simp; rfl) (by go_simp; rfl) (by go_simp) ?_
  refine eqf_cons (by rfl) (by go_simp; rfl) (by go_simp; rfl) (by go_simp) ?_
  exact eqf_last (by rfl) (by go_simp; rfl) (by go_simp; rfl) (by go_simp)

/-- The question whether two fields are another, as the walk meets it. -/
theorem fd_ne (x y : Ws.Fd) : (!(x.k == y.k) || (!((x.w : Int) == (y.w : Int)) || (!((x.n : Int) == (y.n : Int)) || !(x.s == y.s)))) = !decide (x = y) := by
  have h : (x.k == y.k && ((x.w : Int) == (y.w : Int) && ((x.n : Int) == (y.n : Int) && (x.s == y.s)))) = decide (x = y) := by
    rw [Bool.eq_iff_iff]
    simp only [Bool.and_eq_true, beq_iff_eq, decide_eq_true_eq]
    obtain ⟨a, b, c, d⟩ := x
    obtain ⟨a', b', c', d'⟩ := y
    simp only [Ws.Fd.mk.injEq]
    constructor
    · rintro ⟨h1, h2, h3, h4⟩; exact ⟨h1, by omega, by omega, h4⟩
    · rintro ⟨h1, h2, h3, h4⟩; exact ⟨h1, by omega, by omega, h4⟩
  rw [← h]
  simp only [Bool.not_and]

attribute [local go_sem high] fd_eq
set_option maxHeartbeats 2000000 in
set_option maxRecDepth 100000 in
theorem same_calls (xs ys : List Ws.Fd) (A B : Option Addr) (c d : Nat) (w : World) (hC : kF.C w A xs.length xs) (hD : kF.C w B ys.length ys) (hl : xs.length ≤ 9223372036854775807) :
    Calls Try.prog 15 #[.slice A xs.length c, .slice B ys.length d] w fun e w' => e = .returned (.bool (decide (xs = ys))) ∧ Below w.heap.size w w' := by
  have hu := Try.underlying32
  have HC := Lib.hid hC
  have HD := Lib.hid hD
  obtain ⟨res, hres⟩ : ∃ r, r = decide (xs = ys) := ⟨_, rfl⟩
  rw [← hres]
  have HR := Lib.hid hres
  clear hC hD hres
  by_cases hle : xs.length = ys.length
  · have hle1 : ((xs.length : Int) != (ys.length : Int)) = false := by rw [bne_eq_false_iff_eq]; omega
    have HE := Lib.hid hle
    clear hle
    go_enter Try.func15, Try.ntmps15
    go_wp2
    repeat (go_quiet (fail); try go_wp2)
    go_loopw [13] (fun i wr => ∃ k : Nat, k ≤ xs.length ∧ i = .int .i64 k ∧ Hid (xs.take k = ys.take k) ∧ Hid (Below w.heap.size w wr)) (fun i _ => xs.length - (intOf i).toNat)
    case atStart => exact ⟨0, Nat.zero_le _, rfl, Lib.hid (by simp), Lib.hid (Below.refl _ _)⟩
    case round =>
      obtain ⟨k, hk, rfl, HT, HB⟩ := hrel
      by_cases hkn : k < xs.length
      · have hkm : k < ys.length := by have := HE.out; omega
        obtain ⟨x, hx⟩ : ∃ x, xs[k]? = some x := ⟨xs[k], List.getElem?_eq_getElem hkn⟩
        obtain ⟨y, hy⟩ : ∃ y, ys[k]? = some y := ⟨ys[k], List.getElem?_eq_getElem hkm⟩
        obtain ⟨ad, rfl, c0, c1, c2, c3⟩ := cellsF_at (Kd.C_below HC.out HB.out) k hkn x hx
        obtain ⟨ae, rfl, e0, e1, e2, e3⟩ := cellsF_at (Kd.C_below HD.out HB.out) k hkm y hy
        have HX := Lib.hid hx
        have HY := Lib.hid hy
        clear hx hy
        by_cases hxy : x = y
        · subst hxy
          go_wp2
          repeat (go_quiet (fail); try go_wp2)
          go_roundw
          case measure => simp [intOf]; omega
          case rel => exact ⟨k + 1, hkn, rfl, Lib.hid (by rw [List.take_add_one, List.take_add_one, HX.out, HY.out, HT.out]), Lib.hid (by first | exact HB.out | exact pw_below_drewN HB.out _)⟩
        · have hd := fd_ne x y
          rw [decide_eq_false hxy, Bool.not_false] at hd
          have hr : res = false := by
            rw [HR.out]
            refine decide_eq_false fun hh => hxy ?_
            have := HX.out
            rw [hh, HY.out] at this
            exact (Option.some.inj this).symm
          clear hxy
          go_wp2
          repeat (go_quiet (fail); try go_wp2)
          go_ret
          rw [hr]
          exact ⟨rfl, by first | exact HB.out | exact pw_below_drewN HB.out _⟩
      · have hke : k = xs.length := by omega
        have hr : res = true := by
          rw [HR.out]
          refine decide_eq_true ?_
          have h1 := HT.out
          rw [hke, List.take_length, HE.out, List.take_length] at h1
          exact h1
        go_wp2
        go_ret
        rw [hr]
        exact ⟨rfl, HB.out⟩
  · have hle1 : ((xs.length : Int) != (ys.length : Int)) = true := by rw [bne_iff_ne]; omega
    have hr : res = false := by
      rw [HR.out]
      exact decide_eq_false fun hh => hle (by rw [hh])
    rw [hr]
    clear hle
    go_enter Try.func15, Try.ntmps15
    go_wp2
    go_ret
    exact ⟨rfl, Below.refl _ _⟩
end Go.Proofs.Ytehmneckcfchmaa
