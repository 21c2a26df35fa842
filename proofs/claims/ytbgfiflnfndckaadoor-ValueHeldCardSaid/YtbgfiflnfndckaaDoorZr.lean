/- The walk of the document's zero. No conditions. -/
import Derived.Test.YtbgfiflnfndckaaDoorUt
import Derived.Test.YtbgfiflnfndckaaDoorVn
import Derived.Test.YtbgfiflnfndckaaDoorSd
set_option linter.unusedVariables false
set_option linter.unusedSimpArgs false
namespace Go.Proofs.YtbgfiflnfndckaaDoor
open Go.RowKit Go.Proofs.YtbgfiflnfndckaaDoorW.PrintWords
attribute [local go_sem] run_store_float

namespace Vs
/-- A value has nothing but what its kind has. -/
def zeroB (x : Sc) (la lb : Nat) : Bool := decide (x.k < 8) && flat x (bareS x) la (if x.k = 5 then la else 0) lb (if x.k = 6 then lb else 0)
theorem flat_said (x : Sc) (la lb : Nat) : flat x (bareS x) la (if x.k = 5 then la else 0) lb (if x.k = 6 then lb else 0) =
    ((decide (x.k = 1 ∨ x.k = 7) || x.s.toList == []) && ((decide (x.k = 2) || x.b == false) && ((decide (x.k = 3) || x.n == 0) && ((decide (x.k = 4) || x.f == 0) && ((decide (x.k = 5) || la == 0) && (decide (x.k = 6) || lb == 0)))))) := by
  obtain ⟨k, s, b, n, f⟩ := x
  have e1 : (s.toList == (if k = 1 ∨ k = 7 then s else (⟨#[]⟩ : ByteArray)).toList) = (decide (k = 1 ∨ k = 7) || s.toList == []) := by
    by_cases h : k = 1 ∨ k = 7
    · simp [h]
    · simp only [if_neg h, decide_eq_false h, Bool.false_or, Go.Lib.toList_data]
  have e2 : (b == (if k = 2 then b else false)) = (decide (k = 2) || b == false) := by by_cases h : k = 2 <;> simp [h]
  have e3 : (n == (if k = 3 then n else 0)) = (decide (k = 3) || n == 0) := by by_cases h : k = 3 <;> simp [h]
  have e4 : (f == (if k = 4 then f else 0)) = (decide (k = 4) || f == 0) := by by_cases h : k = 4 <;> simp [h]
  have e5 : (la == (if k = 5 then la else 0)) = (decide (k = 5) || la == 0) := by by_cases h : k = 5 <;> simp [h]
  have e6 : (lb == (if k = 6 then lb else 0)) = (decide (k = 6) || lb == 0) := by by_cases h : k = 6 <;> simp [h]
  unfold flat bareS
  simp only [beq_self_eq_true, Bool.true_and]
  rw [e1, e2, e3, e4, e5, e6]
end Vs

set_option maxHeartbeats 4000000 in
set_option maxRecDepth 100000 in
theorem zero_0 (s : ByteArray) (b : Bool) (n : Int) (f : Nat) (A B : Option Addr) (la ca lb cb : Nat) (w : World) (res : Bool)
    (hres : res = ((s.toList == []) && (b == false) && (n == 0) && (f == 0) && (la == 0) && (lb == 0))) :
    Calls Tryd.prog 84 #[.agg (cellsV ⟨0, s, b, n, f⟩ (.slice A la ca) (.slice B lb cb))] w fun e w' => e = .returned (.bool res) ∧ Below w.heap.size w w' := by
  have hf := run_f64bits
  have HRES := Lib.hid hres
  clear hres
  unfold cellsV
  simp only
  have h0_s : (s.toList == []) = false ∨ (s.toList == []) = true := by cases (s.toList == []) <;> simp
  rcases h0_s with h_s | h_s
  · have hr : res = false := by rw [HRES.out]; simp [h_s]
    have cs : (s.toList == []) = false := h_s
    clear HRES
    subst hr
    go_enter Tryd.func84, Tryd.ntmps84
    go_wp2
    go_ret
    exact ⟨rfl, (Below.refl _ _).alloc (Nat.le_refl _) _⟩
  have h0_b : (b) = false ∨ (b) = true := by cases (b) <;> simp
  rcases h0_b with h_b | h_b
  rotate_left
  · have hr : res = false := by rw [HRES.out]; simp [h_s, h_b]
    have cs : (s.toList == []) = true := h_s
    clear HRES
    subst hr
    subst h_b
    go_enter Tryd.func84, Tryd.ntmps84
    go_wp2
    go_ret
    exact ⟨rfl, (Below.refl _ _).alloc (Nat.le_refl _) _⟩
  have h0_n : (n == 0) = false ∨ (n == 0) = true := by cases (n == 0) <;> simp
  rcases h0_n with h_n | h_n
  · have hr : res = false := by rw [HRES.out]; simp [h_s, h_b, h_n]
    have cs : (s.toList == []) = true := h_s
    have cn : (n != 0) = true := by unfold bne; rw [h_n]; rfl
    clear HRES
    subst hr
    subst h_b
    go_enter Tryd.func84, Tryd.ntmps84
    go_wp2
    go_ret
    exact ⟨rfl, (Below.refl _ _).alloc (Nat.le_refl _) _⟩
  have h0_f : (f == 0) = false ∨ (f == 0) = true := by cases (f == 0) <;> simp
  rcases h0_f with h_f | h_f
  · have hr : res = false := by rw [HRES.out]; simp [h_s, h_b, h_n, h_f]
    have cs : (s.toList == []) = true := h_s
    have cn : (n != 0) = false := by unfold bne; rw [h_n]; rfl
    have cf : ((f : Int) != 0) = true := by rw [bne_iff_ne]; have := (beq_eq_false_iff_ne.1 h_f); omega
    clear HRES
    subst hr
    subst h_b
    go_enter Tryd.func84, Tryd.ntmps84
    go_wp2
    go_ret
    exact ⟨rfl, (Below.refl _ _).alloc (Nat.le_refl _) _⟩
  have h0_la : (la == 0) = false ∨ (la == 0) = true := by cases (la == 0) <;> simp
  rcases h0_la with h_la | h_la
  · have hr : res = false := by rw [HRES.out]; simp [h_s, h_b, h_n, h_f, h_la]
    have cs : (s.toList == []) = true := h_s
    have cn : (n != 0) = false := by unfold bne; rw [h_n]; rfl
    have cf : ((f : Int) != 0) = false := by rw [bne_eq_false_iff_eq]; have := (beq_iff_eq.1 h_f); omega
    have cla : (0 : Int) < (la : Int) := by have := beq_eq_false_iff_ne.1 h_la; omega
    clear HRES
    subst hr
    subst h_b
    go_enter Tryd.func84, Tryd.ntmps84
    go_wp2
    go_ret
    exact ⟨rfl, (Below.refl _ _).alloc (Nat.le_refl _) _⟩
  have h0_lb : (lb == 0) = false ∨ (lb == 0) = true := by cases (lb == 0) <;> simp
  rcases h0_lb with h_lb | h_lb
  · have hr : res = false := by rw [HRES.out]; simp [h_s, h_b, h_n, h_f, h_la, h_lb]
    have cs : (s.toList == []) = true := h_s
    have cn : (n != 0) = false := by unfold bne; rw [h_n]; rfl
    have cf : ((f : Int) != 0) = false := by rw [bne_eq_false_iff_eq]; have := (beq_iff_eq.1 h_f); omega
    have cla : ¬ (0 : Int) < (la : Int) := by have := beq_iff_eq.1 h_la; omega
    have clb : (0 : Int) < (lb : Int) := by have := beq_eq_false_iff_ne.1 h_lb; omega
    clear HRES
    subst hr
    subst h_b
    go_enter Tryd.func84, Tryd.ntmps84
    go_wp2
    go_ret
    exact ⟨rfl, (Below.refl _ _).alloc (Nat.le_refl _) _⟩
  have hr : res = true := by rw [HRES.out]; simp [h_s, h_b, h_n, h_f, h_la, h_lb]
  have cs : (s.toList == []) = true := h_s
  have cn : (n != 0) = false := by unfold bne; rw [h_n]; rfl
  have cf : ((f : Int) != 0) = false := by rw [bne_eq_false_iff_eq]; have := (beq_iff_eq.1 h_f); omega
  have cla : ¬ (0 : Int) < (la : Int) := by have := beq_iff_eq.1 h_la; omega
  have clb : ¬ (0 : Int) < (lb : Int) := by have := beq_iff_eq.1 h_lb; omega
  clear HRES
  subst hr
  subst h_b
  go_enter Tryd.func84, Tryd.ntmps84
  go_wp2
  go_ret
  exact ⟨rfl, (Below.refl _ _).alloc (Nat.le_refl _) _⟩
set_option maxHeartbeats 4000000 in
set_option maxRecDepth 100000 in
theorem zero_1 (s : ByteArray) (b : Bool) (n : Int) (f : Nat) (A B : Option Addr) (la ca lb cb : Nat) (w : World) (res : Bool)
    (hres : res = ((b == false) && (n == 0) && (f == 0) && (la == 0) && (lb == 0))) :
    Calls Tryd.prog 84 #[.agg (cellsV ⟨1, s, b, n, f⟩ (.slice A la ca) (.slice B lb cb))] w fun e w' => e = .returned (.bool res) ∧ Below w.heap.size w w' := by
  have hf := run_f64bits
  have HRES := Lib.hid hres
  clear hres
  unfold cellsV
  simp only
  have h0_b : (b) = false ∨ (b) = true := by cases (b) <;> simp
  rcases h0_b with h_b | h_b
  rotate_left
  · have hr : res = false := by rw [HRES.out]; simp [h_b]
    clear HRES
    subst hr
    subst h_b
    go_enter Tryd.func84, Tryd.ntmps84
    go_wp2
    go_ret
    exact ⟨rfl, (Below.refl _ _).alloc (Nat.le_refl _) _⟩
  have h0_n : (n == 0) = false ∨ (n == 0) = true := by cases (n == 0) <;> simp
  rcases h0_n with h_n | h_n
  · have hr : res = false := by rw [HRES.out]; simp [h_b, h_n]
    have cn : (n != 0) = true := by unfold bne; rw [h_n]; rfl
    clear HRES
    subst hr
    subst h_b
    go_enter Tryd.func84, Tryd.ntmps84
    go_wp2
    go_ret
    exact ⟨rfl, (Below.refl _ _).alloc (Nat.le_refl _) _⟩
  have h0_f : (f == 0) = false ∨ (f == 0) = true := by cases (f == 0) <;> simp
  rcases h0_f with h_f | h_f
  · have hr : res = false := by rw [HRES.out]; simp [h_b, h_n, h_f]
    have cn : (n != 0) = false := by unfold bne; rw [h_n]; rfl
    have cf : ((f : Int) != 0) = true := by rw [bne_iff_ne]; have := (beq_eq_false_iff_ne.1 h_f); omega
    clear HRES
    subst hr
    subst h_b
    go_enter Tryd.func84, Tryd.ntmps84
    go_wp2
    go_ret
    exact ⟨rfl, (Below.refl _ _).alloc (Nat.le_refl _) _⟩
  have h0_la : (la == 0) = false ∨ (la == 0) = true := by cases (la == 0) <;> simp
  rcases h0_la with h_la | h_la
  · have hr : res = false := by rw [HRES.out]; simp [h_b, h_n, h_f, h_la]
    have cn : (n != 0) = false := by unfold bne; rw [h_n]; rfl
    have cf : ((f : Int) != 0) = false := by rw [bne_eq_false_iff_eq]; have := (beq_iff_eq.1 h_f); omega
    have cla : (0 : Int) < (la : Int) := by have := beq_eq_false_iff_ne.1 h_la; omega
    clear HRES
    subst hr
    subst h_b
    go_enter Tryd.func84, Tryd.ntmps84
    go_wp2
    go_ret
    exact ⟨rfl, (Below.refl _ _).alloc (Nat.le_refl _) _⟩
  have h0_lb : (lb == 0) = false ∨ (lb == 0) = true := by cases (lb == 0) <;> simp
  rcases h0_lb with h_lb | h_lb
  · have hr : res = false := by rw [HRES.out]; simp [h_b, h_n, h_f, h_la, h_lb]
    have cn : (n != 0) = false := by unfold bne; rw [h_n]; rfl
    have cf : ((f : Int) != 0) = false := by rw [bne_eq_false_iff_eq]; have := (beq_iff_eq.1 h_f); omega
    have cla : ¬ (0 : Int) < (la : Int) := by have := beq_iff_eq.1 h_la; omega
    have clb : (0 : Int) < (lb : Int) := by have := beq_eq_false_iff_ne.1 h_lb; omega
    clear HRES
    subst hr
    subst h_b
    go_enter Tryd.func84, Tryd.ntmps84
    go_wp2
    go_ret
    exact ⟨rfl, (Below.refl _ _).alloc (Nat.le_refl _) _⟩
  have hr : res = true := by rw [HRES.out]; simp [h_b, h_n, h_f, h_la, h_lb]
  have cn : (n != 0) = false := by unfold bne; rw [h_n]; rfl
  have cf : ((f : Int) != 0) = false := by rw [bne_eq_false_iff_eq]; have := (beq_iff_eq.1 h_f); omega
  have cla : ¬ (0 : Int) < (la : Int) := by have := beq_iff_eq.1 h_la; omega
  have clb : ¬ (0 : Int) < (lb : Int) := by have := beq_iff_eq.1 h_lb; omega
  clear HRES
  subst hr
  subst h_b
  go_enter Tryd.func84, Tryd.ntmps84
  go_wp2
  go_ret
  exact ⟨rfl, (Below.refl _ _).alloc (Nat.le_refl _) _⟩
set_option maxHeartbeats 4000000 in
set_option maxRecDepth 100000 in
theorem zero_2 (s : ByteArray) (b : Bool) (n : Int) (f : Nat) (A B : Option Addr) (la ca lb cb : Nat) (w : World) (res : Bool)
    (hres : res = ((s.toList == []) && (n == 0) && (f == 0) && (la == 0) && (lb == 0))) :
    Calls Tryd.prog 84 #[.agg (cellsV ⟨2, s, b, n, f⟩ (.slice A la ca) (.slice B lb cb))] w fun e w' => e = .returned (.bool res) ∧ Below w.heap.size w w' := by
  have hf := run_f64bits
  have HRES := Lib.hid hres
  clear hres
  unfold cellsV
  simp only
  have h0_s : (s.toList == []) = false ∨ (s.toList == []) = true := by cases (s.toList == []) <;> simp
  rcases h0_s with h_s | h_s
  · have hr : res = false := by rw [HRES.out]; simp [h_s]
    have cs : (s.toList == []) = false := h_s
    clear HRES
    subst hr
    go_enter Tryd.func84, Tryd.ntmps84
    go_wp2
    go_ret
    exact ⟨rfl, (Below.refl _ _).alloc (Nat.le_refl _) _⟩
  have h0_n : (n == 0) = false ∨ (n == 0) = true := by cases (n == 0) <;> simp
  rcases h0_n with h_n | h_n
  · have hr : res = false := by rw [HRES.out]; simp [h_s, h_n]
    have cs : (s.toList == []) = true := h_s
    have cn : (n != 0) = true := by unfold bne; rw [h_n]; rfl
    clear HRES
    subst hr
    go_enter Tryd.func84, Tryd.ntmps84
    go_wp2
    go_ret
    exact ⟨rfl, (Below.refl _ _).alloc (Nat.le_refl _) _⟩
  have h0_f : (f == 0) = false ∨ (f == 0) = true := by cases (f == 0) <;> simp
  rcases h0_f with h_f | h_f
  · have hr : res = false := by rw [HRES.out]; simp [h_s, h_n, h_f]
    have cs : (s.toList == []) = true := h_s
    have cn : (n != 0) = false := by unfold bne; rw [h_n]; rfl
    have cf : ((f : Int) != 0) = true := by rw [bne_iff_ne]; have := (beq_eq_false_iff_ne.1 h_f); omega
    clear HRES
    subst hr
    go_enter Tryd.func84, Tryd.ntmps84
    go_wp2
    go_ret
    exact ⟨rfl, (Below.refl _ _).alloc (Nat.le_refl _) _⟩
  have h0_la : (la == 0) = false ∨ (la == 0) = true := by cases (la == 0) <;> simp
  rcases h0_la with h_la | h_la
  · have hr : res = false := by rw [HRES.out]; simp [h_s, h_n, h_f, h_la]
    have cs : (s.toList == []) = true := h_s
    have cn : (n != 0) = false := by unfold bne; rw [h_n]; rfl
    have cf : ((f : Int) != 0) = false := by rw [bne_eq_false_iff_eq]; have := (beq_iff_eq.1 h_f); omega
    have cla : (0 : Int) < (la : Int) := by have := beq_eq_false_iff_ne.1 h_la; omega
    clear HRES
    subst hr
    go_enter Tryd.func84, Tryd.ntmps84
    go_wp2
    go_ret
    exact ⟨rfl, (Below.refl _ _).alloc (Nat.le_refl _) _⟩
  have h0_lb : (lb == 0) = false ∨ (lb == 0) = true := by cases (lb == 0) <;> simp
  rcases h0_lb with h_lb | h_lb
  · have hr : res = false := by rw [HRES.out]; simp [h_s, h_n, h_f, h_la, h_lb]
    have cs : (s.toList == []) = true := h_s
    have cn : (n != 0) = false := by unfold bne; rw [h_n]; rfl
    have cf : ((f : Int) != 0) = false := by rw [bne_eq_false_iff_eq]; have := (beq_iff_eq.1 h_f); omega
    have cla : ¬ (0 : Int) < (la : Int) := by have := beq_iff_eq.1 h_la; omega
    have clb : (0 : Int) < (lb : Int) := by have := beq_eq_false_iff_ne.1 h_lb; omega
    clear HRES
    subst hr
    go_enter Tryd.func84, Tryd.ntmps84
    go_wp2
    go_ret
    exact ⟨rfl, (Below.refl _ _).alloc (Nat.le_refl _) _⟩
  have hr : res = true := by rw [HRES.out]; simp [h_s, h_n, h_f, h_la, h_lb]
  have cs : (s.toList == []) = true := h_s
  have cn : (n != 0) = false := by unfold bne; rw [h_n]; rfl
  have cf : ((f : Int) != 0) = false := by rw [bne_eq_false_iff_eq]; have := (beq_iff_eq.1 h_f); omega
  have cla : ¬ (0 : Int) < (la : Int) := by have := beq_iff_eq.1 h_la; omega
  have clb : ¬ (0 : Int) < (lb : Int) := by have := beq_iff_eq.1 h_lb; omega
  clear HRES
  subst hr
  go_enter Tryd.func84, Tryd.ntmps84
  go_wp2
  go_ret
  exact ⟨rfl, (Below.refl _ _).alloc (Nat.le_refl _) _⟩
set_option maxHeartbeats 4000000 in
set_option maxRecDepth 100000 in
theorem zero_3 (s : ByteArray) (b : Bool) (n : Int) (f : Nat) (A B : Option Addr) (la ca lb cb : Nat) (w : World) (res : Bool)
    (hres : res = ((s.toList == []) && (b == false) && (f == 0) && (la == 0) && (lb == 0))) :
    Calls Tryd.prog 84 #[.agg (cellsV ⟨3, s, b, n, f⟩ (.slice A la ca) (.slice B lb cb))] w fun e w' => e = .returned (.bool res) ∧ Below w.heap.size w w' := by
  have hf := run_f64bits
  have HRES := Lib.hid hres
  clear hres
  unfold cellsV
  simp only
  have h0_s : (s.toList == []) = false ∨ (s.toList == []) = true := by cases (s.toList == []) <;> simp
  rcases h0_s with h_s | h_s
  · have hr : res = false := by rw [HRES.out]; simp [h_s]
    have cs : (s.toList == []) = false := h_s
    clear HRES
    subst hr
    go_enter Tryd.func84, Tryd.ntmps84
    go_wp2
    go_ret
    exact ⟨rfl, (Below.refl _ _).alloc (Nat.le_refl _) _⟩
  have h0_b : (b) = false ∨ (b) = true := by cases (b) <;> simp
  rcases h0_b with h_b | h_b
  rotate_left
  · have hr : res = false := by rw [HRES.out]; simp [h_s, h_b]
    have cs : (s.toList == []) = true := h_s
    clear HRES
    subst hr
    subst h_b
    go_enter Tryd.func84, Tryd.ntmps84
    go_wp2
    go_ret
    exact ⟨rfl, (Below.refl _ _).alloc (Nat.le_refl _) _⟩
  have h0_f : (f == 0) = false ∨ (f == 0) = true := by cases (f == 0) <;> simp
  rcases h0_f with h_f | h_f
  · have hr : res = false := by rw [HRES.out]; simp [h_s, h_b, h_f]
    have cs : (s.toList == []) = true := h_s
    have cf : ((f : Int) != 0) = true := by rw [bne_iff_ne]; have := (beq_eq_false_iff_ne.1 h_f); omega
    clear HRES
    subst hr
    subst h_b
    go_enter Tryd.func84, Tryd.ntmps84
    go_wp2
    go_ret
    exact ⟨rfl, (Below.refl _ _).alloc (Nat.le_refl _) _⟩
  have h0_la : (la == 0) = false ∨ (la == 0) = true := by cases (la == 0) <;> simp
  rcases h0_la with h_la | h_la
  · have hr : res = false := by rw [HRES.out]; simp [h_s, h_b, h_f, h_la]
    have cs : (s.toList == []) = true := h_s
    have cf : ((f : Int) != 0) = false := by rw [bne_eq_false_iff_eq]; have := (beq_iff_eq.1 h_f); omega
    have cla : (0 : Int) < (la : Int) := by have := beq_eq_false_iff_ne.1 h_la; omega
    clear HRES
    subst hr
    subst h_b
    go_enter Tryd.func84, Tryd.ntmps84
    go_wp2
    go_ret
    exact ⟨rfl, (Below.refl _ _).alloc (Nat.le_refl _) _⟩
  have h0_lb : (lb == 0) = false ∨ (lb == 0) = true := by cases (lb == 0) <;> simp
  rcases h0_lb with h_lb | h_lb
  · have hr : res = false := by rw [HRES.out]; simp [h_s, h_b, h_f, h_la, h_lb]
    have cs : (s.toList == []) = true := h_s
    have cf : ((f : Int) != 0) = false := by rw [bne_eq_false_iff_eq]; have := (beq_iff_eq.1 h_f); omega
    have cla : ¬ (0 : Int) < (la : Int) := by have := beq_iff_eq.1 h_la; omega
    have clb : (0 : Int) < (lb : Int) := by have := beq_eq_false_iff_ne.1 h_lb; omega
    clear HRES
    subst hr
    subst h_b
    go_enter Tryd.func84, Tryd.ntmps84
    go_wp2
    go_ret
    exact ⟨rfl, (Below.refl _ _).alloc (Nat.le_refl _) _⟩
  have hr : res = true := by rw [HRES.out]; simp [h_s, h_b, h_f, h_la, h_lb]
  have cs : (s.toList == []) = true := h_s
  have cf : ((f : Int) != 0) = false := by rw [bne_eq_false_iff_eq]; have := (beq_iff_eq.1 h_f); omega
  have cla : ¬ (0 : Int) < (la : Int) := by have := beq_iff_eq.1 h_la; omega
  have clb : ¬ (0 : Int) < (lb : Int) := by have := beq_iff_eq.1 h_lb; omega
  clear HRES
  subst hr
  subst h_b
  go_enter Tryd.func84, Tryd.ntmps84
  go_wp2
  go_ret
  exact ⟨rfl, (Below.refl _ _).alloc (Nat.le_refl _) _⟩
set_option maxHeartbeats 4000000 in
set_option maxRecDepth 100000 in
theorem zero_4 (s : ByteArray) (b : Bool) (n : Int) (f : Nat) (A B : Option Addr) (la ca lb cb : Nat) (w : World) (res : Bool)
    (hres : res = ((s.toList == []) && (b == false) && (n == 0) && (la == 0) && (lb == 0))) :
    Calls Tryd.prog 84 #[.agg (cellsV ⟨4, s, b, n, f⟩ (.slice A la ca) (.slice B lb cb))] w fun e w' => e = .returned (.bool res) ∧ Below w.heap.size w w' := by
  have hf := run_f64bits
  have HRES := Lib.hid hres
  clear hres
  unfold cellsV
  simp only
  have h0_s : (s.toList == []) = false ∨ (s.toList == []) = true := by cases (s.toList == []) <;> simp
  rcases h0_s with h_s | h_s
  · have hr : res = false := by rw [HRES.out]; simp [h_s]
    have cs : (s.toList == []) = false := h_s
    clear HRES
    subst hr
    go_enter Tryd.func84, Tryd.ntmps84
    go_wp2
    go_ret
    exact ⟨rfl, (Below.refl _ _).alloc (Nat.le_refl _) _⟩
  have h0_b : (b) = false ∨ (b) = true := by cases (b) <;> simp
  rcases h0_b with h_b | h_b
  rotate_left
  · have hr : res = false := by rw [HRES.out]; simp [h_s, h_b]
    have cs : (s.toList == []) = true := h_s
    clear HRES
    subst hr
    subst h_b
    go_enter Tryd.func84, Tryd.ntmps84
    go_wp2
    go_ret
    exact ⟨rfl, (Below.refl _ _).alloc (Nat.le_refl _) _⟩
  have h0_n : (n == 0) = false ∨ (n == 0) = true := by cases (n == 0) <;> simp
  rcases h0_n with h_n | h_n
  · have hr : res = false := by rw [HRES.out]; simp [h_s, h_b, h_n]
    have cs : (s.toList == []) = true := h_s
    have cn : (n != 0) = true := by unfold bne; rw [h_n]; rfl
    clear HRES
    subst hr
    subst h_b
    go_enter Tryd.func84, Tryd.ntmps84
    go_wp2
    go_ret
    exact ⟨rfl, (Below.refl _ _).alloc (Nat.le_refl _) _⟩
  have h0_la : (la == 0) = false ∨ (la == 0) = true := by cases (la == 0) <;> simp
  rcases h0_la with h_la | h_la
  · have hr : res = false := by rw [HRES.out]; simp [h_s, h_b, h_n, h_la]
    have cs : (s.toList == []) = true := h_s
    have cn : (n != 0) = false := by unfold bne; rw [h_n]; rfl
    have cla : (0 : Int) < (la : Int) := by have := beq_eq_false_iff_ne.1 h_la; omega
    clear HRES
    subst hr
    subst h_b
    go_enter Tryd.func84, Tryd.ntmps84
    go_wp2
    go_ret
    exact ⟨rfl, (Below.refl _ _).alloc (Nat.le_refl _) _⟩
  have h0_lb : (lb == 0) = false ∨ (lb == 0) = true := by cases (lb == 0) <;> simp
  rcases h0_lb with h_lb | h_lb
  · have hr : res = false := by rw [HRES.out]; simp [h_s, h_b, h_n, h_la, h_lb]
    have cs : (s.toList == []) = true := h_s
    have cn : (n != 0) = false := by unfold bne; rw [h_n]; rfl
    have cla : ¬ (0 : Int) < (la : Int) := by have := beq_iff_eq.1 h_la; omega
    have clb : (0 : Int) < (lb : Int) := by have := beq_eq_false_iff_ne.1 h_lb; omega
    clear HRES
    subst hr
    subst h_b
    go_enter Tryd.func84, Tryd.ntmps84
    go_wp2
    go_ret
    exact ⟨rfl, (Below.refl _ _).alloc (Nat.le_refl _) _⟩
  have hr : res = true := by rw [HRES.out]; simp [h_s, h_b, h_n, h_la, h_lb]
  have cs : (s.toList == []) = true := h_s
  have cn : (n != 0) = false := by unfold bne; rw [h_n]; rfl
  have cla : ¬ (0 : Int) < (la : Int) := by have := beq_iff_eq.1 h_la; omega
  have clb : ¬ (0 : Int) < (lb : Int) := by have := beq_iff_eq.1 h_lb; omega
  clear HRES
  subst hr
  subst h_b
  go_enter Tryd.func84, Tryd.ntmps84
  go_wp2
  go_ret
  exact ⟨rfl, (Below.refl _ _).alloc (Nat.le_refl _) _⟩
set_option maxHeartbeats 4000000 in
set_option maxRecDepth 100000 in
theorem zero_5 (s : ByteArray) (b : Bool) (n : Int) (f : Nat) (A B : Option Addr) (la ca lb cb : Nat) (w : World) (res : Bool)
    (hres : res = ((s.toList == []) && (b == false) && (n == 0) && (f == 0) && (lb == 0))) :
    Calls Tryd.prog 84 #[.agg (cellsV ⟨5, s, b, n, f⟩ (.slice A la ca) (.slice B lb cb))] w fun e w' => e = .returned (.bool res) ∧ Below w.heap.size w w' := by
  have hf := run_f64bits
  have HRES := Lib.hid hres
  clear hres
  unfold cellsV
  simp only
  have h0_s : (s.toList == []) = false ∨ (s.toList == []) = true := by cases (s.toList == []) <;> simp
  rcases h0_s with h_s | h_s
  · have hr : res = false := by rw [HRES.out]; simp [h_s]
    have cs : (s.toList == []) = false := h_s
    clear HRES
    subst hr
    go_enter Tryd.func84, Tryd.ntmps84
    go_wp2
    go_ret
    exact ⟨rfl, (Below.refl _ _).alloc (Nat.le_refl _) _⟩
  have h0_b : (b) = false ∨ (b) = true := by cases (b) <;> simp
  rcases h0_b with h_b | h_b
  rotate_left
  · have hr : res = false := by rw [HRES.out]; simp [h_s, h_b]
    have cs : (s.toList == []) = true := h_s
    clear HRES
    subst hr
    subst h_b
    go_enter Tryd.func84, Tryd.ntmps84
    go_wp2
    go_ret
    exact ⟨rfl, (Below.refl _ _).alloc (Nat.le_refl _) _⟩
  have h0_n : (n == 0) = false ∨ (n == 0) = true := by cases (n == 0) <;> simp
  rcases h0_n with h_n | h_n
  · have hr : res = false := by rw [HRES.out]; simp [h_s, h_b, h_n]
    have cs : (s.toList == []) = true := h_s
    have cn : (n != 0) = true := by unfold bne; rw [h_n]; rfl
    clear HRES
    subst hr
    subst h_b
    go_enter Tryd.func84, Tryd.ntmps84
    go_wp2
    go_ret
    exact ⟨rfl, (Below.refl _ _).alloc (Nat.le_refl _) _⟩
  have h0_f : (f == 0) = false ∨ (f == 0) = true := by cases (f == 0) <;> simp
  rcases h0_f with h_f | h_f
  · have hr : res = false := by rw [HRES.out]; simp [h_s, h_b, h_n, h_f]
    have cs : (s.toList == []) = true := h_s
    have cn : (n != 0) = false := by unfold bne; rw [h_n]; rfl
    have cf : ((f : Int) != 0) = true := by rw [bne_iff_ne]; have := (beq_eq_false_iff_ne.1 h_f); omega
    clear HRES
    subst hr
    subst h_b
    go_enter Tryd.func84, Tryd.ntmps84
    go_wp2
    go_ret
    exact ⟨rfl, (Below.refl _ _).alloc (Nat.le_refl _) _⟩
  have h0_lb : (lb == 0) = false ∨ (lb == 0) = true := by cases (lb == 0) <;> simp
  rcases h0_lb with h_lb | h_lb
  · have hr : res = false := by rw [HRES.out]; simp [h_s, h_b, h_n, h_f, h_lb]
    have cs : (s.toList == []) = true := h_s
    have cn : (n != 0) = false := by unfold bne; rw [h_n]; rfl
    have cf : ((f : Int) != 0) = false := by rw [bne_eq_false_iff_eq]; have := (beq_iff_eq.1 h_f); omega
    have clb : (0 : Int) < (lb : Int) := by have := beq_eq_false_iff_ne.1 h_lb; omega
    clear HRES
    subst hr
    subst h_b
    go_enter Tryd.func84, Tryd.ntmps84
    go_wp2
    go_ret
    exact ⟨rfl, (Below.refl _ _).alloc (Nat.le_refl _) _⟩
  have hr : res = true := by rw [HRES.out]; simp [h_s, h_b, h_n, h_f, h_lb]
  have cs : (s.toList == []) = true := h_s
  have cn : (n != 0) = false := by unfold bne; rw [h_n]; rfl
  have cf : ((f : Int) != 0) = false := by rw [bne_eq_false_iff_eq]; have := (beq_iff_eq.1 h_f); omega
  have clb : ¬ (0 : Int) < (lb : Int) := by have := beq_iff_eq.1 h_lb; omega
  clear HRES
  subst hr
  subst h_b
  go_enter Tryd.func84, Tryd.ntmps84
  go_wp2
  go_ret
  exact ⟨rfl, (Below.refl _ _).alloc (Nat.le_refl _) _⟩
set_option maxHeartbeats 4000000 in
set_option maxRecDepth 100000 in
theorem zero_6 (s : ByteArray) (b : Bool) (n : Int) (f : Nat) (A B : Option Addr) (la ca lb cb : Nat) (w : World) (res : Bool)
    (hres : res = ((s.toList == []) && (b == false) && (n == 0) && (f == 0) && (la == 0))) :
    Calls Tryd.prog 84 #[.agg (cellsV ⟨6, s, b, n, f⟩ (.slice A la ca) (.slice B lb cb))] w fun e w' => e = .returned (.bool res) ∧ Below w.heap.size w w' := by
  have hf := run_f64bits
  have HRES := Lib.hid hres
  clear hres
  unfold cellsV
  simp only
  have h0_s : (s.toList == []) = false ∨ (s.toList == []) = true := by cases (s.toList == []) <;> simp
  rcases h0_s with h_s | h_s
  · have hr : res = false := by rw [HRES.out]; simp [h_s]
    have cs : (s.toList == []) = false := h_s
    clear HRES
    subst hr
    go_enter Tryd.func84, Tryd.ntmps84
    go_wp2
    go_ret
    exact ⟨rfl, (Below.refl _ _).alloc (Nat.le_refl _) _⟩
  have h0_b : (b) = false ∨ (b) = true := by cases (b) <;> simp
  rcases h0_b with h_b | h_b
  rotate_left
  · have hr : res = false := by rw [HRES.out]; simp [h_s, h_b]
    have cs : (s.toList == []) = true := h_s
    clear HRES
    subst hr
    subst h_b
    go_enter Tryd.func84, Tryd.ntmps84
    go_wp2
    go_ret
    exact ⟨rfl, (Below.refl _ _).alloc (Nat.le_refl _) _⟩
  have h0_n : (n == 0) = false ∨ (n == 0) = true := by cases (n == 0) <;> simp
  rcases h0_n with h_n | h_n
  · have hr : res = false := by rw [HRES.out]; simp [h_s, h_b, h_n]
    have cs : (s.toList == []) = true := h_s
    have cn : (n != 0) = true := by unfold bne; rw [h_n]; rfl
    clear HRES
    subst hr
    subst h_b
    go_enter Tryd.func84, Tryd.ntmps84
    go_wp2
    go_ret
    exact ⟨rfl, (Below.refl _ _).alloc (Nat.le_refl _) _⟩
  have h0_f : (f == 0) = false ∨ (f == 0) = true := by cases (f == 0) <;> simp
  rcases h0_f with h_f | h_f
  · have hr : res = false := by rw [HRES.out]; simp [h_s, h_b, h_n, h_f]
    have cs : (s.toList == []) = true := h_s
    have cn : (n != 0) = false := by unfold bne; rw [h_n]; rfl
    have cf : ((f : Int) != 0) = true := by rw [bne_iff_ne]; have := (beq_eq_false_iff_ne.1 h_f); omega
    clear HRES
    subst hr
    subst h_b
    go_enter Tryd.func84, Tryd.ntmps84
    go_wp2
    go_ret
    exact ⟨rfl, (Below.refl _ _).alloc (Nat.le_refl _) _⟩
  have h0_la : (la == 0) = false ∨ (la == 0) = true := by cases (la == 0) <;> simp
  rcases h0_la with h_la | h_la
  · have hr : res = false := by rw [HRES.out]; simp [h_s, h_b, h_n, h_f, h_la]
    have cs : (s.toList == []) = true := h_s
    have cn : (n != 0) = false := by unfold bne; rw [h_n]; rfl
    have cf : ((f : Int) != 0) = false := by rw [bne_eq_false_iff_eq]; have := (beq_iff_eq.1 h_f); omega
    have cla : (0 : Int) < (la : Int) := by have := beq_eq_false_iff_ne.1 h_la; omega
    clear HRES
    subst hr
    subst h_b
    go_enter Tryd.func84, Tryd.ntmps84
    go_wp2
    go_ret
    exact ⟨rfl, (Below.refl _ _).alloc (Nat.le_refl _) _⟩
  have hr : res = true := by rw [HRES.out]; simp [h_s, h_b, h_n, h_f, h_la]
  have cs : (s.toList == []) = true := h_s
  have cn : (n != 0) = false := by unfold bne; rw [h_n]; rfl
  have cf : ((f : Int) != 0) = false := by rw [bne_eq_false_iff_eq]; have := (beq_iff_eq.1 h_f); omega
  have cla : ¬ (0 : Int) < (la : Int) := by have := beq_iff_eq.1 h_la; omega
  clear HRES
  subst hr
  subst h_b
  go_enter Tryd.func84, Tryd.ntmps84
  go_wp2
  go_ret
  exact ⟨rfl, (Below.refl _ _).alloc (Nat.le_refl _) _⟩
set_option maxHeartbeats 4000000 in
set_option maxRecDepth 100000 in
theorem zero_7 (s : ByteArray) (b : Bool) (n : Int) (f : Nat) (A B : Option Addr) (la ca lb cb : Nat) (w : World) (res : Bool)
    (hres : res = ((b == false) && (n == 0) && (f == 0) && (la == 0) && (lb == 0))) :
    Calls Tryd.prog 84 #[.agg (cellsV ⟨7, s, b, n, f⟩ (.slice A la ca) (.slice B lb cb))] w fun e w' => e = .returned (.bool res) ∧ Below w.heap.size w w' := by
  have hf := run_f64bits
  have HRES := Lib.hid hres
  clear hres
  unfold cellsV
  simp only
  have h0_b : (b) = false ∨ (b) = true := by cases (b) <;> simp
  rcases h0_b with h_b | h_b
  rotate_left
  · have hr : res = false := by rw [HRES.out]; simp [h_b]
    clear HRES
    subst hr
    subst h_b
    go_enter Tryd.func84, Tryd.ntmps84
    go_wp2
    go_ret
    exact ⟨rfl, (Below.refl _ _).alloc (Nat.le_refl _) _⟩
  have h0_n : (n == 0) = false ∨ (n == 0) = true := by cases (n == 0) <;> simp
  rcases h0_n with h_n | h_n
  · have hr : res = false := by rw [HRES.out]; simp [h_b, h_n]
    have cn : (n != 0) = true := by unfold bne; rw [h_n]; rfl
    clear HRES
    subst hr
    subst h_b
    go_enter Tryd.func84, Tryd.ntmps84
    go_wp2
    go_ret
    exact ⟨rfl, (Below.refl _ _).alloc (Nat.le_refl _) _⟩
  have h0_f : (f == 0) = false ∨ (f == 0) = true := by cases (f == 0) <;> simp
  rcases h0_f with h_f | h_f
  · have hr : res = false := by rw [HRES.out]; simp [h_b, h_n, h_f]
    have cn : (n != 0) = false := by unfold bne; rw [h_n]; rfl
    have cf : ((f : Int) != 0) = true := by rw [bne_iff_ne]; have := (beq_eq_false_iff_ne.1 h_f); omega
    clear HRES
    subst hr
    subst h_b
    go_enter Tryd.func84, Tryd.ntmps84
    go_wp2
    go_ret
    exact ⟨rfl, (Below.refl _ _).alloc (Nat.le_refl _) _⟩
  have h0_la : (la == 0) = false ∨ (la == 0) = true := by cases (la == 0) <;> simp
  rcases h0_la with h_la | h_la
  · have hr : res = false := by rw [HRES.out]; simp [h_b, h_n, h_f, h_la]
    have cn : (n != 0) = false := by unfold bne; rw [h_n]; rfl
    have cf : ((f : Int) != 0) = false := by rw [bne_eq_false_iff_eq]; have := (beq_iff_eq.1 h_f); omega
    have cla : (0 : Int) < (la : Int) := by have := beq_eq_false_iff_ne.1 h_la; omega
    clear HRES
    subst hr
    subst h_b
    go_enter Tryd.func84, Tryd.ntmps84
    go_wp2
    go_ret
    exact ⟨rfl, (Below.refl _ _).alloc (Nat.le_refl _) _⟩
  have h0_lb : (lb == 0) = false ∨ (lb == 0) = true := by cases (lb == 0) <;> simp
  rcases h0_lb with h_lb | h_lb
  · have hr : res = false := by rw [HRES.out]; simp [h_b, h_n, h_f, h_la, h_lb]
    have cn : (n != 0) = false := by unfold bne; rw [h_n]; rfl
    have cf : ((f : Int) != 0) = false := by rw [bne_eq_false_iff_eq]; have := (beq_iff_eq.1 h_f); omega
    have cla : ¬ (0 : Int) < (la : Int) := by have := beq_iff_eq.1 h_la; omega
    have clb : (0 : Int) < (lb : Int) := by have := beq_eq_false_iff_ne.1 h_lb; omega
    clear HRES
    subst hr
    subst h_b
    go_enter Tryd.func84, Tryd.ntmps84
    go_wp2
    go_ret
    exact ⟨rfl, (Below.refl _ _).alloc (Nat.le_refl _) _⟩
  have hr : res = true := by rw [HRES.out]; simp [h_b, h_n, h_f, h_la, h_lb]
  have cn : (n != 0) = false := by unfold bne; rw [h_n]; rfl
  have cf : ((f : Int) != 0) = false := by rw [bne_eq_false_iff_eq]; have := (beq_iff_eq.1 h_f); omega
  have cla : ¬ (0 : Int) < (la : Int) := by have := beq_iff_eq.1 h_la; omega
  have clb : ¬ (0 : Int) < (lb : Int) := by have := beq_iff_eq.1 h_lb; omega
  clear HRES
  subst hr
  subst h_b
  go_enter Tryd.func84, Tryd.ntmps84
  go_wp2
  go_ret
  exact ⟨rfl, (Below.refl _ _).alloc (Nat.le_refl _) _⟩
set_option maxHeartbeats 4000000 in
set_option maxRecDepth 100000 in
theorem zero_8 (k : Nat) (s : ByteArray) (b : Bool) (n : Int) (f : Nat) (A B : Option Addr) (la ca lb cb : Nat) (w : World) (hk : 8 ≤ k) (res : Bool)
    (hres : res = ((s.toList == []) && (b == false) && (n == 0) && (f == 0) && (la == 0) && (lb == 0) && false)) :
    Calls Tryd.prog 84 #[.agg (cellsV ⟨k, s, b, n, f⟩ (.slice A la ca) (.slice B lb cb))] w fun e w' => e = .returned (.bool res) ∧ Below w.heap.size w w' := by
  have hf := run_f64bits
  have HRES := Lib.hid hres
  clear hres
  unfold cellsV
  simp only
  have k1 : ((k : Int) != 1) = true := by rw [bne_iff_ne]; omega
  have k2 : ((k : Int) != 2) = true := by rw [bne_iff_ne]; omega
  have k3 : ((k : Int) != 3) = true := by rw [bne_iff_ne]; omega
  have k4 : ((k : Int) != 4) = true := by rw [bne_iff_ne]; omega
  have k5 : ((k : Int) != 5) = true := by rw [bne_iff_ne]; omega
  have k6 : ((k : Int) != 6) = true := by rw [bne_iff_ne]; omega
  have k7 : ((k : Int) != 7) = true := by rw [bne_iff_ne]; omega
  have k8 : ¬ (k : Int) < 8 := by omega
  clear hk
  have h0_s : (s.toList == []) = false ∨ (s.toList == []) = true := by cases (s.toList == []) <;> simp
  rcases h0_s with h_s | h_s
  · have hr : res = false := by rw [HRES.out]; simp [h_s]
    have cs : (s.toList == []) = false := h_s
    clear HRES
    subst hr
    go_enter Tryd.func84, Tryd.ntmps84
    go_wp2
    go_ret
    exact ⟨rfl, (Below.refl _ _).alloc (Nat.le_refl _) _⟩
  have h0_b : (b) = false ∨ (b) = true := by cases (b) <;> simp
  rcases h0_b with h_b | h_b
  rotate_left
  · have hr : res = false := by rw [HRES.out]; simp [h_s, h_b]
    have cs : (s.toList == []) = true := h_s
    clear HRES
    subst hr
    subst h_b
    go_enter Tryd.func84, Tryd.ntmps84
    go_wp2
    go_ret
    exact ⟨rfl, (Below.refl _ _).alloc (Nat.le_refl _) _⟩
  have h0_n : (n == 0) = false ∨ (n == 0) = true := by cases (n == 0) <;> simp
  rcases h0_n with h_n | h_n
  · have hr : res = false := by rw [HRES.out]; simp [h_s, h_b, h_n]
    have cs : (s.toList == []) = true := h_s
    have cn : (n != 0) = true := by unfold bne; rw [h_n]; rfl
    clear HRES
    subst hr
    subst h_b
    go_enter Tryd.func84, Tryd.ntmps84
    go_wp2
    go_ret
    exact ⟨rfl, (Below.refl _ _).alloc (Nat.le_refl _) _⟩
  have h0_f : (f == 0) = false ∨ (f == 0) = true := by cases (f == 0) <;> simp
  rcases h0_f with h_f | h_f
  · have hr : res = false := by rw [HRES.out]; simp [h_s, h_b, h_n, h_f]
    have cs : (s.toList == []) = true := h_s
    have cn : (n != 0) = false := by unfold bne; rw [h_n]; rfl
    have cf : ((f : Int) != 0) = true := by rw [bne_iff_ne]; have := (beq_eq_false_iff_ne.1 h_f); omega
    clear HRES
    subst hr
    subst h_b
    go_enter Tryd.func84, Tryd.ntmps84
    go_wp2
    go_ret
    exact ⟨rfl, (Below.refl _ _).alloc (Nat.le_refl _) _⟩
  have h0_la : (la == 0) = false ∨ (la == 0) = true := by cases (la == 0) <;> simp
  rcases h0_la with h_la | h_la
  · have hr : res = false := by rw [HRES.out]; simp [h_s, h_b, h_n, h_f, h_la]
    have cs : (s.toList == []) = true := h_s
    have cn : (n != 0) = false := by unfold bne; rw [h_n]; rfl
    have cf : ((f : Int) != 0) = false := by rw [bne_eq_false_iff_eq]; have := (beq_iff_eq.1 h_f); omega
    have cla : (0 : Int) < (la : Int) := by have := beq_eq_false_iff_ne.1 h_la; omega
    clear HRES
    subst hr
    subst h_b
    go_enter Tryd.func84, Tryd.ntmps84
    go_wp2
    go_ret
    exact ⟨rfl, (Below.refl _ _).alloc (Nat.le_refl _) _⟩
  have h0_lb : (lb == 0) = false ∨ (lb == 0) = true := by cases (lb == 0) <;> simp
  rcases h0_lb with h_lb | h_lb
  · have hr : res = false := by rw [HRES.out]; simp [h_s, h_b, h_n, h_f, h_la, h_lb]
    have cs : (s.toList == []) = true := h_s
    have cn : (n != 0) = false := by unfold bne; rw [h_n]; rfl
    have cf : ((f : Int) != 0) = false := by rw [bne_eq_false_iff_eq]; have := (beq_iff_eq.1 h_f); omega
    have cla : ¬ (0 : Int) < (la : Int) := by have := beq_iff_eq.1 h_la; omega
    have clb : (0 : Int) < (lb : Int) := by have := beq_eq_false_iff_ne.1 h_lb; omega
    clear HRES
    subst hr
    subst h_b
    go_enter Tryd.func84, Tryd.ntmps84
    go_wp2
    go_ret
    exact ⟨rfl, (Below.refl _ _).alloc (Nat.le_refl _) _⟩
  have hr : res = false := by rw [HRES.out]; simp [h_s, h_b, h_n, h_f, h_la, h_lb]
  have cs : (s.toList == []) = true := h_s
  have cn : (n != 0) = false := by unfold bne; rw [h_n]; rfl
  have cf : ((f : Int) != 0) = false := by rw [bne_eq_false_iff_eq]; have := (beq_iff_eq.1 h_f); omega
  have cla : ¬ (0 : Int) < (la : Int) := by have := beq_iff_eq.1 h_la; omega
  have clb : ¬ (0 : Int) < (lb : Int) := by have := beq_iff_eq.1 h_lb; omega
  clear HRES
  subst hr
  subst h_b
  go_enter Tryd.func84, Tryd.ntmps84
  go_wp2
  go_ret
  exact ⟨rfl, (Below.refl _ _).alloc (Nat.le_refl _) _⟩
/-- The document's zero, of any value. -/
theorem zero_calls (x : Vs.Sc) (A B : Option Addr) (la ca lb cb : Nat) (w : World) :
    Calls Tryd.prog 84 #[.agg (cellsV x (.slice A la ca) (.slice B lb cb))] w fun e w' => e = .returned (.bool (Vs.zeroB x la lb)) ∧ Below w.heap.size w w' := by
  obtain ⟨k, s, b, n, f⟩ := x
  have hz : ∀ k, Vs.zeroB ⟨k, s, b, n, f⟩ la lb = (decide (k < 8) && ((decide (k = 1 ∨ k = 7) || s.toList == []) && ((decide (k = 2) || b == false) && ((decide (k = 3) || n == 0) && ((decide (k = 4) || f == 0) && ((decide (k = 5) || la == 0) && (decide (k = 6) || lb == 0))))))) := fun k => by
    unfold Vs.zeroB
    rw [Vs.flat_said]
  by_cases h8 : 8 ≤ k
  · refine zero_8 k s b n f A B la ca lb cb w h8 _ ?_
    rw [hz, decide_eq_false (by omega : ¬ k < 8)]
    simp
  have hk : k = 0 ∨ k = 1 ∨ k = 2 ∨ k = 3 ∨ k = 4 ∨ k = 5 ∨ k = 6 ∨ k = 7 := by omega
  rcases hk with rfl | rfl | rfl | rfl | rfl | rfl | rfl | rfl
  · refine zero_0 s b n f A B la ca lb cb w _ ?_
    rw [hz]
    simp [Bool.and_assoc]
  · refine zero_1 s b n f A B la ca lb cb w _ ?_
    rw [hz]
    simp [Bool.and_assoc]
  · refine zero_2 s b n f A B la ca lb cb w _ ?_
    rw [hz]
    simp [Bool.and_assoc]
  · refine zero_3 s b n f A B la ca lb cb w _ ?_
    rw [hz]
    simp [Bool.and_assoc]
  · refine zero_4 s b n f A B la ca lb cb w _ ?_
    rw [hz]
    simp [Bool.and_assoc]
  · refine zero_5 s b n f A B la ca lb cb w _ ?_
    rw [hz]
    simp [Bool.and_assoc]
  · refine zero_6 s b n f A B la ca lb cb w _ ?_
    rw [hz]
    simp [Bool.and_assoc]
  · refine zero_7 s b n f A B la ca lb cb w _ ?_
    rw [hz]
    simp [Bool.and_assoc]
end Go.Proofs.YtbgfiflnfndckaaDoor
