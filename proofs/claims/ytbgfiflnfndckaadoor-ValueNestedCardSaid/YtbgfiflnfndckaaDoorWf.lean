/- The walk of the reader's field: which field stands first, or with which error's number it panics. No conditions beside: the reader is a block of its own. -/
import Derived.Test.YtbgfiflnfndckaaDoorWt
import Derived.Lib.BufferOwn
set_option linter.unusedVariables false
set_option linter.unusedSimpArgs false
namespace Go.Proofs.YtbgfiflnfndckaaDoor
open Go.RowKit Go.Proofs.YtbgfiflnfndckaaDoorW.PrintWords

/-- A field as the program holds it. -/
def fval (f : Ws.Fd) : Value := .agg #[.int .i64 f.k, .int .u8 f.w, .int .u64 f.n, .string ⟨f.s.toArray⟩]

theorem low3 (t : Nat) (h : t < 2 ^ 64) : bits .and .u64 (t : Int) 7 = ((t % 8 : Nat) : Int) := by
  have := u64_and_nat t 7 h (by decide)
  rw [show ((7 : Nat) : Int) = 7 from rfl] at this
  rw [this]
  congr 1
  exact Nat.and_two_pow_sub_one_eq_mod t 3
theorem low29 (t : Nat) (h : t ≤ 536870911) : bits .and .u64 (t : Int) 536870911 = (t : Int) := by
  have := u64_and_nat t 536870911 (by omega) (by decide)
  rw [show ((536870911 : Nat) : Int) = 536870911 from rfl] at this
  rw [this]
  congr 1
  rw [Nat.and_two_pow_sub_one_eq_mod t 29]
  omega

theorem cur_alloc {b : Nat} {s : ByteArray} {w : World} (h : Cur w b s) (o : Obj) : Cur (w.alloc o) b s := (Below.heap_alloc w o b (blk_lt h)).trans h
theorem cur_put {b : Nat} {s : ByteArray} {w : World} (h : Cur w b s) (t : ByteArray) : Cur (w.setCell ⟨b, 0, none⟩ (.string t)) b t := blk_set h 0 (.string t)
theorem cur_far {b : Nat} {s : ByteArray} {w : World} (h : Cur w b s) {p : Addr} (hp : b ≠ p.block) (v : Value) : Cur (w.setCell p v) b s := blk_far h hp v
theorem cur_cell {b : Nat} {s : ByteArray} {w : World} (h : Cur w b s) : w.cell? ⟨b, 0, none⟩ = some (.string s) := blk_cell h 0
theorem cur_free {b : Nat} {s : ByteArray} {w : World} (h : Cur w b s) : w.frozen? ⟨b, 0, none⟩ = false := blk_frozen h 0
theorem goes_put {b : Nat} {w W : World} {r : List UInt8} (h : CurGoes b w r W) (q : List UInt8) : CurGoes b w q (W.setCell ⟨b, 0, none⟩ (.string ⟨q.toArray⟩)) :=
  ⟨cur_put h.1 _, Lib.grownBy_trans h.2 (Lib.grownBy_setCell W b 0 _)⟩
theorem goes_alloc {b : Nat} {w W : World} {r : List UInt8} (h : CurGoes b w r W) (o : Obj) : CurGoes b w r (W.alloc o) := ⟨cur_alloc h.1 o, Lib.grownBy_allocR h.2 o⟩
theorem grown_far {b : Nat} {w W : World} (h : w.grownBy W (some b)) {p : Addr} (hp : w.heap.size ≤ p.block) (v : Value) : w.grownBy (W.setCell p v) (some b) :=
  ⟨h.os, h.tape, h.output, by simpa [World.setCell] using h.size, fun k hk hne => (Below.heap_setCell W p v k (by omega)).trans (h.block k hk hne)⟩
theorem goes_far {b : Nat} {w W : World} {r : List UInt8} (h : CurGoes b w r W) (hb : b < w.heap.size) {p : Addr} (hp : w.heap.size ≤ p.block) (v : Value) : CurGoes b w r (W.setCell p v) :=
  ⟨cur_far h.1 (by omega) v, grown_far h.2 hp v⟩
theorem goes_then {b : Nat} {w W W' : World} {r q : List UInt8} (h : CurGoes b w r W) (k : CurGoes b W q W') : CurGoes b w q W' := ⟨k.1, Lib.grownBy_trans h.2 k.2⟩
theorem blk1 {b : Nat} {s : ByteArray} {w : World} (h : Cur w b s) (v : Value) (o1 o2 : Obj) : (((w.setCell ⟨b, 0, none⟩ v).alloc o1).alloc o2).heap[w.heap.size]? = some o1 := by
  have e : (w.setCell ⟨b, 0, none⟩ v).heap.size = w.heap.size := by simp [World.setCell]
  have h1 := heap_alloc_new (w.setCell ⟨b, 0, none⟩ v) o1
  rw [e] at h1
  rw [Below.heap_alloc _ _ _ (by simp)]
  exact h1
theorem blk2 {b : Nat} {s : ByteArray} {w : World} (h : Cur w b s) (v : Value) (o1 o2 : Obj) : (((w.setCell ⟨b, 0, none⟩ v).alloc o1).alloc o2).heap[w.heap.size + 1]? = some o2 := by
  have e : ((w.setCell ⟨b, 0, none⟩ v).alloc o1).heap.size = w.heap.size + 1 := by simp
  have h1 := heap_alloc_new ((w.setCell ⟨b, 0, none⟩ v).alloc o1) o2
  rw [e] at h1
  exact h1
set_option maxHeartbeats 2000000 in
set_option maxRecDepth 100000 in
theorem field_d9 {b : Nat} {s : ByteArray} {w : World} (h : Cur w b s) (hs : s.size ≤ maxLen) (hn : Ws.num s.data.toList = none) :
    Calls Tryd.prog 111 #[.pointer (some ⟨b, 0, none⟩)] w fun e w' => e = .panicked [{ v := .iface 38 (.int .i64 9), recovered := false }] ∧ w.grownBy w' (some b) := by
  have hc := cur_cell h
  have hz := cur_free h
  have hb := blk_lt h
  go_enter Tryd.func111, Tryd.ntmps111
  go_wp2_with fail
  refine (num_dies (cur_cell (cur_alloc h _)) (cur_free (cur_alloc h _)) hs hn).mono ?_
  rintro e w' ⟨rfl, rfl⟩
  exact ⟨rfl, rfl, World.grownBy_alloc _ _ _⟩

set_option maxHeartbeats 2000000 in
set_option maxRecDepth 100000 in
theorem field_drange {b : Nat} {s : ByteArray} {w : World} (h : Cur w b s) (hs : s.size ≤ maxLen) {t : Nat} {r : List UInt8} (hn : Ws.num s.data.toList = some (t, r)) (h1 : t / 8 < 1 ∨ 536870911 < t / 8) :
    Calls Tryd.prog 111 #[.pointer (some ⟨b, 0, none⟩)] w fun e w' => e = .panicked [{ v := .iface 38 (.int .i64 10), recovered := false }] ∧ w.grownBy w' (some b) := by
  have hc := cur_cell h
  have hz := cur_free h
  have hb := blk_lt h
  have ht := Ws.num_lt hn
  have hrs : r.length < s.size := by have := Ws.num_shorter hn; simpa using this
  have e1 := low3 t ht
  obtain ⟨q, hq⟩ : ∃ q, q = t / 8 := ⟨_, rfl⟩
  have e3 : (t : Int) / 8 = (q : Int) := by rw [hq]; rfl
  rw [← hq] at h1
  clear hq e1
  have hh : q < 1 ∨ (1 ≤ q ∧ 536870911 < q) := by omega
  clear h1
  rcases hh with h1 | ⟨h0, h1⟩
  all_goals
    go_enter Tryd.func111, Tryd.ntmps111
    go_wp2_with fail
    refine (num_ok (cur_cell (cur_alloc h _)) (cur_free (cur_alloc h _)) hs hn).mono ?_
    rintro e w' ⟨rfl, rfl⟩
    go_wp2_with fail
    exact ⟨rfl, rfl, Lib.grownBy_allocR (Lib.grownBy_allocR (cur_set h r).2 _) _⟩

set_option maxHeartbeats 2000000 in
set_option maxRecDepth 100000 in
theorem field_dwire {b : Nat} {s : ByteArray} {w : World} (h : Cur w b s) (hs : s.size ≤ maxLen) {t : Nat} {r : List UInt8} (hn : Ws.num s.data.toList = some (t, r)) (h1 : 1 ≤ t / 8) (h2 : t / 8 ≤ 536870911) (h0 : t % 8 ≠ 0) (h01 : t % 8 ≠ 1) (h05 : t % 8 ≠ 5) (h02 : t % 8 ≠ 2) :
    Calls Tryd.prog 111 #[.pointer (some ⟨b, 0, none⟩)] w fun e w' => e = .panicked [{ v := .iface 38 (.int .i64 10), recovered := false }] ∧ w.grownBy w' (some b) := by
  have hc := cur_cell h
  have hz := cur_free h
  have hb := blk_lt h
  have ht := Ws.num_lt hn
  have hrs : r.length < s.size := by have := Ws.num_shorter hn; simpa using this
  have e1 := low3 t ht
  obtain ⟨q, hq⟩ : ∃ q, q = t / 8 := ⟨_, rfl⟩
  have e3 : (t : Int) / 8 = (q : Int) := by rw [hq]; rfl
  rw [← hq] at h1 h2
  have e2 := low29 q h2
  clear hq
  obtain ⟨x, hx⟩ : ∃ x, x = t % 8 := ⟨_, rfl⟩
  rw [← hx] at e1 h0 h01 h05 h02
  have hx8 : x < 8 := by omega
  have em : (x : Int) % 256 = (x : Int) := by omega
  clear hx
  have f0 : ((x : Int) == 0) = false := by simp; omega
  have f1 : ((x : Int) == 1) = false := by simp; omega
  have f5 : ((x : Int) == 5) = false := by simp; omega
  have f2 : ((x : Int) == 2) = false := by simp; omega
  go_enter Tryd.func111, Tryd.ntmps111
  go_wp2_with fail
  refine (num_ok (cur_cell (cur_alloc h _)) (cur_free (cur_alloc h _)) hs hn).mono ?_
  rintro e w' ⟨rfl, rfl⟩
  go_wp2_with fail
  exact ⟨rfl, rfl, Lib.grownBy_allocR (Lib.grownBy_allocR (cur_set h r).2 _) _⟩

set_option maxHeartbeats 2000000 in
set_option maxRecDepth 100000 in
theorem field_d0 {b : Nat} {s : ByteArray} {w : World} (h : Cur w b s) (hs : s.size ≤ maxLen) {t : Nat} {r : List UInt8} (hn : Ws.num s.data.toList = some (t, r)) (h1 : 1 ≤ t / 8) (h2 : t / 8 ≤ 536870911) (h0 : t % 8 = 0) (hn2 : Ws.num r = none) :
    Calls Tryd.prog 111 #[.pointer (some ⟨b, 0, none⟩)] w fun e w' => e = .panicked [{ v := .iface 38 (.int .i64 9), recovered := false }] ∧ w.grownBy w' (some b) := by
  have hc := cur_cell h
  have hz := cur_free h
  have hb := blk_lt h
  have ht := Ws.num_lt hn
  have hrs : r.length < s.size := by have := Ws.num_shorter hn; simpa using this
  have e1 := low3 t ht
  obtain ⟨q, hq⟩ : ∃ q, q = t / 8 := ⟨_, rfl⟩
  have e3 : (t : Int) / 8 = (q : Int) := by rw [hq]; rfl
  rw [← hq] at h1 h2
  have e2 := low29 q h2
  rw [h0] at e1
  clear hq
  go_enter Tryd.func111, Tryd.ntmps111
  go_wp2_with fail
  refine (num_ok (cur_cell (cur_alloc h _)) (cur_free (cur_alloc h _)) hs hn).mono ?_
  rintro e w' ⟨rfl, rfl⟩
  go_wp2_with fail
  refine (num_dies (cur_cell (cur_alloc (cur_alloc (cur_put h ⟨r.toArray⟩) _) _)) (cur_free (cur_alloc (cur_alloc (cur_put h ⟨r.toArray⟩) _) _)) (show (⟨r.toArray⟩ : ByteArray).size ≤ maxLen by show r.length ≤ _; omega) hn2).mono ?_
  rintro e w' ⟨rfl, rfl⟩
  exact ⟨rfl, rfl, Lib.grownBy_allocR (Lib.grownBy_allocR (cur_set h r).2 _) _⟩

set_option maxHeartbeats 2000000 in
set_option maxRecDepth 100000 in
theorem field_d2 {b : Nat} {s : ByteArray} {w : World} (h : Cur w b s) (hs : s.size ≤ maxLen) {t : Nat} {r : List UInt8} (hn : Ws.num s.data.toList = some (t, r)) (h1 : 1 ≤ t / 8) (h2 : t / 8 ≤ 536870911) (h0 : t % 8 = 2) (hn2 : Ws.num r = none) :
    Calls Tryd.prog 111 #[.pointer (some ⟨b, 0, none⟩)] w fun e w' => e = .panicked [{ v := .iface 38 (.int .i64 9), recovered := false }] ∧ w.grownBy w' (some b) := by
  have hc := cur_cell h
  have hz := cur_free h
  have hb := blk_lt h
  have ht := Ws.num_lt hn
  have hrs : r.length < s.size := by have := Ws.num_shorter hn; simpa using this
  have e1 := low3 t ht
  obtain ⟨q, hq⟩ : ∃ q, q = t / 8 := ⟨_, rfl⟩
  have e3 : (t : Int) / 8 = (q : Int) := by rw [hq]; rfl
  rw [← hq] at h1 h2
  have e2 := low29 q h2
  rw [h0] at e1
  clear hq
  go_enter Tryd.func111, Tryd.ntmps111
  go_wp2_with fail
  refine (num_ok (cur_cell (cur_alloc h _)) (cur_free (cur_alloc h _)) hs hn).mono ?_
  rintro e w' ⟨rfl, rfl⟩
  go_wp2_with fail
  refine (num_dies (cur_cell (cur_alloc (cur_alloc (cur_put h ⟨r.toArray⟩) _) _)) (cur_free (cur_alloc (cur_alloc (cur_put h ⟨r.toArray⟩) _) _)) (show (⟨r.toArray⟩ : ByteArray).size ≤ maxLen by show r.length ≤ _; omega) hn2).mono ?_
  rintro e w' ⟨rfl, rfl⟩
  exact ⟨rfl, rfl, Lib.grownBy_allocR (Lib.grownBy_allocR (cur_set h r).2 _) _⟩

set_option maxHeartbeats 2000000 in
set_option maxRecDepth 100000 in
theorem field_d1 {b : Nat} {s : ByteArray} {w : World} (h : Cur w b s) (hs : s.size ≤ maxLen) {t : Nat} {r : List UInt8} (hn : Ws.num s.data.toList = some (t, r)) (h1 : 1 ≤ t / 8) (h2 : t / 8 ≤ 536870911) (h0 : t % 8 = 1) (hl : r.length < 8) :
    Calls Tryd.prog 111 #[.pointer (some ⟨b, 0, none⟩)] w fun e w' => e = .panicked [{ v := .iface 38 (.int .i64 10), recovered := false }] ∧ w.grownBy w' (some b) := by
  have hc := cur_cell h
  have hz := cur_free h
  have hb := blk_lt h
  have ht := Ws.num_lt hn
  have hrs : r.length < s.size := by have := Ws.num_shorter hn; simpa using this
  have e1 := low3 t ht
  obtain ⟨q, hq⟩ : ∃ q, q = t / 8 := ⟨_, rfl⟩
  have e3 : (t : Int) / 8 = (q : Int) := by rw [hq]; rfl
  rw [← hq] at h1 h2
  have e2 := low29 q h2
  rw [h0] at e1
  clear hq
  go_enter Tryd.func111, Tryd.ntmps111
  go_wp2_with fail
  refine (num_ok (cur_cell (cur_alloc h _)) (cur_free (cur_alloc h _)) hs hn).mono ?_
  rintro e w' ⟨rfl, rfl⟩
  go_wp2_with fail
  refine (low_dies (cur_alloc (cur_alloc (cur_put h ⟨r.toArray⟩) _) _) (show (⟨r.toArray⟩ : ByteArray).size ≤ maxLen by show r.length ≤ _; omega) (by decide) (show r.length < 8 from hl)).mono ?_
  rintro e w' ⟨rfl, rfl⟩
  exact ⟨rfl, rfl, Lib.grownBy_allocR (Lib.grownBy_allocR (cur_set h r).2 _) _⟩

set_option maxHeartbeats 2000000 in
set_option maxRecDepth 100000 in
theorem field_d5 {b : Nat} {s : ByteArray} {w : World} (h : Cur w b s) (hs : s.size ≤ maxLen) {t : Nat} {r : List UInt8} (hn : Ws.num s.data.toList = some (t, r)) (h1 : 1 ≤ t / 8) (h2 : t / 8 ≤ 536870911) (h0 : t % 8 = 5) (hl : r.length < 4) :
    Calls Tryd.prog 111 #[.pointer (some ⟨b, 0, none⟩)] w fun e w' => e = .panicked [{ v := .iface 38 (.int .i64 10), recovered := false }] ∧ w.grownBy w' (some b) := by
  have hc := cur_cell h
  have hz := cur_free h
  have hb := blk_lt h
  have ht := Ws.num_lt hn
  have hrs : r.length < s.size := by have := Ws.num_shorter hn; simpa using this
  have e1 := low3 t ht
  obtain ⟨q, hq⟩ : ∃ q, q = t / 8 := ⟨_, rfl⟩
  have e3 : (t : Int) / 8 = (q : Int) := by rw [hq]; rfl
  rw [← hq] at h1 h2
  have e2 := low29 q h2
  rw [h0] at e1
  clear hq
  go_enter Tryd.func111, Tryd.ntmps111
  go_wp2_with fail
  refine (num_ok (cur_cell (cur_alloc h _)) (cur_free (cur_alloc h _)) hs hn).mono ?_
  rintro e w' ⟨rfl, rfl⟩
  go_wp2_with fail
  refine (low_dies (cur_alloc (cur_alloc (cur_put h ⟨r.toArray⟩) _) _) (show (⟨r.toArray⟩ : ByteArray).size ≤ maxLen by show r.length ≤ _; omega) (by decide) (show r.length < 4 from hl)).mono ?_
  rintro e w' ⟨rfl, rfl⟩
  exact ⟨rfl, rfl, Lib.grownBy_allocR (Lib.grownBy_allocR (cur_set h r).2 _) _⟩

set_option maxHeartbeats 2000000 in
set_option maxRecDepth 100000 in
theorem field_d2s {b : Nat} {s : ByteArray} {w : World} (h : Cur w b s) (hs : s.size ≤ maxLen) {t : Nat} {r : List UInt8} (hn : Ws.num s.data.toList = some (t, r)) (h1 : 1 ≤ t / 8) (h2 : t / 8 ≤ 536870911) (h0 : t % 8 = 2) {m : Nat} {r2 : List UInt8} (hn2 : Ws.num r = some (m, r2)) (hl : r2.length < m) :
    Calls Tryd.prog 111 #[.pointer (some ⟨b, 0, none⟩)] w fun e w' => e = .panicked [{ v := .iface 38 (.int .i64 10), recovered := false }] ∧ w.grownBy w' (some b) := by
  have hc := cur_cell h
  have hz := cur_free h
  have hb := blk_lt h
  have ht := Ws.num_lt hn
  have hrs : r.length < s.size := by have := Ws.num_shorter hn; simpa using this
  have e1 := low3 t ht
  obtain ⟨q, hq⟩ : ∃ q, q = t / 8 := ⟨_, rfl⟩
  have e3 : (t : Int) / 8 = (q : Int) := by rw [hq]; rfl
  rw [← hq] at h1 h2
  have e2 := low29 q h2
  rw [h0] at e1
  clear hq
  go_enter Tryd.func111, Tryd.ntmps111
  go_wp2_with fail
  refine (num_ok (cur_cell (cur_alloc h _)) (cur_free (cur_alloc h _)) hs hn).mono ?_
  rintro e w' ⟨rfl, rfl⟩
  go_wp2_with fail
  refine (num_ok (cur_cell (cur_alloc (cur_alloc (cur_put h ⟨r.toArray⟩) _) _)) (cur_free (cur_alloc (cur_alloc (cur_put h ⟨r.toArray⟩) _) _)) (show (⟨r.toArray⟩ : ByteArray).size ≤ maxLen by show r.length ≤ _; omega) hn2).mono ?_
  rintro e w' ⟨rfl, rfl⟩
  go_wp2_with fail
  refine (take_dies (cur_cell (cur_alloc (cur_alloc (cur_put (cur_put h ⟨r.toArray⟩) ⟨r2.toArray⟩) _) _)) (cur_free (cur_alloc (cur_alloc (cur_put (cur_put h ⟨r.toArray⟩) ⟨r2.toArray⟩) _) _)) (show (⟨r2.toArray⟩ : ByteArray).size ≤ maxLen by show r2.length ≤ _; have := Ws.num_shorter hn2; omega) (Ws.num_lt hn2) (show r2.length < m from hl)).mono ?_
  rintro e w' ⟨rfl, rfl⟩
  exact ⟨rfl, rfl, Lib.grownBy_allocR (Lib.grownBy_allocR (goes_put (cur_set h r) r2).2 _) _⟩

set_option maxHeartbeats 2000000 in
set_option maxRecDepth 100000 in
theorem field_ok0 {b : Nat} {s : ByteArray} {w : World} (h : Cur w b s) (hs : s.size ≤ maxLen) {t : Nat} {r : List UInt8} (hn : Ws.num s.data.toList = some (t, r)) (h1 : 1 ≤ t / 8) (h2 : t / 8 ≤ 536870911) (h0 : t % 8 = 0) {m : Nat} {r2 : List UInt8} (hn2 : Ws.num r = some (m, r2)) :
    Calls Tryd.prog 111 #[.pointer (some ⟨b, 0, none⟩)] w fun e w' => e = .returned (fval ⟨(t / 8 : Nat), 0, m, []⟩) ∧ CurGoes b w (r2) w' := by
  have hc := cur_cell h
  have hz := cur_free h
  have hb := blk_lt h
  have ht := Ws.num_lt hn
  have hrs : r.length < s.size := by have := Ws.num_shorter hn; simpa using this
  have e1 := low3 t ht
  obtain ⟨q, hq⟩ : ∃ q, q = t / 8 := ⟨_, rfl⟩
  have e3 : (t : Int) / 8 = (q : Int) := by rw [hq]; rfl
  rw [← hq] at h1 h2
  rw [← hq]
  have e2 := low29 q h2
  rw [h0] at e1
  clear hq
  go_enter Tryd.func111, Tryd.ntmps111
  go_wp2_with fail
  refine (num_ok (cur_cell (cur_alloc h _)) (cur_free (cur_alloc h _)) hs hn).mono ?_
  rintro e w' ⟨rfl, rfl⟩
  go_wp2_with fail
  refine (num_ok (cur_cell (cur_alloc (cur_alloc (cur_put h ⟨r.toArray⟩) _) _)) (cur_free (cur_alloc (cur_alloc (cur_put h ⟨r.toArray⟩) _) _)) (show (⟨r.toArray⟩ : ByteArray).size ≤ maxLen by show r.length ≤ _; omega) hn2).mono ?_
  rintro e w' ⟨rfl, rfl⟩
  go_wp2_with fail
  refine bodyPost_ret (v := fval ⟨(q : Nat), 0, m, []⟩) (by simp [results, Tryd.results111, go_sem, fval]) rfl ⟨rfl, ?_⟩
  exact goes_alloc (goes_alloc (goes_put (cur_set h r) r2) _) _

set_option maxHeartbeats 2000000 in
set_option maxRecDepth 100000 in
theorem field_ok1 {b : Nat} {s : ByteArray} {w : World} (h : Cur w b s) (hs : s.size ≤ maxLen) {t : Nat} {r : List UInt8} (hn : Ws.num s.data.toList = some (t, r)) (h1 : 1 ≤ t / 8) (h2 : t / 8 ≤ 536870911) (h0 : t % 8 = 1) (hl : 8 ≤ r.length) :
    Calls Tryd.prog 111 #[.pointer (some ⟨b, 0, none⟩)] w fun e w' => e = .returned (fval ⟨(t / 8 : Nat), 1, Ws.hi (r.take 8), []⟩) ∧ CurGoes b w (r.drop 8) w' := by
  have hc := cur_cell h
  have hz := cur_free h
  have hb := blk_lt h
  have ht := Ws.num_lt hn
  have hrs : r.length < s.size := by have := Ws.num_shorter hn; simpa using this
  have e1 := low3 t ht
  obtain ⟨q, hq⟩ : ∃ q, q = t / 8 := ⟨_, rfl⟩
  have e3 : (t : Int) / 8 = (q : Int) := by rw [hq]; rfl
  rw [← hq] at h1 h2
  rw [← hq]
  have e2 := low29 q h2
  rw [h0] at e1
  clear hq
  go_enter Tryd.func111, Tryd.ntmps111
  go_wp2_with fail
  refine (num_ok (cur_cell (cur_alloc h _)) (cur_free (cur_alloc h _)) hs hn).mono ?_
  rintro e w' ⟨rfl, rfl⟩
  go_wp2_with fail
  refine (low_ok (cur_alloc (cur_alloc (cur_put h ⟨r.toArray⟩) _) _) (show (⟨r.toArray⟩ : ByteArray).size ≤ maxLen by show r.length ≤ _; omega) (by decide) (show 8 ≤ r.length from hl)).mono ?_
  rintro e W2 ⟨rfl, hg⟩
  have k1 : W2.heap[w.heap.size]? = some (.cells #[.int .i64 0, .int .u8 0, .int .u64 0, .string ⟨#[]⟩] 99 (0, 0)) := blk_grown (blk1 h _ _ _) hg.2 (by simp; omega)
  have k2 : W2.heap[w.heap.size + 1]? = some (.cells #[.int .i64 q, .int .u8 1, .int .u64 0, .string ⟨#[]⟩] 99 (0, 0)) := blk_grown (blk2 h _ _ _) hg.2 (by simp; omega)
  have hs2 : w.heap.size + 2 ≤ W2.heap.size := by have := hg.2.size; simpa using this
  have ca0 := blk_cell k1 0
  have caz0 := blk_frozen k1 0
  have ca1 := blk_cell k1 1
  have caz1 := blk_frozen k1 1
  have ca2 := blk_cell k1 2
  have caz2 := blk_frozen k1 2
  have ca3 := blk_cell k1 3
  have caz3 := blk_frozen k1 3
  have cb0 := blk_cell k2 0
  have cbz0 := blk_frozen k2 0
  have cb1 := blk_cell k2 1
  have cbz1 := blk_frozen k2 1
  have cb2 := blk_cell k2 2
  have cbz2 := blk_frozen k2 2
  have cb3 := blk_cell k2 3
  have cbz3 := blk_frozen k2 3
  simp only [List.getElem?_toArray, List.getElem?_cons_zero, List.getElem?_cons_succ] at ca0 ca1 ca2 ca3 cb0 cb1 cb2 cb3
  clear k1 k2
  have Hg := Lib.hid hg
  clear hg
  go_wp2_with fail
  refine bodyPost_ret (v := fval ⟨(q : Nat), 1, Ws.hi (r.take 8), []⟩) (by simp [results, Tryd.results111, go_sem, fval, ca0, ca1, ca2, ca3, cb2]) rfl ⟨rfl, ?_⟩
  have g1 := goes_then (goes_alloc (goes_alloc (cur_set h r) _) _) Hg.out
  exact goes_far (goes_far (goes_far (goes_far (goes_far g1 hb (by simp) _) hb (by simp) _) hb (by simp) _) hb (by simp) _) hb (by simp) _

set_option maxHeartbeats 2000000 in
set_option maxRecDepth 100000 in
theorem field_ok5 {b : Nat} {s : ByteArray} {w : World} (h : Cur w b s) (hs : s.size ≤ maxLen) {t : Nat} {r : List UInt8} (hn : Ws.num s.data.toList = some (t, r)) (h1 : 1 ≤ t / 8) (h2 : t / 8 ≤ 536870911) (h0 : t % 8 = 5) (hl : 4 ≤ r.length) :
    Calls Tryd.prog 111 #[.pointer (some ⟨b, 0, none⟩)] w fun e w' => e = .returned (fval ⟨(t / 8 : Nat), 5, Ws.hi (r.take 4), []⟩) ∧ CurGoes b w (r.drop 4) w' := by
  have hc := cur_cell h
  have hz := cur_free h
  have hb := blk_lt h
  have ht := Ws.num_lt hn
  have hrs : r.length < s.size := by have := Ws.num_shorter hn; simpa using this
  have e1 := low3 t ht
  obtain ⟨q, hq⟩ : ∃ q, q = t / 8 := ⟨_, rfl⟩
  have e3 : (t : Int) / 8 = (q : Int) := by rw [hq]; rfl
  rw [← hq] at h1 h2
  rw [← hq]
  have e2 := low29 q h2
  rw [h0] at e1
  clear hq
  go_enter Tryd.func111, Tryd.ntmps111
  go_wp2_with fail
  refine (num_ok (cur_cell (cur_alloc h _)) (cur_free (cur_alloc h _)) hs hn).mono ?_
  rintro e w' ⟨rfl, rfl⟩
  go_wp2_with fail
  refine (low_ok (cur_alloc (cur_alloc (cur_put h ⟨r.toArray⟩) _) _) (show (⟨r.toArray⟩ : ByteArray).size ≤ maxLen by show r.length ≤ _; omega) (by decide) (show 4 ≤ r.length from hl)).mono ?_
  rintro e W2 ⟨rfl, hg⟩
  have k1 : W2.heap[w.heap.size]? = some (.cells #[.int .i64 0, .int .u8 0, .int .u64 0, .string ⟨#[]⟩] 99 (0, 0)) := blk_grown (blk1 h _ _ _) hg.2 (by simp; omega)
  have k2 : W2.heap[w.heap.size + 1]? = some (.cells #[.int .i64 q, .int .u8 5, .int .u64 0, .string ⟨#[]⟩] 99 (0, 0)) := blk_grown (blk2 h _ _ _) hg.2 (by simp; omega)
  have hs2 : w.heap.size + 2 ≤ W2.heap.size := by have := hg.2.size; simpa using this
  have ca0 := blk_cell k1 0
  have caz0 := blk_frozen k1 0
  have ca1 := blk_cell k1 1
  have caz1 := blk_frozen k1 1
  have ca2 := blk_cell k1 2
  have caz2 := blk_frozen k1 2
  have ca3 := blk_cell k1 3
  have caz3 := blk_frozen k1 3
  have cb0 := blk_cell k2 0
  have cbz0 := blk_frozen k2 0
  have cb1 := blk_cell k2 1
  have cbz1 := blk_frozen k2 1
  have cb2 := blk_cell k2 2
  have cbz2 := blk_frozen k2 2
  have cb3 := blk_cell k2 3
  have cbz3 := blk_frozen k2 3
  simp only [List.getElem?_toArray, List.getElem?_cons_zero, List.getElem?_cons_succ] at ca0 ca1 ca2 ca3 cb0 cb1 cb2 cb3
  clear k1 k2
  have Hg := Lib.hid hg
  clear hg
  go_wp2_with fail
  refine bodyPost_ret (v := fval ⟨(q : Nat), 5, Ws.hi (r.take 4), []⟩) (by simp [results, Tryd.results111, go_sem, fval, ca0, ca1, ca2, ca3, cb2]) rfl ⟨rfl, ?_⟩
  have g1 := goes_then (goes_alloc (goes_alloc (cur_set h r) _) _) Hg.out
  exact goes_far (goes_far (goes_far (goes_far (goes_far g1 hb (by simp) _) hb (by simp) _) hb (by simp) _) hb (by simp) _) hb (by simp) _

set_option maxHeartbeats 2000000 in
set_option maxRecDepth 100000 in
theorem field_ok2 {b : Nat} {s : ByteArray} {w : World} (h : Cur w b s) (hs : s.size ≤ maxLen) {t : Nat} {r : List UInt8} (hn : Ws.num s.data.toList = some (t, r)) (h1 : 1 ≤ t / 8) (h2 : t / 8 ≤ 536870911) (h0 : t % 8 = 2) {m : Nat} {r2 : List UInt8} (hn2 : Ws.num r = some (m, r2)) (hl : m ≤ r2.length) :
    Calls Tryd.prog 111 #[.pointer (some ⟨b, 0, none⟩)] w fun e w' => e = .returned (fval ⟨(t / 8 : Nat), 2, 0, r2.take m⟩) ∧ CurGoes b w (r2.drop m) w' := by
  have hc := cur_cell h
  have hz := cur_free h
  have hb := blk_lt h
  have ht := Ws.num_lt hn
  have hrs : r.length < s.size := by have := Ws.num_shorter hn; simpa using this
  have e1 := low3 t ht
  obtain ⟨q, hq⟩ : ∃ q, q = t / 8 := ⟨_, rfl⟩
  have e3 : (t : Int) / 8 = (q : Int) := by rw [hq]; rfl
  rw [← hq] at h1 h2
  rw [← hq]
  have e2 := low29 q h2
  rw [h0] at e1
  clear hq
  go_enter Tryd.func111, Tryd.ntmps111
  go_wp2_with fail
  refine (num_ok (cur_cell (cur_alloc h _)) (cur_free (cur_alloc h _)) hs hn).mono ?_
  rintro e w' ⟨rfl, rfl⟩
  go_wp2_with fail
  refine (num_ok (cur_cell (cur_alloc (cur_alloc (cur_put h ⟨r.toArray⟩) _) _)) (cur_free (cur_alloc (cur_alloc (cur_put h ⟨r.toArray⟩) _) _)) (show (⟨r.toArray⟩ : ByteArray).size ≤ maxLen by show r.length ≤ _; omega) hn2).mono ?_
  rintro e w' ⟨rfl, rfl⟩
  go_wp2_with fail
  refine (take_ok (cur_cell (cur_alloc (cur_alloc (cur_put (cur_put h ⟨r.toArray⟩) ⟨r2.toArray⟩) _) _)) (cur_free (cur_alloc (cur_alloc (cur_put (cur_put h ⟨r.toArray⟩) ⟨r2.toArray⟩) _) _)) (show (⟨r2.toArray⟩ : ByteArray).size ≤ maxLen by show r2.length ≤ _; have := Ws.num_shorter hn2; omega) (Ws.num_lt hn2) (show m ≤ r2.length from hl)).mono ?_
  rintro e w' ⟨rfl, rfl⟩
  go_wp2_with fail
  refine bodyPost_ret (v := fval ⟨(q : Nat), 2, 0, r2.take m⟩) (by simp [results, Tryd.results111, go_sem, fval]) rfl ⟨rfl, ?_⟩
  exact goes_alloc (goes_alloc (goes_put (goes_put (cur_set h r) r2) (r2.drop m)) _) _

end Go.Proofs.YtbgfiflnfndckaaDoor
