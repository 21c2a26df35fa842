/- The walk of Read: the fields of a message, or why there are none. No conditions. -/
import Derived.Test.YtbgfiflnfndckaaDoorWd
import Derived.Test.YtbgfiflnfndckaaDoorRg
import Derived.Test.YtbgfiflnfndckaaDoorKf
import Derived.RegionTactic
import Derived.ChangeAlike
set_option linter.unusedVariables false
set_option linter.unusedSimpArgs false
namespace Go.Proofs.YtbgfiflnfndckaaDoor
open Go.RowKit Go.Proofs.YtbgfiflnfndckaaDoorW.PrintWords

/-- Read's first deferred function: an error's number is set: no fields. -/
theorem drop_some (p q : Addr) (c : Int) (v : Value) (u : FrameMode) (w : World) (hc : w.cell? p = some (.int .i64 c)) (hv : w.cell? q = some v) (hz : w.frozen? q = false) (hn : (c != 0) = true) (hpq : p.block ≠ q.block) :
    CallsD Tryd.prog 109 #[.pointer (some p), .pointer (some q)] u w fun e u' w' => u' = u ∧ (e = .returned (.tuple #[]) ∧ w' = w.setCell q (.slice none 0 0) ∧ w'.cell? q = some (.slice none 0 0) ∧ w'.cell? p = some (.int .i64 c)) := by
  go_enter_d Tryd.func109, Tryd.ntmps109
  go_wp2
  go_end0
  exact ⟨rfl, rfl, World.cell?_setCell_same _ _ _ hv, (World.cell?_of_block (Below.heap_setCell w q _ p.block hpq)).trans hc⟩
theorem drop_none (p q : Addr) (u : FrameMode) (w : World) (hc : w.cell? p = some (.int .i64 0)) :
    CallsD Tryd.prog 109 #[.pointer (some p), .pointer (some q)] u w fun e u' w' => u' = u ∧ (e = .returned (.tuple #[]) ∧ w' = w) := by
  go_enter_d Tryd.func109, Tryd.ntmps109
  go_wp2
  go_end0
  exact ⟨rfl, rfl⟩

theorem make_func (P : Program) : ∀ (fn : Fn) (first cap : Array Value) (w : World), (Instr.makeFunc fn first cap).run P w = .ok (.func fn first cap) w := fun _ _ _ _ => rfl

set_option maxHeartbeats 1000000 in
set_option maxRecDepth 100000 in
theorem read_long (s : ByteArray) (w : World) (h : 65536 < s.size) :
    Calls Tryd.prog 102 #[.string s] w fun e w' => e = .returned (.tuple #[.slice none 0 0, .int .i64 4]) ∧ Below w.heap.size w w' := by
  go_enter_defers Tryd.func102, Tryd.ntmps102
  go_wp2
  refine ⟨.tuple #[.slice none 0 0, .int .i64 4], by simp [results, Tryd.results102, go_sem], rfl, ?_⟩
  exact ((Below.refl _ _).alloc (Nat.le_refl _) _).alloc (by simp) _

/-- What stands between the rounds. -/
def Mid (w : World) (all : Except Nat (List Ws.Fd)) (n : Nat) (wr : World) (l : List UInt8) (c : List Ws.Fd) (v : Value) : Prop :=
  Cur wr (w.heap.size + 2) ⟨l.toArray⟩ ∧ wr.heap[w.heap.size]? = some (.cells #[v] 95 (0, 0)) ∧ wr.heap[w.heap.size + 1]? = some (.cells #[.int .i64 0] 38 (0, 0)) ∧
  kF.R 99 wr (w.heap.size + 3) (fun _ => True) v c ∧ Ws.all l c = all ∧ Below w.heap.size w wr ∧ c.length + l.length ≤ n

theorem mid_start (s : ByteArray) (w : World) : Mid w (Ws.all s.data.toList []) s.size (((w.alloc (.cells #[.slice none 0 0] 95)).alloc (.cells #[.int .i64 0] 38)).alloc (.cells #[.string s] 132)) s.data.toList [] (.slice none 0 0) := by
  refine ⟨?_, ?_, ?_, Kd.R_nil _ _ _ _ _, rfl, ((((Below.refl _ _).alloc (Nat.le_refl _) _).alloc (by simp) _).alloc (by simp; omega) _), by simp⟩
  · have h := heap_alloc_new ((w.alloc (.cells #[.slice none 0 0] 95)).alloc (.cells #[.int .i64 0] 38)) (.cells #[.string s] 132)
    simpa [Cur] using h
  · rw [Below.heap_alloc _ _ _ (by simp; omega), Below.heap_alloc _ _ _ (by simp)]
    exact heap_alloc_new _ _
  · rw [Below.heap_alloc _ _ _ (by simp)]
    have h := heap_alloc_new (w.alloc (.cells #[.slice none 0 0] 95)) (.cells #[.int .i64 0] 38)
    simpa using h

theorem cur_drew {b : Nat} {s : ByteArray} {w : World} (h : Cur w b s) : Cur w.drew b s := h

/-- What holds where the statement in the round panics: of the frame just what the deferred functions want. -/
def DiesQ (D : List Deferred) (p2 p3 : Value) (F : List PanicEntry → World → Prop) : Exit → Act → World → Prop
  | .panic ch, a, w => a.defers = D ∧ a.tmps.getD 2 undef = p2 ∧ a.tmps.getD 3 undef = p3 ∧ F ch w
  | _, _, _ => False
theorem dies_frame (D : List Deferred) (p2 p3 : Value) (F : List PanicEntry → World → Prop) (v : Value) (d : Nat) (h2 : d ≠ 2) (h3 : d ≠ 3) (c : List PanicEntry) (a : Act) (w : World)
    (h : DiesQ D p2 p3 F (.panic c) (a.put (some d) v) w) : DiesQ D p2 p3 F (.panic c) a w := by
  obtain ⟨hd, e2, e3, hF⟩ := h
  have g : ∀ j, d ≠ j → (a.tmps.setIfInBounds d v).getD j undef = a.tmps.getD j undef := fun j hj => by
    simp [Array.getD_eq_getD_getElem?, Array.getElem?_setIfInBounds_ne hj]
  exact ⟨hd, (g 2 h2).symm.trans e2, (g 3 h3).symm.trans e3, hF⟩

/-- What Read answers. -/
def ReadPost (w : World) (r : List Ws.Fd × Nat) (e : Ending) (w' : World) : Prop :=
  ∃ v, e = .returned (.tuple #[v, .int .i64 r.2]) ∧ kF.R 99 w' w.heap.size (fun _ => True) v r.1 ∧ Below w.heap.size w w'

set_option maxHeartbeats 2000000 in
set_option maxRecDepth 100000 in
theorem read_short (s : ByteArray) (w : World) (h : s.size ≤ 65536) : Calls Tryd.prog 102 #[.string s] w (ReadPost w (Ws.read s.data.toList)) := by
  have hmf := make_func Tryd.prog
  have hst := Lib.hid (mid_start s w)
  have hrd := Lib.hid (Ws.read_of s.data.toList (by simpa using h))
  generalize Ws.read s.data.toList = res at *
  generalize Ws.all s.data.toList [] = al at *
  go_enter_defers Tryd.func102, Tryd.ntmps102
  go_wp2
  go_loopg [] s.size (fun kq wr => ∃ l c v, l.length = kq ∧ Mid w al s.size wr l c v)
  case atStart => exact ⟨_, _, _, by simp, hst.out⟩
  case round =>
    clear hst
    obtain ⟨l, c, v, hk, HM⟩ := hrel
    obtain ⟨hC, hO, hY, hR, hA, hB, hn⟩ := HM
    obtain ⟨A, cp, rfl⟩ := Kd.R_slice hR
    have co : wr.cell? ⟨w.heap.size, 0, none⟩ = some (.slice A c.length cp) := blk_cell hO 0
    have zo := blk_frozen hO 0
    have cy : wr.cell? ⟨w.heap.size + 1, 0, none⟩ = some (.int .i64 0) := blk_cell hY 0
    have zy := blk_frozen hY 0
    have cc := cur_cell hC
    by_cases hl : l = []
    · subst hl
      rw [Ws.all_nil] at hA
      subst hA
      have HR := Lib.hid hR
      have HB := Lib.hid hB
      clear hC hO hY hR hB
      have hb1 : w.heap.size ≤ w.heap.size + 1 := by omega
      by_cases hc : 4096 < c.length
      · have hc' : (4096 : Int) < (c.length : Int) := by omega
        go_wp2
        go_region
        go_wp2
        refine leaves_cons (f := 110) (args := #[.pointer (some ⟨w.heap.size + 1, 0, none⟩)]) (by simp) (by simp [go_sem]) ?_
        refine (catch_idle _ _).mono ?_
        rintro e u' w'' ⟨rfl, rfl, rfl⟩
        refine leaves_cons (f := 109) (args := #[.pointer (some ⟨w.heap.size + 1, 0, none⟩), .pointer (some ⟨w.heap.size, 0, none⟩)]) (by simp [settle]) (by simp [go_sem]) ?_
        refine (drop_some _ _ 3 (.slice A c.length cp) _ _ ?_ ?_ ?_ rfl (by simp)).mono ?_
        · go_simp
        · go_simp
        · go_simp
        rintro e u' w'' ⟨rfl, rfl, hw, f0, f1⟩
        refine ⟨.tuple #[.slice none 0 0, .int .i64 3], ?_, ?_⟩
        · simp [results, Tryd.results102, go_sem, f0, f1]
        · have hr : res = ([], 3) := by rw [hrd.out]; simp [hc]
          rw [hr]
          refine ⟨_, rfl, Kd.R_nil _ _ _ _ _, ?_⟩
          rw [hw]
          exact (((((HB.out.setCell hb1 _).setCell (Nat.le_refl _) _).setCell hb1 _).drew).setCell (Nat.le_refl _) _)
      · have hc' : ¬ (4096 : Int) < (c.length : Int) := by omega
        go_wp2
        go_region
        go_wp2
        refine leaves_cons (f := 110) (args := #[.pointer (some ⟨w.heap.size + 1, 0, none⟩)]) (by simp) (by simp [go_sem]) ?_
        refine (catch_idle _ _).mono ?_
        rintro e u' w'' ⟨rfl, rfl, rfl⟩
        refine leaves_cons (f := 109) (args := #[.pointer (some ⟨w.heap.size + 1, 0, none⟩), .pointer (some ⟨w.heap.size, 0, none⟩)]) (by simp [settle]) (by simp [go_sem]) ?_
        refine (drop_none _ _ _ _ ?_).mono ?_
        · go_simp
        rintro e u' w'' ⟨rfl, rfl, rfl⟩
        refine ⟨.tuple #[.slice A c.length cp, .int .i64 0], ?_, ?_⟩
        · simp [results, Tryd.results102, go_sem, co, cy, zo, zy]
        · have hr : res = (c, 0) := by rw [hrd.out]; simp [hc]
          rw [hr]
          refine ⟨_, rfl, ?_, ((HB.out.setCell (Nat.le_refl _) _).setCell hb1 _).drew⟩
          have h1 := Kd.R_mono (Kd.R_bound HR.out) (ok' := fun k => w.heap.size + 3 ≤ k) (fun k hk => hk.2.1)
          have h2 := Kd.R_far h1 (p := ⟨w.heap.size, 0, none⟩) (fun k hk => by show k ≠ w.heap.size; omega) (.slice A c.length cp)
          have h3 := Kd.R_far h2 (p := ⟨w.heap.size + 1, 0, none⟩) (fun k hk => by show k ≠ w.heap.size + 1; omega) (.int .i64 0)
          exact Kd.R_lower (Kd.R_mono (Kd.R_drew h3) (fun _ _ => trivial)) (by omega)
    · have hle : l.isEmpty = false := by cases l with | nil => exact absurd rfl hl | cons _ _ => rfl
      have hle2 : (!l.isEmpty) = true := by rw [hle]; rfl
      have hln : 1 ≤ l.length := by cases l with | nil => exact absurd rfl hl | cons _ _ => simp
      cases hf : Ws.field l with
      | error code =>
        rw [Ws.all_dies c hl hf] at hA
        subst hA
        have Hf := Lib.hid hf
        have HB := Lib.hid hB
        have HC := Lib.hid hC
        have HO := Lib.hid hO
        have HY := Lib.hid hY
        have HN := Lib.hid (show (⟨l.toArray⟩ : ByteArray).size ≤ maxLen by show l.length ≤ _; unfold maxLen; omega)
        clear hf hB hC hO hY hR
        go_wp2
        refine Code.wp_mono (Q := DiesQ [{ target := Target.fn (Fn.func 110) #[.pointer (some ⟨w.heap.size + 1, 0, none⟩)], args := #[] }, { target := Target.fn (Fn.func 109) #[.pointer (some ⟨w.heap.size + 1, 0, none⟩), .pointer (some ⟨w.heap.size, 0, none⟩)], args := #[] }] (.pointer (some ⟨w.heap.size, 0, none⟩)) (.pointer (some ⟨w.heap.size + 1, 0, none⟩))
          (fun ch W => ch = [{ v := .iface 38 (.int .i64 code), recovered := false }] ∧ wr.grownBy W (some (w.heap.size + 2)))) ?_ ?_
        · intro e a W hq
          cases e with
          | panic ch =>
            obtain ⟨hd, h2, h3, rfl, hg⟩ := hq
            have hO' := blk_grown HO.out hg (by simp)
            have hY' := blk_grown HY.out hg (by simp)
            have cy' : W.cell? ⟨w.heap.size + 1, 0, none⟩ = some (.int .i64 0) := blk_cell hY' 0
            have co' : W.cell? ⟨w.heap.size, 0, none⟩ = some (.slice A c.length cp) := blk_cell hO' 0
            have zy' := blk_frozen hY' 0
            have zo' := blk_frozen hO' 0
            have hn0 : ((code : Int) != 0) = true := by
              have := Ws.field_code Hf.out
              rw [bne_iff_ne]; omega
            show Leaves _ _ _ _ _ _ _
            rw [hd]
            refine leaves_cons (f := 110) (args := #[.pointer (some ⟨w.heap.size + 1, 0, none⟩)]) (by simp) (by simp [go_sem]) ?_
            refine (catch_dies _ 0 code [] W cy' zy').mono ?_
            rintro e u' w'' ⟨rfl, rfl, rfl⟩
            refine leaves_cons (f := 109) (args := #[.pointer (some ⟨w.heap.size + 1, 0, none⟩), .pointer (some ⟨w.heap.size, 0, none⟩)]) (by simp [settle]) (by simp [go_sem]) ?_
            refine (drop_some _ _ code (.slice A c.length cp) _ _ (World.cell?_setCell_same _ _ _ cy') ?_ ?_ hn0 (by simp)).mono ?_
            · go_simp
            · go_simp
            rintro e u' w'' ⟨rfl, rfl, hw, f0, f1⟩
            simp only [settle, List.dropWhile_nil]
            rw [Array.getD_eq_getD_getElem?] at h2 h3
            refine ⟨.tuple #[.slice none 0 0, .int .i64 code], ?_, ?_⟩
            · simp [results, Tryd.results102, go_sem, h2, h3, f0, f1]
            · rw [hrd.out]
              refine ⟨_, rfl, Kd.R_nil _ _ _ _ _, ?_⟩
              rw [hw]
              exact ((HB.out.grown hg HB.out.size (fun k hk => by cases hk; omega)).setCell (by simp) _).setCell (Nat.le_refl _) _
          | _ => exact hq.elim
        · refine Rg.begin_ [0] (fun W => W.cell? ⟨w.heap.size, 0, none⟩ = some (.slice A c.length cp)) (by kernel_rfl) ?_
          refine Rg.take_ (i := 0) (v := .slice A c.length cp) rfl (by simp) (by kernel_rfl) (dies_frame _ _ _ _ _ 18 (by decide) (by decide)) (.inl ⟨rfl, ?_⟩) ?_ ?_
          · intro W hW
            go_simp
          · go_simp
          refine Rg.step_ (j := 1) rfl (by kernel_rfl) ?_
          go_wp2
          (try (with_reducible refine And.intro (by go_simp) ?_))
          refine Rg.step_ (j := 2) rfl (by kernel_rfl) ?_
          have hC' := cur_drew HC.out
          go_wp2_with (go_at_call 111; refine (field_dies hC' HN.out Hf.out).mono ?_; rintro e w' ⟨rfl, hg⟩)
          exact ⟨rfl, rfl, rfl, rfl, hg.os, hg.tape, hg.output, hg.size, hg.block⟩
      | ok p =>
        obtain ⟨f, r⟩ := p
        rw [Ws.all_more c hl hf] at hA
        have hsh := Ws.field_shorter hf
        have Hf := Lib.hid hf
        have HA := Lib.hid hA
        have HB := Lib.hid hB
        have HC := Lib.hid hC
        have HO := Lib.hid hO
        have HY := Lib.hid hY
        have HR := Lib.hid hR
        have HN := Lib.hid (show (⟨l.toArray⟩ : ByteArray).size ≤ maxLen by show l.length ≤ _; unfold maxLen; omega)
        clear hf hB hC hO hY hR hA
        go_wp2
        refine Rg.begin_calm [0] (fun W => W.cell? ⟨w.heap.size, 0, none⟩ = some (.slice A c.length cp)) (by kernel_rfl) ?_
        refine Rg.take_ (i := 0) (v := .slice A c.length cp) rfl (by simp) (by kernel_rfl) (fun _ _ _ h => h) (.inl ⟨rfl, ?_⟩) ?_ ?_
        · intro W hW
          go_simp
        · go_simp
        refine Rg.step_ (j := 1) rfl (by kernel_rfl) ?_
        go_wp2
        (try (with_reducible refine And.intro (by go_simp) ?_))
        refine Rg.step_ (j := 2) rfl (by kernel_rfl) ?_
        have hC' := cur_drew HC.out
        go_wp2_with (go_at_call 111; refine (field_ok hC' HN.out Hf.out).mono ?_; rintro e w' ⟨rfl, hg⟩)
        have hgg : wr.grownBy w' (some (w.heap.size + 2)) := ⟨hg.2.os, hg.2.tape, hg.2.output, hg.2.size, hg.2.block⟩
        have hO' := blk_grown HO.out hgg (by simp)
        have hY' := blk_grown HY.out hgg (by simp)
        have co' : w'.cell? ⟨w.heap.size, 0, none⟩ = some (.slice A c.length cp) := blk_cell hO' 0
        have zo' := blk_frozen hO' 0
        have hlt' := blk_lt hO'
        have hlt2 := blk_lt hg.1
        have HG := Lib.hid hgg
        have HC1 := Lib.hid hg.1
        have HO1 := Lib.hid hO'
        have HY1 := Lib.hid hY'
        clear hg hgg hC' hO' hY'
        (try (with_reducible refine And.intro (by go_simp) ?_))
        refine Rg.step_ (j := 3) rfl (by kernel_rfl) ?_
        unfold fval
        go_wp2
        (try (with_reducible refine And.intro (by go_simp) ?_))
        refine Rg.rest_at 4 (by kernel_rfl) ?_
        simp only [List.drop_succ_cons, List.drop_zero]
        have HR1 := Lib.hid (Kd.R_grown (Kd.R_mono (Kd.R_bound HR.out) (ok' := fun k => w.heap.size + 3 ≤ k) (fun k hk => hk.2.1)) HG.out (fun k hk he => by injection he with he; omega))
        have hcl : (c.length + 1) * 40 ≤ 140737488355328 := by omega
        go_wp2_with (at_builtin; refine Kd.R_append kF (w0 := w') (w.heap.size + 3) rfl (.tmp 18) (.tmp 21) 95 99 _ 40 rfl Tryd.underlying95 infoF rfl (by decide) (by decide) (.slice A c.length cp) c f [.int .i64 f.k, .int .u8 f.w, .int .u64 f.n, .string ⟨f.s.toArray⟩] (fun k => w.heap.size + 3 ≤ k) (fun _ => False) rfl rfl ?hp (fun _ hk => hk.elim) ?hfr ?hO ?hB ?hbs hcl ?_; (case hp => exact kF_mkM _ _ _ f); (case hfr => (intro k hk; omega)); (case hO => exact HR1.out); (case hB => exact Below.refl _ _); (case hbs => omega); intro v1 w1 ho hb hg hat; obtain ⟨A1, c1, rfl⟩ := Kd.R_slice ho; have co1 : w1.cell? ⟨w.heap.size, 0, none⟩ = some (.slice A c.length cp) := (hb.cell (p := ⟨w.heap.size, 0, none⟩) (by show w.heap.size < _; omega)).trans co'; have zo1 : w1.frozen? ⟨w.heap.size, 0, none⟩ = false := (hb.frozen (p := ⟨w.heap.size, 0, none⟩) (by show w.heap.size < _; omega)).trans zo'; have HO2 := Lib.hid ho; have HB2 := Lib.hid hb; have HG2 := Lib.hid hg; clear ho hb hg hat)
        refine Rg.Calm.normal ?_
        go_wp2
        go_roundg r.length
        case measure => omega
        case rel =>
          have hX := HB2.out
          have b0 := (hX.block w.heap.size (by omega)).trans HO1.out
          have b1 := (hX.block (w.heap.size + 1) (by omega)).trans HY1.out
          have b2 : Cur w1 (w.heap.size + 2) ⟨r.toArray⟩ := (hX.block (w.heap.size + 2) (by omega)).trans HC1.out
          have h1 := HB.out.grown HG.out HB.out.size (fun k hk => by cases hk; omega)
          refine ⟨r, c ++ [f], .slice A1 (c ++ [f]).length c1, rfl, ?_, ?_, ?_, ?_, HA.out, ?_, ?_⟩
          · exact cur_far b2 (by simp) _
          · have := blk_set b0 0 (.slice A1 (c ++ [f]).length c1)
            simpa using this
          · exact blk_far b1 (by simp) _
          · exact Kd.R_mono (Kd.R_far HO2.out (p := ⟨w.heap.size, 0, none⟩) (fun k hk => by show k ≠ w.heap.size; omega) _) (fun _ _ => trivial)
          · have h2 := h1.trans (hX.mono (by omega))
            have h3 := h2.setCell (p := ⟨w.heap.size, 0, none⟩) (Nat.le_refl _) (.slice A1 (c ++ [f]).length c1)
            simpa using h3
          · simp; omega
theorem read_calls (s : ByteArray) (w : World) : Calls Tryd.prog 102 #[.string s] w (ReadPost w (Ws.read s.data.toList)) := by
  by_cases h : s.size ≤ 65536
  · exact read_short s w h
  · refine (read_long s w (by omega)).mono ?_
    rintro e w' ⟨rfl, hb⟩
    have : Ws.read s.data.toList = ([], 4) := by unfold Ws.read; rw [if_pos (by simp; omega)]
    rw [this]
    exact ⟨_, rfl, Kd.R_nil _ _ _ _ _, hb⟩
end Go.Proofs.YtbgfiflnfndckaaDoor
