/- Joined from Lva, Lvc, Lvd, Lve, Lvf, Lvg, Lvh, Lvi. No conditions. -/
import Derived.Test.YtbgfiflnfndckaaDoorLt
import Derived.Test.YtbgfiflnfndckaaDoorLgb
/- The lift: small words for walks; values and pairs as data. No conditions: words and their laws. -/
set_option linter.unusedVariables false
set_option linter.unusedSimpArgs false
namespace Go.Proofs.YtbgfiflnfndckaaDoor.Lift
open Go Go.RowKit

attribute [go_sem] runTo stepT_ap onSome_some onSome_none opR evo lk lk1 lk2 put1 put2 putE ofL mapE evl evs evm ldAt ldV faV fdV nilV ixV ibV lenV put_s put_n putL_s putL_n dOk scal2 iop sop fop shop unV cvV mmV bitsV pickV slV bnd stAt over bdV bsV fillA toDs chunk cst cst1 AV.cells AV.one List.all_cons List.all_nil List.length_cons List.length_nil List.map_cons List.map_nil List.length_map List.nil_append List.cons_append List.append_nil List.getElem?_cons_zero List.getElem?_cons_succ List.set_cons_zero List.set_cons_succ List.set_nil List.take_succ_cons List.take_zero List.take_nil List.drop_succ_cons List.drop_zero List.drop_nil List.head?_cons List.size_toArray List.getD_cons_zero List.getD_cons_succ List.range_succ List.range_zero Option.bind_some Option.map_some Option.bind_none Option.map_none Option.some.injEq Option.isSome_some Bool.and_true Bool.true_and Bool.and_self Bool.not_true Bool.not_false Bool.false_and Bool.and_false Bool.or_true Bool.true_or Bool.or_false Bool.false_or Bool.not_not Bool.not_or_self Bool.or_not_self Bool.cond_true Bool.cond_false Bool.cond_false_right Bool.cond_true_left Bool.false_eq_true Bool.true_eq_false decide_true decide_false decide_eq_true_eq and_true true_and and_self if_true if_false ite_true ite_false true_or or_true not_true not_false_eq_true ne_eq eq_self beq_self_eq_true bne_self_eq_false Nat.add_zero Nat.zero_add Nat.lt_irrefl Nat.le_refl Nat.sub_zero Nat.zero_le Nat.succ_ne_zero Int.toNat_natCast Int.natCast_nonneg ge_iff_le gt_iff_lt

@[go_sem] theorem all_one (l : List D) : (l.map AV.d).all AV.one = true := by induction l <;> simp_all [AV.one]
theorem names_ds (p : Nat → Bool) (l : List D) : namesAll p (l.map AV.d) = true := by induction l <;> simp_all [namesAll, AV.names]
@[go_sem] theorem killPL_ds (p : Nat → Bool) (l : List D) : killPL p (l.map AV.d) = l.map AV.d := by induction l <;> simp_all [killPL, killP]
@[go_sem] theorem killL_ds (b : Nat) (l : List D) : killL b (l.map AV.d) = l.map AV.d := by induction l <;> simp_all [killL, killA]
@[go_sem] theorem fzL_ds (b sz bt : Nat) (r : List (List D)) (l : List D) : fzL b sz bt r (l.map AV.d) = l.map AV.d := by induction l <;> simp_all [fzL, fzA]
@[go_sem] theorem fvL_ds (b : Nat) (r : List D) (l : List D) : fvL b r (l.map AV.d) = l.map AV.d := by induction l <;> simp_all [fvL, fvA]
@[go_sem] theorem renL_ds (σ : Nat → Nat) (l : List D) : renL σ (l.map AV.d) = l.map AV.d := by induction l <;> simp_all [renL, renA]
theorem sg_nil (k i : Nat) : sg [] k i = k + i := by simp [sg]
attribute [go_sem] sg_c0 sg_cS
theorem take_len {α : Type} {l : List α} {n : Nat} (h : l.length = n) : l.take n = l := by subst h; exact List.take_length
theorem drop_len {α : Type} {l : List α} {n : Nat} (h : l.length = n) : l.drop n = [] := by subst h; exact List.drop_length
theorem wrap_succ {i : Nat} (h : i < 9223372036854775807) : IntKind.i64.wrap ((i : Int) + 1) = ((i + 1 : Nat) : Int) := by
  rw [IntKind.wrap_i64]
  omega
theorem wrap_in {x : Int} (h0 : -9223372036854775808 ≤ x) (h1 : x ≤ 9223372036854775807) : IntKind.i64.wrap x = x := by
  rw [IntKind.wrap_i64]
  omega
theorem eSub_nil (env : List (List (Option AV))) : eSub env [] := trivial
theorem eSub_cons {env : List (List (Option AV))} {l : List (Nat × AV)} {t : Nat} {x : AV} (h : lk env t = some x) (h' : eSub env l) : eSub env ((t, x) :: l) := ⟨⟨x, h, Le.refl x⟩, h'⟩
theorem toDs_map (l : List D) : toDs (l.map .d) = some l := by
  induction l with
  | nil => rfl
  | cons x l ih => simp [toDs, ih]
attribute [go_sem] toDs_map

/-- Lists that are the same, element by element. -/
def eqL {α : Type} (p : α → α → Bool) : List α → List α → Bool
  | [], [] => true
  | x :: l, y :: l' => p x y && eqL p l l'
  | _, _ => false
theorem eqL_len {α : Type} (p : α → α → Bool) : ∀ (l l' : List α), l.length ≠ l'.length → eqL p l l' = false
  | [], [], h => absurd rfl h
  | [], _ :: _, _ => rfl
  | _ :: _, [], _ => rfl
  | a :: l, b :: l', h => by rw [eqL, eqL_len p l l' (by simpa using h), Bool.and_false]
theorem eqL_take {α : Type} (p : α → α → Bool) : ∀ (l l' : List α) (k : Nat) (a b : α), l[k]? = some a → l'[k]? = some b → eqL p (l.take k) (l'.take k) = true → eqL p (l.take (k + 1)) (l'.take (k + 1)) = p a b ∧ (p a b = false → eqL p l l' = false)
  | a :: l, b :: l', 0, _, _, rfl, rfl, _ => ⟨by simp [eqL], fun h => by simp [eqL, h]⟩
  | a :: l, b :: l', k + 1, x, y, hx, hy, h => by
    simp only [List.take_succ_cons, eqL, Bool.and_eq_true] at h
    have h2 := eqL_take p l l' k x y (by simpa using hx) (by simpa using hy) h.2
    refine ⟨by simp only [List.take_succ_cons, eqL]; rw [h.1, h2.1, Bool.true_and], fun h3 => by rw [eqL, h2.2 h3, Bool.and_false]⟩
  | [], _, k, _, _, hx, _, _ => by simp at hx
  | _ :: _, [], k, _, _, _, hy, _ => by simp at hy

/-- A value of the program; a pair is a key and a value. -/
inductive V where
  | mk (k : Nat) (s : ByteArray) (b : Bool) (n : Int) (f : Nat) (l : List V) (m : List (ByteArray × V))
mutual
def vD : V → List D
  | .mk k s b n f l m => [.v (.int .u8 k), .v (.string s), .v (.bool b), .v (.int .i64 n), .v (.float .f64 f), .rows 7 96 (vDs l), .rows 8 112 (pDs m)]
def vDs : List V → List (List D)
  | [] => []
  | x :: l => vD x :: vDs l
def pDs : List (ByteArray × V) → List (List D)
  | [] => []
  | (k, x) :: m => (.v (.string k) :: vD x) :: pDs m
end
def pD (p : ByteArray × V) : List D := .v (.string p.1) :: vD p.2
theorem vDs_map : ∀ l : List V, vDs l = l.map vD
  | [] => by simp only [vDs, List.map_nil]
  | x :: l => by simp only [vDs, List.map_cons, vDs_map l]
theorem pDs_map : ∀ l : List (ByteArray × V), pDs l = l.map pD
  | [] => by simp only [pDs, List.map_nil]
  | (k, x) :: l => by simp only [pDs, List.map_cons, pDs_map l, pD]
theorem vD_len : ∀ x : V, (vD x).length = 7
  | .mk .. => by simp only [vD, List.length_cons, List.length_nil]
theorem pD_len (p : ByteArray × V) : (pD p).length = 8 := by simp only [pD, List.length_cons, vD_len]
attribute [go_sem] vD_len List.take_length List.drop_length
@[go_sem] theorem take_map {α β : Type} (f : α → β) (l : List α) : (l.map f).take l.length = l.map f := take_len (List.length_map ..)
@[go_sem] theorem drop_map {α β : Type} (f : α → β) (l : List α) : (l.map f).drop l.length = [] := drop_len (List.length_map ..)
@[go_sem] theorem vD_take (x : V) : (vD x).take 7 = vD x := take_len (vD_len x)
@[go_sem] theorem vD_takeA (x : V) : ((vD x).map AV.d).take 7 = (vD x).map .d := take_len (by rw [List.length_map, vD_len])
@[go_sem] theorem vD_drop (x : V) : (vD x).drop 7 = [] := drop_len (vD_len x)
@[go_sem] theorem vD_dropA (x : V) : ((vD x).map AV.d).drop 7 = [] := drop_len (by rw [List.length_map, vD_len])
def va (x : V) : AV := .agg ((vD x).map .d)
def pa (p : ByteArray × V) : AV := .agg ((pD p).map .d)
def rV (l : List V) : AV := .d (.rows 7 96 (l.map vD))
def rP (m : List (ByteArray × V)) : AV := .d (.rows 8 112 (m.map pD))

attribute [go_sem] va pa rV rP

theorem A_lp {P : Program} {W0 : World} {n : Nat} {σ : Type} {Q : Ax → St → Prop} {st : St} {c : Code} (S : σ → St) (μ : σ → Nat) (s0 : σ) (h0 : Sb W0 n st (S s0))
    (round : ∀ s (R : St → Prop), (∀ st', (∃ s', μ s' < μ s ∧ Sb W0 n st' (S s')) → R st') → ACode P W0 n c (Thn R Q) (S s)) : ACode P W0 n (.loop c) Q st :=
  A_loop S μ s0 h0 fun s => round s _ fun _ h => h
end Go.Proofs.YtbgfiflnfndckaaDoor.Lift

/- The lift: Same, SamePairs of values. No conditions but the sizes that memory has. -/
set_option linter.unusedVariables false
set_option linter.unusedSimpArgs false
namespace Go.Proofs.YtbgfiflnfndckaaDoor.Lift
open Go Go.RowKit

theorem bne_false {a b : Nat} (h : a = b) : ((a : Int) != (b : Int)) = false := by simp [h]
theorem bne_true {a b : Nat} (h : a ≠ b) : ((a : Int) != (b : Int)) = true := by
  simp
  omega
set_option maxHeartbeats 4000000 in
set_option maxRecDepth 100000 in
theorem eqv {W0 : World} (g : FuncId) (hg : callable Tryd.prog g = true) (l l' : List (V)) (p : V → V → Bool) (hl : l.length * 96 ≤ 140737488355328)
    (hp : ∀ x ∈ l, ∀ y ∈ l', APure Tryd.prog W0 g [.agg ((vD x).map .d), .agg ((vD y).map .d)] (· = .ret (.d (.v (.bool (p x y)))))) :
    APure Tryd.prog W0 51 [.d (.rows 7 96 (l.map vD)), .d (.rows 7 96 (l'.map vD)), .fn g []] (· = .ret (.d (.v (.bool (eqL p l l'))))) := by
  refine A_body Tryd.func51 rfl (by simp [Tryd.ntmps51]) ?_
  simp only [Tryd.ntmps51, Tryd.results51, mkEnv, List.length_nil]
  repeat (first
      | refine A_seq ?_
      | refine A_block ?_
      | (refine A_region (A_run ?_); simp only [go_sem, Nat.reduceLT, Nat.reduceLeDiff, Nat.reduceAdd, Nat.reduceSub, Nat.reduceMul, Nat.reduceEqDiff, Nat.reduceBEq, Nat.reduceBNe, Nat.reduceMod, Nat.reduceDiv, Int.reduceEq, Int.reduceNe, Int.reduceLT, Int.reduceLE, Int.reduceToNat, Int.reduceBEq, Int.reduceBNe, Int.reduceNeg, reduceIte, reduceCtorEq, reduceDIte, Value.oneCell']; refine A_nil ?_; simp only [Thn, InB])
      | (refine A_condt ?_ ?_; focus (simp only [evo, lk, lk1, lk2, Nat.reduceDiv, Nat.reduceMod]; done))
      | (refine A_condf ?_ ?_; focus (simp only [evo, lk, lk1, lk2, Nat.reduceDiv, Nat.reduceMod]; done))
      | (refine A_skip ?_; simp only [Thn, InB])
      | (refine A_exit ?_; simp only [Thn, InB, reduceIte, Nat.reduceEqDiff])
      | refine A_ret ?_)
  refine A_cond rfl (fun h => ?_) (fun h => ?_)
  · have hlen : l.length ≠ l'.length := fun e => by rw [bne_false e] at h; cases h
    repeat (first
        | refine A_seq ?_
        | refine A_block ?_
        | (refine A_region (A_run ?_); simp only [go_sem, Nat.reduceLT, Nat.reduceLeDiff, Nat.reduceAdd, Nat.reduceSub, Nat.reduceMul, Nat.reduceEqDiff, Nat.reduceBEq, Nat.reduceBNe, Nat.reduceMod, Nat.reduceDiv, Int.reduceEq, Int.reduceNe, Int.reduceLT, Int.reduceLE, Int.reduceToNat, Int.reduceBEq, Int.reduceBNe, Int.reduceNeg, reduceIte, reduceCtorEq, reduceDIte, Value.oneCell']; refine A_nil ?_; simp only [Thn, InB])
        | (refine A_condt ?_ ?_; focus (simp only [evo, lk, lk1, lk2, Nat.reduceDiv, Nat.reduceMod]; done))
        | (refine A_condf ?_ ?_; focus (simp only [evo, lk, lk1, lk2, Nat.reduceDiv, Nat.reduceMod]; done))
        | (refine A_skip ?_; simp only [Thn, InB])
        | (refine A_exit ?_; simp only [Thn, InB, reduceIte, Nat.reduceEqDiff])
        | refine A_ret ?_)
    exact ⟨_, rfl, [], _, fin_pure rfl (Le.refl _), by rw [eqL_len p l l' hlen], rfl⟩
  · have hlen : l.length = l'.length := Decidable.byContradiction fun e => by rw [bne_true e] at h; cases h
    repeat (first
        | refine A_seq ?_
        | refine A_block ?_
        | (refine A_region (A_run ?_); simp only [go_sem, Nat.reduceLT, Nat.reduceLeDiff, Nat.reduceAdd, Nat.reduceSub, Nat.reduceMul, Nat.reduceEqDiff, Nat.reduceBEq, Nat.reduceBNe, Nat.reduceMod, Nat.reduceDiv, Int.reduceEq, Int.reduceNe, Int.reduceLT, Int.reduceLE, Int.reduceToNat, Int.reduceBEq, Int.reduceBNe, Int.reduceNeg, reduceIte, reduceCtorEq, reduceDIte, Value.oneCell']; refine A_nil ?_; simp only [Thn, InB])
        | (refine A_condt ?_ ?_; focus (simp only [evo, lk, lk1, lk2, Nat.reduceDiv, Nat.reduceMod]; done))
        | (refine A_condf ?_ ?_; focus (simp only [evo, lk, lk1, lk2, Nat.reduceDiv, Nat.reduceMod]; done))
        | (refine A_skip ?_; simp only [Thn, InB])
        | (refine A_exit ?_; simp only [Thn, InB, reduceIte, Nat.reduceEqDiff])
        | refine A_ret ?_)
    refine A_lp (σ := { i : Nat // i ≤ l.length ∧ eqL p (l.take i) (l'.take i) = true }) (fun s => ⟨32, ofL [(15, .d (.rows 7 96 (l.map vD))), (16, .d (.v (.int .i64 l.length))), (17, .d (.v (.int .i64 (s.1 : Nat)))), (1, .d (.rows 7 96 (l'.map vD))), (2, .fn g [])], []⟩) (fun s => l.length - s.1) ⟨0, Nat.zero_le _, rfl⟩ ?_ ?_
    · ((try dsimp only); refine Sb.mk ?_ ?_ ?_ ?_ ?_ ?_; (focus rfl); (focus (repeat (first | exact eSub_nil _ | refine eSub_cons rfl ?_))); (focus exact ⟨_, rfl⟩); (focus (first | exact Nat.zero_le _ | exact Nat.le_refl _)); (focus (first | rfl | simp only [envBelow, List.all_cons, List.all_nil, namesAll, AV.names, names_ds, go_sem])); (focus (first | rfl | simp only [List.all_cons, List.all_nil, boxBelow, namesAll, AV.names, names_ds, go_sem])))
    · rintro ⟨i, hi, hpre⟩ R hR
      simp only
      repeat (first
          | refine A_seq ?_
          | refine A_block ?_
          | (refine A_region (A_run ?_); simp only [go_sem, Nat.reduceLT, Nat.reduceLeDiff, Nat.reduceAdd, Nat.reduceSub, Nat.reduceMul, Nat.reduceEqDiff, Nat.reduceBEq, Nat.reduceBNe, Nat.reduceMod, Nat.reduceDiv, Int.reduceEq, Int.reduceNe, Int.reduceLT, Int.reduceLE, Int.reduceToNat, Int.reduceBEq, Int.reduceBNe, Int.reduceNeg, reduceIte, reduceCtorEq, reduceDIte, Value.oneCell']; refine A_nil ?_; simp only [Thn, InB])
          | (refine A_condt ?_ ?_; focus (simp only [evo, lk, lk1, lk2, Nat.reduceDiv, Nat.reduceMod]; done))
          | (refine A_condf ?_ ?_; focus (simp only [evo, lk, lk1, lk2, Nat.reduceDiv, Nat.reduceMod]; done))
          | (refine A_skip ?_; simp only [Thn, InB])
          | (refine A_exit ?_; simp only [Thn, InB, reduceIte, Nat.reduceEqDiff])
          | refine A_ret ?_)
      refine A_cond rfl (fun h => ?_) (fun h => ?_)
      · have hlt : i < l.length := by simpa using h
        have hlt' : i < l'.length := by omega
        have hx : (l.map vD)[i]? = some (vD l[i]) := by rw [List.getElem?_map, List.getElem?_eq_getElem hlt]; rfl
        have hy : (l'.map vD)[i]? = some (vD l'[i]) := by rw [List.getElem?_map, List.getElem?_eq_getElem hlt']; rfl
        have tx := take_len (l := (vD l[i]).map AV.d) (n := 7) (by rw [List.length_map, vD_len])
        have ty := take_len (l := (vD l'[i]).map AV.d) (n := 7) (by rw [List.length_map, vD_len])
        have lx := vD_len l[i]
        have ly := vD_len l'[i]
        repeat (first
            | refine A_seq ?_
            | refine A_block ?_
            | (refine A_region (A_run ?_); simp only [go_sem, Nat.reduceLT, Nat.reduceLeDiff, Nat.reduceAdd, Nat.reduceSub, Nat.reduceMul, Nat.reduceEqDiff, Nat.reduceBEq, Nat.reduceBNe, Nat.reduceMod, Nat.reduceDiv, Int.reduceEq, Int.reduceNe, Int.reduceLT, Int.reduceLE, Int.reduceToNat, Int.reduceBEq, Int.reduceBNe, Int.reduceNeg, reduceIte, reduceCtorEq, reduceDIte, Value.oneCell', hx, hy, tx, ty, lx, ly]; refine A_nil ?_; simp only [Thn, InB])
            | (refine A_condt ?_ ?_; focus (simp only [evo, lk, lk1, lk2, Nat.reduceDiv, Nat.reduceMod]; done))
            | (refine A_condf ?_ ?_; focus (simp only [evo, lk, lk1, lk2, Nat.reduceDiv, Nat.reduceMod]; done))
            | (refine A_skip ?_; simp only [Thn, InB])
            | (refine A_exit ?_; simp only [Thn, InB, reduceIte, Nat.reduceEqDiff])
            | refine A_ret ?_)
        refine A_region (A_run ?_)
        simp only [go_sem, Nat.reduceLT, Nat.reduceLeDiff, Nat.reduceAdd, Nat.reduceSub, Nat.reduceMul, Nat.reduceEqDiff, Nat.reduceBEq, Nat.reduceBNe, Nat.reduceMod, Nat.reduceDiv, Int.reduceEq, Int.reduceNe, Int.reduceLT, Int.reduceLE, Int.reduceToNat, Int.reduceBEq, Int.reduceBNe, Int.reduceNeg, reduceIte, reduceCtorEq, reduceDIte, Value.oneCell', hx, hy, tx, ty, lx, ly]
        (refine A_call (hp l[i] (List.getElem_mem hlt) l'[i] (List.getElem_mem hlt')) rfl rfl rfl rfl (by first | assumption | simp only [go_sem]) rfl (by first | rfl | simp only [noNames, namesAll, AV.names, names_ds, go_sem, List.append_nil, List.cons_append, List.nil_append, Bool.and_self]) ?_; rintro r rfl; refine ⟨(by first | rfl | simp only [noName, namesAll, AV.names, names_ds, go_sem, Bool.and_self]), A_run ?_⟩; simp only [go_sem, Nat.reduceLT, Nat.reduceLeDiff, Nat.reduceAdd, Nat.reduceSub, Nat.reduceMul, Nat.reduceEqDiff, Nat.reduceBEq, Nat.reduceBNe, Nat.reduceMod, Nat.reduceDiv, Int.reduceEq, Int.reduceNe, Int.reduceLT, Int.reduceLE, Int.reduceToNat, Int.reduceBEq, Int.reduceBNe, Int.reduceNeg, reduceIte, reduceCtorEq, reduceDIte, Value.oneCell'])
        refine A_nil ?_
        simp only [Thn, InB]
        obtain ⟨h1, h2⟩ := eqL_take p l l' i l[i] l'[i] (List.getElem?_eq_getElem hlt) (List.getElem?_eq_getElem hlt') hpre
        repeat (first
            | refine A_seq ?_
            | refine A_block ?_
            | (refine A_region (A_run ?_); simp only [go_sem, Nat.reduceLT, Nat.reduceLeDiff, Nat.reduceAdd, Nat.reduceSub, Nat.reduceMul, Nat.reduceEqDiff, Nat.reduceBEq, Nat.reduceBNe, Nat.reduceMod, Nat.reduceDiv, Int.reduceEq, Int.reduceNe, Int.reduceLT, Int.reduceLE, Int.reduceToNat, Int.reduceBEq, Int.reduceBNe, Int.reduceNeg, reduceIte, reduceCtorEq, reduceDIte, Value.oneCell']; refine A_nil ?_; simp only [Thn, InB])
            | (refine A_condt ?_ ?_; focus (simp only [evo, lk, lk1, lk2, Nat.reduceDiv, Nat.reduceMod]; done))
            | (refine A_condf ?_ ?_; focus (simp only [evo, lk, lk1, lk2, Nat.reduceDiv, Nat.reduceMod]; done))
            | (refine A_skip ?_; simp only [Thn, InB])
            | (refine A_exit ?_; simp only [Thn, InB, reduceIte, Nat.reduceEqDiff])
            | refine A_ret ?_)
        refine A_cond rfl (fun h => ?_) (fun h => ?_)
        · have hb : p l[i] l'[i] = false := by simpa using h
          repeat (first
              | refine A_seq ?_
              | refine A_block ?_
              | (refine A_region (A_run ?_); simp only [go_sem, Nat.reduceLT, Nat.reduceLeDiff, Nat.reduceAdd, Nat.reduceSub, Nat.reduceMul, Nat.reduceEqDiff, Nat.reduceBEq, Nat.reduceBNe, Nat.reduceMod, Nat.reduceDiv, Int.reduceEq, Int.reduceNe, Int.reduceLT, Int.reduceLE, Int.reduceToNat, Int.reduceBEq, Int.reduceBNe, Int.reduceNeg, reduceIte, reduceCtorEq, reduceDIte, Value.oneCell']; refine A_nil ?_; simp only [Thn, InB])
              | (refine A_condt ?_ ?_; focus (simp only [evo, lk, lk1, lk2, Nat.reduceDiv, Nat.reduceMod]; done))
              | (refine A_condf ?_ ?_; focus (simp only [evo, lk, lk1, lk2, Nat.reduceDiv, Nat.reduceMod]; done))
              | (refine A_skip ?_; simp only [Thn, InB])
              | (refine A_exit ?_; simp only [Thn, InB, reduceIte, Nat.reduceEqDiff])
              | refine A_ret ?_)
          exact ⟨_, rfl, [], _, fin_pure rfl (Le.refl _), by rw [h2 hb], rfl⟩
        · have hb : p l[i] l'[i] = true := by simpa using h
          have hw := wrap_succ (i := i) (by omega)
          repeat (first
              | refine A_seq ?_
              | refine A_block ?_
              | (refine A_region (A_run ?_); simp only [go_sem, Nat.reduceLT, Nat.reduceLeDiff, Nat.reduceAdd, Nat.reduceSub, Nat.reduceMul, Nat.reduceEqDiff, Nat.reduceBEq, Nat.reduceBNe, Nat.reduceMod, Nat.reduceDiv, Int.reduceEq, Int.reduceNe, Int.reduceLT, Int.reduceLE, Int.reduceToNat, Int.reduceBEq, Int.reduceBNe, Int.reduceNeg, reduceIte, reduceCtorEq, reduceDIte, Value.oneCell', hw]; refine A_nil ?_; simp only [Thn, InB])
              | (refine A_condt ?_ ?_; focus (simp only [evo, lk, lk1, lk2, Nat.reduceDiv, Nat.reduceMod]; done))
              | (refine A_condf ?_ ?_; focus (simp only [evo, lk, lk1, lk2, Nat.reduceDiv, Nat.reduceMod]; done))
              | (refine A_skip ?_; simp only [Thn, InB])
              | (refine A_exit ?_; simp only [Thn, InB, reduceIte, Nat.reduceEqDiff])
              | refine A_ret ?_)
          refine hR _ ⟨⟨i + 1, by omega, by rw [h1, hb]⟩, by simp only; omega, ?_⟩
          ((try dsimp only); refine Sb.mk ?_ ?_ ?_ ?_ ?_ ?_; (focus rfl); (focus (repeat (first | exact eSub_nil _ | refine eSub_cons rfl ?_))); (focus exact ⟨_, rfl⟩); (focus (first | exact Nat.zero_le _ | exact Nat.le_refl _)); (focus (first | rfl | simp only [envBelow, List.all_cons, List.all_nil, namesAll, AV.names, names_ds, go_sem])); (focus (first | rfl | simp only [List.all_cons, List.all_nil, boxBelow, namesAll, AV.names, names_ds, go_sem])))
      · have hge : i = l.length := by simp at h; omega
        subst hge
        have he : eqL p l l' = true := by
          have := hpre
          rwa [List.take_of_length_le (Nat.le_refl _), List.take_of_length_le (by omega)] at this
        repeat (first
            | refine A_seq ?_
            | refine A_block ?_
            | (refine A_region (A_run ?_); simp only [go_sem, Nat.reduceLT, Nat.reduceLeDiff, Nat.reduceAdd, Nat.reduceSub, Nat.reduceMul, Nat.reduceEqDiff, Nat.reduceBEq, Nat.reduceBNe, Nat.reduceMod, Nat.reduceDiv, Int.reduceEq, Int.reduceNe, Int.reduceLT, Int.reduceLE, Int.reduceToNat, Int.reduceBEq, Int.reduceBNe, Int.reduceNeg, reduceIte, reduceCtorEq, reduceDIte, Value.oneCell']; refine A_nil ?_; simp only [Thn, InB])
            | (refine A_condt ?_ ?_; focus (simp only [evo, lk, lk1, lk2, Nat.reduceDiv, Nat.reduceMod]; done))
            | (refine A_condf ?_ ?_; focus (simp only [evo, lk, lk1, lk2, Nat.reduceDiv, Nat.reduceMod]; done))
            | (refine A_skip ?_; simp only [Thn, InB])
            | (refine A_exit ?_; simp only [Thn, InB, reduceIte, Nat.reduceEqDiff])
            | refine A_ret ?_)
        exact ⟨_, rfl, [], _, fin_pure rfl (Le.refl _), by rw [he], rfl⟩

set_option maxHeartbeats 4000000 in
set_option maxRecDepth 100000 in
theorem eqp {W0 : World} (g : FuncId) (hg : callable Tryd.prog g = true) (l l' : List (ByteArray × V)) (p : ByteArray × V → ByteArray × V → Bool) (hl : l.length * 112 ≤ 140737488355328)
    (hp : ∀ x ∈ l, ∀ y ∈ l', APure Tryd.prog W0 g [.agg ((pD x).map .d), .agg ((pD y).map .d)] (· = .ret (.d (.v (.bool (p x y)))))) :
    APure Tryd.prog W0 60 [.d (.rows 8 112 (l.map pD)), .d (.rows 8 112 (l'.map pD)), .fn g []] (· = .ret (.d (.v (.bool (eqL p l l'))))) := by
  refine A_body Tryd.func60 rfl (by simp [Tryd.ntmps60]) ?_
  simp only [Tryd.ntmps60, Tryd.results60, mkEnv, List.length_nil]
  repeat (first
      | refine A_seq ?_
      | refine A_block ?_
      | (refine A_region (A_run ?_); simp only [go_sem, Nat.reduceLT, Nat.reduceLeDiff, Nat.reduceAdd, Nat.reduceSub, Nat.reduceMul, Nat.reduceEqDiff, Nat.reduceBEq, Nat.reduceBNe, Nat.reduceMod, Nat.reduceDiv, Int.reduceEq, Int.reduceNe, Int.reduceLT, Int.reduceLE, Int.reduceToNat, Int.reduceBEq, Int.reduceBNe, Int.reduceNeg, reduceIte, reduceCtorEq, reduceDIte, Value.oneCell']; refine A_nil ?_; simp only [Thn, InB])
      | (refine A_condt ?_ ?_; focus (simp only [evo, lk, lk1, lk2, Nat.reduceDiv, Nat.reduceMod]; done))
      | (refine A_condf ?_ ?_; focus (simp only [evo, lk, lk1, lk2, Nat.reduceDiv, Nat.reduceMod]; done))
      | (refine A_skip ?_; simp only [Thn, InB])
      | (refine A_exit ?_; simp only [Thn, InB, reduceIte, Nat.reduceEqDiff])
      | refine A_ret ?_)
  refine A_cond rfl (fun h => ?_) (fun h => ?_)
  · have hlen : l.length ≠ l'.length := fun e => by rw [bne_false e] at h; cases h
    repeat (first
        | refine A_seq ?_
        | refine A_block ?_
        | (refine A_region (A_run ?_); simp only [go_sem, Nat.reduceLT, Nat.reduceLeDiff, Nat.reduceAdd, Nat.reduceSub, Nat.reduceMul, Nat.reduceEqDiff, Nat.reduceBEq, Nat.reduceBNe, Nat.reduceMod, Nat.reduceDiv, Int.reduceEq, Int.reduceNe, Int.reduceLT, Int.reduceLE, Int.reduceToNat, Int.reduceBEq, Int.reduceBNe, Int.reduceNeg, reduceIte, reduceCtorEq, reduceDIte, Value.oneCell']; refine A_nil ?_; simp only [Thn, InB])
        | (refine A_condt ?_ ?_; focus (simp only [evo, lk, lk1, lk2, Nat.reduceDiv, Nat.reduceMod]; done))
        | (refine A_condf ?_ ?_; focus (simp only [evo, lk, lk1, lk2, Nat.reduceDiv, Nat.reduceMod]; done))
        | (refine A_skip ?_; simp only [Thn, InB])
        | (refine A_exit ?_; simp only [Thn, InB, reduceIte, Nat.reduceEqDiff])
        | refine A_ret ?_)
    exact ⟨_, rfl, [], _, fin_pure rfl (Le.refl _), by rw [eqL_len p l l' hlen], rfl⟩
  · have hlen : l.length = l'.length := Decidable.byContradiction fun e => by rw [bne_true e] at h; cases h
    repeat (first
        | refine A_seq ?_
        | refine A_block ?_
        | (refine A_region (A_run ?_); simp only [go_sem, Nat.reduceLT, Nat.reduceLeDiff, Nat.reduceAdd, Nat.reduceSub, Nat.reduceMul, Nat.reduceEqDiff, Nat.reduceBEq, Nat.reduceBNe, Nat.reduceMod, Nat.reduceDiv, Int.reduceEq, Int.reduceNe, Int.reduceLT, Int.reduceLE, Int.reduceToNat, Int.reduceBEq, Int.reduceBNe, Int.reduceNeg, reduceIte, reduceCtorEq, reduceDIte, Value.oneCell']; refine A_nil ?_; simp only [Thn, InB])
        | (refine A_condt ?_ ?_; focus (simp only [evo, lk, lk1, lk2, Nat.reduceDiv, Nat.reduceMod]; done))
        | (refine A_condf ?_ ?_; focus (simp only [evo, lk, lk1, lk2, Nat.reduceDiv, Nat.reduceMod]; done))
        | (refine A_skip ?_; simp only [Thn, InB])
        | (refine A_exit ?_; simp only [Thn, InB, reduceIte, Nat.reduceEqDiff])
        | refine A_ret ?_)
    refine A_lp (σ := { i : Nat // i ≤ l.length ∧ eqL p (l.take i) (l'.take i) = true }) (fun s => ⟨32, ofL [(15, .d (.rows 8 112 (l.map pD))), (16, .d (.v (.int .i64 l.length))), (17, .d (.v (.int .i64 (s.1 : Nat)))), (1, .d (.rows 8 112 (l'.map pD))), (2, .fn g [])], []⟩) (fun s => l.length - s.1) ⟨0, Nat.zero_le _, rfl⟩ ?_ ?_
    · ((try dsimp only); refine Sb.mk ?_ ?_ ?_ ?_ ?_ ?_; (focus rfl); (focus (repeat (first | exact eSub_nil _ | refine eSub_cons rfl ?_))); (focus exact ⟨_, rfl⟩); (focus (first | exact Nat.zero_le _ | exact Nat.le_refl _)); (focus (first | rfl | simp only [envBelow, List.all_cons, List.all_nil, namesAll, AV.names, names_ds, go_sem])); (focus (first | rfl | simp only [List.all_cons, List.all_nil, boxBelow, namesAll, AV.names, names_ds, go_sem])))
    · rintro ⟨i, hi, hpre⟩ R hR
      simp only
      repeat (first
          | refine A_seq ?_
          | refine A_block ?_
          | (refine A_region (A_run ?_); simp only [go_sem, Nat.reduceLT, Nat.reduceLeDiff, Nat.reduceAdd, Nat.reduceSub, Nat.reduceMul, Nat.reduceEqDiff, Nat.reduceBEq, Nat.reduceBNe, Nat.reduceMod, Nat.reduceDiv, Int.reduceEq, Int.reduceNe, Int.reduceLT, Int.reduceLE, Int.reduceToNat, Int.reduceBEq, Int.reduceBNe, Int.reduceNeg, reduceIte, reduceCtorEq, reduceDIte, Value.oneCell']; refine A_nil ?_; simp only [Thn, InB])
          | (refine A_condt ?_ ?_; focus (simp only [evo, lk, lk1, lk2, Nat.reduceDiv, Nat.reduceMod]; done))
          | (refine A_condf ?_ ?_; focus (simp only [evo, lk, lk1, lk2, Nat.reduceDiv, Nat.reduceMod]; done))
          | (refine A_skip ?_; simp only [Thn, InB])
          | (refine A_exit ?_; simp only [Thn, InB, reduceIte, Nat.reduceEqDiff])
          | refine A_ret ?_)
      refine A_cond rfl (fun h => ?_) (fun h => ?_)
      · have hlt : i < l.length := by simpa using h
        have hlt' : i < l'.length := by omega
        have hx : (l.map pD)[i]? = some (pD l[i]) := by rw [List.getElem?_map, List.getElem?_eq_getElem hlt]; rfl
        have hy : (l'.map pD)[i]? = some (pD l'[i]) := by rw [List.getElem?_map, List.getElem?_eq_getElem hlt']; rfl
        have tx := take_len (l := (pD l[i]).map AV.d) (n := 8) (by rw [List.length_map, pD_len])
        have ty := take_len (l := (pD l'[i]).map AV.d) (n := 8) (by rw [List.length_map, pD_len])
        have lx := pD_len l[i]
        have ly := pD_len l'[i]
        repeat (first
            | refine A_seq ?_
            | refine A_block ?_
            | (refine A_region (A_run ?_); simp only [go_sem, Nat.reduceLT, Nat.reduceLeDiff, Nat.reduceAdd, Nat.reduceSub, Nat.reduceMul, Nat.reduceEqDiff, Nat.reduceBEq, Nat.reduceBNe, Nat.reduceMod, Nat.reduceDiv, Int.reduceEq, Int.reduceNe, Int.reduceLT, Int.reduceLE, Int.reduceToNat, Int.reduceBEq, Int.reduceBNe, Int.reduceNeg, reduceIte, reduceCtorEq, reduceDIte, Value.oneCell', hx, hy, tx, ty, lx, ly]; refine A_nil ?_; simp only [Thn, InB])
            | (refine A_condt ?_ ?_; focus (simp only [evo, lk, lk1, lk2, Nat.reduceDiv, Nat.reduceMod]; done))
            | (refine A_condf ?_ ?_; focus (simp only [evo, lk, lk1, lk2, Nat.reduceDiv, Nat.reduceMod]; done))
            | (refine A_skip ?_; simp only [Thn, InB])
            | (refine A_exit ?_; simp only [Thn, InB, reduceIte, Nat.reduceEqDiff])
            | refine A_ret ?_)
        refine A_region (A_run ?_)
        simp only [go_sem, Nat.reduceLT, Nat.reduceLeDiff, Nat.reduceAdd, Nat.reduceSub, Nat.reduceMul, Nat.reduceEqDiff, Nat.reduceBEq, Nat.reduceBNe, Nat.reduceMod, Nat.reduceDiv, Int.reduceEq, Int.reduceNe, Int.reduceLT, Int.reduceLE, Int.reduceToNat, Int.reduceBEq, Int.reduceBNe, Int.reduceNeg, reduceIte, reduceCtorEq, reduceDIte, Value.oneCell', hx, hy, tx, ty, lx, ly]
        (refine A_call (hp l[i] (List.getElem_mem hlt) l'[i] (List.getElem_mem hlt')) rfl rfl rfl rfl (by first | assumption | simp only [go_sem]) rfl (by first | rfl | simp only [noNames, namesAll, AV.names, names_ds, go_sem, List.append_nil, List.cons_append, List.nil_append, Bool.and_self]) ?_; rintro r rfl; refine ⟨(by first | rfl | simp only [noName, namesAll, AV.names, names_ds, go_sem, Bool.and_self]), A_run ?_⟩; simp only [go_sem, Nat.reduceLT, Nat.reduceLeDiff, Nat.reduceAdd, Nat.reduceSub, Nat.reduceMul, Nat.reduceEqDiff, Nat.reduceBEq, Nat.reduceBNe, Nat.reduceMod, Nat.reduceDiv, Int.reduceEq, Int.reduceNe, Int.reduceLT, Int.reduceLE, Int.reduceToNat, Int.reduceBEq, Int.reduceBNe, Int.reduceNeg, reduceIte, reduceCtorEq, reduceDIte, Value.oneCell'])
        refine A_nil ?_
        simp only [Thn, InB]
        obtain ⟨h1, h2⟩ := eqL_take p l l' i l[i] l'[i] (List.getElem?_eq_getElem hlt) (List.getElem?_eq_getElem hlt') hpre
        repeat (first
            | refine A_seq ?_
            | refine A_block ?_
            | (refine A_region (A_run ?_); simp only [go_sem, Nat.reduceLT, Nat.reduceLeDiff, Nat.reduceAdd, Nat.reduceSub, Nat.reduceMul, Nat.reduceEqDiff, Nat.reduceBEq, Nat.reduceBNe, Nat.reduceMod, Nat.reduceDiv, Int.reduceEq, Int.reduceNe, Int.reduceLT, Int.reduceLE, Int.reduceToNat, Int.reduceBEq, Int.reduceBNe, Int.reduceNeg, reduceIte, reduceCtorEq, reduceDIte, Value.oneCell']; refine A_nil ?_; simp only [Thn, InB])
            | (refine A_condt ?_ ?_; focus (simp only [evo, lk, lk1, lk2, Nat.reduceDiv, Nat.reduceMod]; done))
            | (refine A_condf ?_ ?_; focus (simp only [evo, lk, lk1, lk2, Nat.reduceDiv, Nat.reduceMod]; done))
            | (refine A_skip ?_; simp only [Thn, InB])
            | (refine A_exit ?_; simp only [Thn, InB, reduceIte, Nat.reduceEqDiff])
            | refine A_ret ?_)
        refine A_cond rfl (fun h => ?_) (fun h => ?_)
        · have hb : p l[i] l'[i] = false := by simpa using h
          repeat (first
              | refine A_seq ?_
              | refine A_block ?_
              | (refine A_region (A_run ?_); simp only [go_sem, Nat.reduceLT, Nat.reduceLeDiff, Nat.reduceAdd, Nat.reduceSub, Nat.reduceMul, Nat.reduceEqDiff, Nat.reduceBEq, Nat.reduceBNe, Nat.reduceMod, Nat.reduceDiv, Int.reduceEq, Int.reduceNe, Int.reduceLT, Int.reduceLE, Int.reduceToNat, Int.reduceBEq, Int.reduceBNe, Int.reduceNeg, reduceIte, reduceCtorEq, reduceDIte, Value.oneCell']; refine A_nil ?_; simp only [Thn, InB])
              | (refine A_condt ?_ ?_; focus (simp only [evo, lk, lk1, lk2, Nat.reduceDiv, Nat.reduceMod]; done))
              | (refine A_condf ?_ ?_; focus (simp only [evo, lk, lk1, lk2, Nat.reduceDiv, Nat.reduceMod]; done))
              | (refine A_skip ?_; simp only [Thn, InB])
              | (refine A_exit ?_; simp only [Thn, InB, reduceIte, Nat.reduceEqDiff])
              | refine A_ret ?_)
          exact ⟨_, rfl, [], _, fin_pure rfl (Le.refl _), by rw [h2 hb], rfl⟩
        · have hb : p l[i] l'[i] = true := by simpa using h
          have hw := wrap_succ (i := i) (by omega)
          repeat (first
              | refine A_seq ?_
              | refine A_block ?_
              | (refine A_region (A_run ?_); simp only [go_sem, Nat.reduceLT, Nat.reduceLeDiff, Nat.reduceAdd, Nat.reduceSub, Nat.reduceMul, Nat.reduceEqDiff, Nat.reduceBEq, Nat.reduceBNe, Nat.reduceMod, Nat.reduceDiv, Int.reduceEq, Int.reduceNe, Int.reduceLT, Int.reduceLE, Int.reduceToNat, Int.reduceBEq, Int.reduceBNe, Int.reduceNeg, reduceIte, reduceCtorEq, reduceDIte, Value.oneCell', hw]; refine A_nil ?_; simp only [Thn, InB])
              | (refine A_condt ?_ ?_; focus (simp only [evo, lk, lk1, lk2, Nat.reduceDiv, Nat.reduceMod]; done))
              | (refine A_condf ?_ ?_; focus (simp only [evo, lk, lk1, lk2, Nat.reduceDiv, Nat.reduceMod]; done))
              | (refine A_skip ?_; simp only [Thn, InB])
              | (refine A_exit ?_; simp only [Thn, InB, reduceIte, Nat.reduceEqDiff])
              | refine A_ret ?_)
          refine hR _ ⟨⟨i + 1, by omega, by rw [h1, hb]⟩, by simp only; omega, ?_⟩
          ((try dsimp only); refine Sb.mk ?_ ?_ ?_ ?_ ?_ ?_; (focus rfl); (focus (repeat (first | exact eSub_nil _ | refine eSub_cons rfl ?_))); (focus exact ⟨_, rfl⟩); (focus (first | exact Nat.zero_le _ | exact Nat.le_refl _)); (focus (first | rfl | simp only [envBelow, List.all_cons, List.all_nil, namesAll, AV.names, names_ds, go_sem])); (focus (first | rfl | simp only [List.all_cons, List.all_nil, boxBelow, namesAll, AV.names, names_ds, go_sem])))
      · have hge : i = l.length := by simp at h; omega
        subst hge
        have he : eqL p l l' = true := by
          have := hpre
          rwa [List.take_of_length_le (Nat.le_refl _), List.take_of_length_le (by omega)] at this
        repeat (first
            | refine A_seq ?_
            | refine A_block ?_
            | (refine A_region (A_run ?_); simp only [go_sem, Nat.reduceLT, Nat.reduceLeDiff, Nat.reduceAdd, Nat.reduceSub, Nat.reduceMul, Nat.reduceEqDiff, Nat.reduceBEq, Nat.reduceBNe, Nat.reduceMod, Nat.reduceDiv, Int.reduceEq, Int.reduceNe, Int.reduceLT, Int.reduceLE, Int.reduceToNat, Int.reduceBEq, Int.reduceBNe, Int.reduceNeg, reduceIte, reduceCtorEq, reduceDIte, Value.oneCell']; refine A_nil ?_; simp only [Thn, InB])
            | (refine A_condt ?_ ?_; focus (simp only [evo, lk, lk1, lk2, Nat.reduceDiv, Nat.reduceMod]; done))
            | (refine A_condf ?_ ?_; focus (simp only [evo, lk, lk1, lk2, Nat.reduceDiv, Nat.reduceMod]; done))
            | (refine A_skip ?_; simp only [Thn, InB])
            | (refine A_exit ?_; simp only [Thn, InB, reduceIte, Nat.reduceEqDiff])
            | refine A_ret ?_)
        exact ⟨_, rfl, [], _, fin_pure rfl (Le.refl _), by rw [he], rfl⟩

/-- Two values but for what their lists have. -/
def flat : V → V → Bool
  | .mk k s b n f l m, .mk k' s' b' n' f' l' m' => (((((((k : Int) == (k' : Int)) && (s.toList == s'.toList)) && (b == b')) && (n == n')) && ((f : Int) == (f' : Int))) && ((l.length : Int) == (l'.length : Int))) && ((m.length : Int) == (m'.length : Int))
set_option maxHeartbeats 4000000 in
set_option maxRecDepth 100000 in
theorem flat_c {W0 : World} (x y : V) : APure Tryd.prog W0 50 [va x, va y] (· = .ret (.d (.v (.bool (flat x y))))) := by
  obtain ⟨k, s, b, n, f, l, m⟩ := x
  obtain ⟨k', s', b', n', f', l', m'⟩ := y
  refine A_body Tryd.func50 rfl (by simp [Tryd.ntmps50]) ?_
  simp only [Tryd.ntmps50, Tryd.results50, mkEnv, List.length_nil, va, vD, vDs_map, pDs_map, List.map_cons, List.map_nil]
  repeat (first
      | refine A_seq ?_
      | refine A_block ?_
      | (refine A_region (A_run ?_); simp only [go_sem, Nat.reduceLT, Nat.reduceLeDiff, Nat.reduceAdd, Nat.reduceSub, Nat.reduceMul, Nat.reduceEqDiff, Nat.reduceBEq, Nat.reduceBNe, Nat.reduceMod, Nat.reduceDiv, Int.reduceEq, Int.reduceNe, Int.reduceLT, Int.reduceLE, Int.reduceToNat, Int.reduceBEq, Int.reduceBNe, Int.reduceNeg, reduceIte, reduceCtorEq, reduceDIte, Value.oneCell']; refine A_nil ?_; simp only [Thn, InB])
      | (refine A_condt ?_ ?_; focus (simp only [evo, lk, lk1, lk2, Nat.reduceDiv, Nat.reduceMod]; done))
      | (refine A_condf ?_ ?_; focus (simp only [evo, lk, lk1, lk2, Nat.reduceDiv, Nat.reduceMod]; done))
      | (refine A_skip ?_; simp only [Thn, InB])
      | (refine A_exit ?_; simp only [Thn, InB, reduceIte, Nat.reduceEqDiff])
      | refine A_ret ?_)
  (first | refine A_quietG (gs := [none, none, none, none, none, none, some (some 10, true), some (some 10, true), some (some 10, true), some (some 10, true), some (some 10, true), none, none, some (some 17, true), some (some 17, true), some (some 17, true), some (some 17, true), some (some 17, true), none, none, some (some 24, true), some (some 24, true), some (some 24, true), some (some 24, true), some (some 24, true), none, none, some (some 31, true), some (some 31, true), some (some 31, true), some (some 31, true), some (some 31, true), some (some 31, true), some (some 31, true), none, none, some (some 40, true), some (some 40, true), some (some 40, true), some (some 40, true), some (some 40, true), some (some 40, true), some (some 40, true), none, none, some (some 49, true), some (some 49, true), some (some 49, true), some (some 49, true), some (some 49, true), some (some 49, true), some (some 49, true), none, none]) mixedO (by kernel_rfl) (by kernel_rfl) rfl (aqg_run ?_) | refine A_calmG (gs := [none, none, none, none, none, none, some (some 10, true), some (some 10, true), some (some 10, true), some (some 10, true), some (some 10, true), none, none, some (some 17, true), some (some 17, true), some (some 17, true), some (some 17, true), some (some 17, true), none, none, some (some 24, true), some (some 24, true), some (some 24, true), some (some 24, true), some (some 24, true), none, none, some (some 31, true), some (some 31, true), some (some 31, true), some (some 31, true), some (some 31, true), some (some 31, true), some (some 31, true), none, none, some (some 40, true), some (some 40, true), some (some 40, true), some (some 40, true), some (some 40, true), some (some 40, true), some (some 40, true), none, none, some (some 49, true), some (some 49, true), some (some 49, true), some (some 49, true), some (some 49, true), some (some 49, true), some (some 49, true), none, none]) (by kernel_rfl) rfl (aqg_run ?_)); simp only [runG, stepG_n, stepG_s, opW, bsD, opV, mkOp, resE_ap, resA, go_sem, Nat.reduceLT, Nat.reduceLeDiff, Nat.reduceAdd, Nat.reduceSub, Nat.reduceMul, Nat.reduceEqDiff, Nat.reduceBEq, Nat.reduceBNe, Nat.reduceMod, Nat.reduceDiv, Int.reduceEq, Int.reduceNe, Int.reduceLT, Int.reduceLE, Int.reduceToNat, Int.reduceBEq, Int.reduceBNe, Int.reduceNeg, reduceIte, reduceCtorEq, reduceDIte, Value.oneCell']
  (try (refine aqg_nil ?_; (try simp only [Thn, InB])))
  repeat (first
      | refine A_seq ?_
      | refine A_block ?_
      | (refine A_region (A_run ?_); simp only [go_sem, Nat.reduceLT, Nat.reduceLeDiff, Nat.reduceAdd, Nat.reduceSub, Nat.reduceMul, Nat.reduceEqDiff, Nat.reduceBEq, Nat.reduceBNe, Nat.reduceMod, Nat.reduceDiv, Int.reduceEq, Int.reduceNe, Int.reduceLT, Int.reduceLE, Int.reduceToNat, Int.reduceBEq, Int.reduceBNe, Int.reduceNeg, reduceIte, reduceCtorEq, reduceDIte, Value.oneCell']; refine A_nil ?_; simp only [Thn, InB])
      | (refine A_condt ?_ ?_; focus (simp only [evo, lk, lk1, lk2, Nat.reduceDiv, Nat.reduceMod]; done))
      | (refine A_condf ?_ ?_; focus (simp only [evo, lk, lk1, lk2, Nat.reduceDiv, Nat.reduceMod]; done))
      | (refine A_skip ?_; simp only [Thn, InB])
      | (refine A_exit ?_; simp only [Thn, InB, reduceIte, Nat.reduceEqDiff])
      | refine A_ret ?_)
  exact ⟨_, rfl, [], _, fin_pure rfl (Le.refl _), rfl, rfl⟩
end Go.Proofs.YtbgfiflnfndckaaDoor.Lift

/- The lift: Same, SamePairs. No conditions. -/
set_option linter.unusedVariables false
set_option linter.unusedSimpArgs false
namespace Go.Proofs.YtbgfiflnfndckaaDoor.Lift
open Go Go.RowKit

/-- For every value, if it is so for what is in it. -/
theorem V.ind {p : V → Prop} (h : ∀ k s b n f l m, (∀ x ∈ l, p x) → (∀ x ∈ m, p x.2) → p (.mk k s b n f l m)) : ∀ x, p x
  | .mk k s b n f l m => h k s b n f l m (fun x hx => V.ind h x) (fun x hx => V.ind h x.2)
termination_by x => SizeOf.sizeOf x
decreasing_by
  · have := List.sizeOf_lt_of_mem hx
    simp only [V.mk.sizeOf_spec]
    omega
  · have := List.sizeOf_lt_of_mem hx
    obtain ⟨a, b⟩ := x
    simp only [V.mk.sizeOf_spec, Prod.mk.sizeOf_spec] at this ⊢
    omega
theorem ab_rV {l : List V} (h : AB (rV l)) : l.length * 96 ≤ 140737488355328 := by
  simp only [AB, rV] at h
  cases h with
  | rows _ _ _ h _ => simpa using h
theorem ab_rP {m : List (ByteArray × V)} (h : AB (rP m)) : m.length * 112 ≤ 140737488355328 := by
  simp only [AB, rP] at h
  cases h with
  | rows _ _ _ h _ => simpa using h
theorem ab_va {k : Nat} {s : ByteArray} {b : Bool} {n : Int} {f : Nat} {l : List V} {m : List (ByteArray × V)} (h : AB (va (.mk k s b n f l m))) : l.length * 96 ≤ 140737488355328 ∧ m.length * 112 ≤ 140737488355328 := by
  simp only [AB, va, vD, vDs_map, pDs_map] at h
  exact ⟨ab_rV (h (.rows 7 96 (l.map vD)) (by simp)), ab_rP (h (.rows 8 112 (m.map pD)) (by simp))⟩

mutual
def same : V → V → Bool
  | .mk k s b n f l m, .mk k' s' b' n' f' l' m' => flat (.mk k s b n f l m) (.mk k' s' b' n' f' l' m') && sames l l' && sameP m m'
def sames : List V → List V → Bool
  | [], [] => true
  | x :: l, y :: l' => same x y && sames l l'
  | _, _ => false
def sameP : List (ByteArray × V) → List (ByteArray × V) → Bool
  | [], [] => true
  | (k, x) :: l, (k', y) :: l' => ((k.toList == k'.toList) && same x y) && sameP l l'
  | _, _ => false
end
def sameK (p q : ByteArray × V) : Bool := (p.1.toList == q.1.toList) && same p.2 q.2
theorem sames_eqL : ∀ l l' : List V, sames l l' = eqL same l l'
  | [], [] => by simp only [sames, eqL]
  | x :: l, y :: l' => by simp only [sames, eqL, sames_eqL l l']
  | [], _ :: _ => by simp only [sames, eqL]
  | _ :: _, [] => by simp only [sames, eqL]
theorem sameP_eqL : ∀ l l' : List (ByteArray × V), sameP l l' = eqL sameK l l'
  | [], [] => by simp only [sameP, eqL]
  | (k, x) :: l, (k', y) :: l' => by simp only [sameP, eqL, sameK, sameP_eqL l l']
  | [], _ :: _ => by simp only [sameP, eqL]
  | _ :: _, [] => by simp only [sameP, eqL]

set_option maxHeartbeats 4000000 in
set_option maxRecDepth 100000 in
theorem same1_c {W0 : World} (p q : ByteArray × V) (h : APure Tryd.prog W0 18 [va p.2, va q.2] (· = .ret (.d (.v (.bool (same p.2 q.2)))))) : APure Tryd.prog W0 61 [pa p, pa q] (· = .ret (.d (.v (.bool (sameK p q))))) := by
  have tx := take_len (l := (vD p.2).map AV.d) (n := 7) (by rw [List.length_map, vD_len])
  have ty := take_len (l := (vD q.2).map AV.d) (n := 7) (by rw [List.length_map, vD_len])
  have lx := vD_len p.2
  have ly := vD_len q.2
  refine A_body Tryd.func61 rfl (by simp [Tryd.ntmps61]) ?_
  simp only [Tryd.ntmps61, Tryd.results61, mkEnv, List.length_nil, pa, pD, List.map_cons]
  repeat (first
      | refine A_seq ?_
      | refine A_block ?_
      | (refine A_region (A_run ?_); simp only [go_sem, Nat.reduceLT, Nat.reduceLeDiff, Nat.reduceAdd, Nat.reduceSub, Nat.reduceMul, Nat.reduceEqDiff, Nat.reduceBEq, Nat.reduceBNe, Nat.reduceMod, Nat.reduceDiv, Int.reduceEq, Int.reduceNe, Int.reduceLT, Int.reduceLE, Int.reduceToNat, Int.reduceBEq, Int.reduceBNe, Int.reduceNeg, reduceIte, reduceCtorEq, reduceDIte, Value.oneCell', tx, ty, lx, ly]; refine A_nil ?_; simp only [Thn, InB])
      | (refine A_condt ?_ ?_; focus (simp only [evo, lk, lk1, lk2, Nat.reduceDiv, Nat.reduceMod]; done))
      | (refine A_condf ?_ ?_; focus (simp only [evo, lk, lk1, lk2, Nat.reduceDiv, Nat.reduceMod]; done))
      | (refine A_skip ?_; simp only [Thn, InB])
      | (refine A_exit ?_; simp only [Thn, InB, reduceIte, Nat.reduceEqDiff])
      | refine A_ret ?_)
  (first | refine A_quietG (gs := [none, none, none, none, none, none, some (some 10, true), some (some 10, true), some (some 10, true), some (some 10, true), some (some 10, true), none, none]) mixedO (by kernel_rfl) (by kernel_rfl) rfl (aqg_run ?_) | refine A_calmG (gs := [none, none, none, none, none, none, some (some 10, true), some (some 10, true), some (some 10, true), some (some 10, true), some (some 10, true), none, none]) (by kernel_rfl) rfl (aqg_run ?_)); simp only [runG, stepG_n, stepG_s, opW, bsD, opV, mkOp, resE_ap, resA, go_sem, Nat.reduceLT, Nat.reduceLeDiff, Nat.reduceAdd, Nat.reduceSub, Nat.reduceMul, Nat.reduceEqDiff, Nat.reduceBEq, Nat.reduceBNe, Nat.reduceMod, Nat.reduceDiv, Int.reduceEq, Int.reduceNe, Int.reduceLT, Int.reduceLE, Int.reduceToNat, Int.reduceBEq, Int.reduceBNe, Int.reduceNeg, reduceIte, reduceCtorEq, reduceDIte, Value.oneCell', tx, ty, lx, ly]
  (try (refine aqg_nil ?_; (try simp only [Thn, InB])))
  (refine aqg_callg0 (fun hh => h) rfl rfl (fun hh => ?_) (by first | assumption | simp only [go_sem]) (by first | rfl | simp only [noNames, namesAll, AV.names, names_ds, go_sem, List.append_nil, List.cons_append, List.nil_append, Bool.and_self]) (by first | rfl | simp only [noName, namesAll, AV.names, names_ds, go_sem, Bool.and_self]) ?_; focus (simp only [reduceIte, Bool.false_eq_true, Bool.not_eq_true'] at hh; constructor <;> simp only [go_sem, Nat.reduceLT, Nat.reduceLeDiff, Nat.reduceAdd, Nat.reduceSub, Nat.reduceMul, Nat.reduceEqDiff, Nat.reduceBEq, Nat.reduceBNe, Nat.reduceMod, Nat.reduceDiv, Int.reduceEq, Int.reduceNe, Int.reduceLT, Int.reduceLE, Int.reduceToNat, Int.reduceBEq, Int.reduceBNe, Int.reduceNeg, reduceIte, reduceCtorEq, reduceDIte, Value.oneCell', resE_ap, resA, hh]))
  (refine aqg_run ?_; simp only [runG, stepG_n, stepG_s, opW, bsD, opV, mkOp, resE_ap, resA, go_sem, Nat.reduceLT, Nat.reduceLeDiff, Nat.reduceAdd, Nat.reduceSub, Nat.reduceMul, Nat.reduceEqDiff, Nat.reduceBEq, Nat.reduceBNe, Nat.reduceMod, Nat.reduceDiv, Int.reduceEq, Int.reduceNe, Int.reduceLT, Int.reduceLE, Int.reduceToNat, Int.reduceBEq, Int.reduceBNe, Int.reduceNeg, reduceIte, reduceCtorEq, reduceDIte, Value.oneCell'])
  (try (refine aqg_nil ?_; (try simp only [Thn, InB])))
  repeat (first
      | refine A_seq ?_
      | refine A_block ?_
      | (refine A_region (A_run ?_); simp only [go_sem, Nat.reduceLT, Nat.reduceLeDiff, Nat.reduceAdd, Nat.reduceSub, Nat.reduceMul, Nat.reduceEqDiff, Nat.reduceBEq, Nat.reduceBNe, Nat.reduceMod, Nat.reduceDiv, Int.reduceEq, Int.reduceNe, Int.reduceLT, Int.reduceLE, Int.reduceToNat, Int.reduceBEq, Int.reduceBNe, Int.reduceNeg, reduceIte, reduceCtorEq, reduceDIte, Value.oneCell']; refine A_nil ?_; simp only [Thn, InB])
      | (refine A_condt ?_ ?_; focus (simp only [evo, lk, lk1, lk2, Nat.reduceDiv, Nat.reduceMod]; done))
      | (refine A_condf ?_ ?_; focus (simp only [evo, lk, lk1, lk2, Nat.reduceDiv, Nat.reduceMod]; done))
      | (refine A_skip ?_; simp only [Thn, InB])
      | (refine A_exit ?_; simp only [Thn, InB, reduceIte, Nat.reduceEqDiff])
      | refine A_ret ?_)
  exact ⟨_, rfl, [], _, fin_pure rfl (Le.refl _), rfl, rfl⟩
set_option maxHeartbeats 4000000 in
set_option maxRecDepth 100000 in
theorem sameP_of {W0 : World} (m m' : List (ByteArray × V)) (h : ∀ p ∈ m, ∀ y, APure Tryd.prog W0 18 [va p.2, va y] (· = .ret (.d (.v (.bool (same p.2 y)))))) : APure Tryd.prog W0 25 [rP m, rP m'] (· = .ret (.d (.v (.bool (sameP m m'))))) := by
  refine APure.known fun hk => ?_
  have hb := ab_rP (hk (rP m) (by simp))
  refine A_body Tryd.func25 rfl (by simp [Tryd.ntmps25]) ?_
  simp only [Tryd.ntmps25, Tryd.results25, mkEnv, List.length_nil, rP]
  repeat (first
      | refine A_seq ?_
      | refine A_block ?_
      | (refine A_region (A_run ?_); simp only [go_sem, Nat.reduceLT, Nat.reduceLeDiff, Nat.reduceAdd, Nat.reduceSub, Nat.reduceMul, Nat.reduceEqDiff, Nat.reduceBEq, Nat.reduceBNe, Nat.reduceMod, Nat.reduceDiv, Int.reduceEq, Int.reduceNe, Int.reduceLT, Int.reduceLE, Int.reduceToNat, Int.reduceBEq, Int.reduceBNe, Int.reduceNeg, reduceIte, reduceCtorEq, reduceDIte, Value.oneCell']; refine A_nil ?_; simp only [Thn, InB])
      | (refine A_condt ?_ ?_; focus (simp only [evo, lk, lk1, lk2, Nat.reduceDiv, Nat.reduceMod]; done))
      | (refine A_condf ?_ ?_; focus (simp only [evo, lk, lk1, lk2, Nat.reduceDiv, Nat.reduceMod]; done))
      | (refine A_skip ?_; simp only [Thn, InB])
      | (refine A_exit ?_; simp only [Thn, InB, reduceIte, Nat.reduceEqDiff])
      | refine A_ret ?_)
  refine A_region (A_run ?_)
  simp only [go_sem, Nat.reduceLT, Nat.reduceLeDiff, Nat.reduceAdd, Nat.reduceSub, Nat.reduceMul, Nat.reduceEqDiff, Nat.reduceBEq, Nat.reduceBNe, Nat.reduceMod, Nat.reduceDiv, Int.reduceEq, Int.reduceNe, Int.reduceLT, Int.reduceLE, Int.reduceToNat, Int.reduceBEq, Int.reduceBNe, Int.reduceNeg, reduceIte, reduceCtorEq, reduceDIte, Value.oneCell']
  (refine A_call (eqp 61 (by simp only [go_sem]) m m' sameK hb (fun x hx y _ => same1_c x y (h x hx y.2))) rfl rfl rfl rfl (by first | assumption | simp only [go_sem]) rfl (by first | rfl | simp only [noNames, namesAll, AV.names, names_ds, go_sem, List.append_nil, List.cons_append, List.nil_append, Bool.and_self]) ?_; rintro r rfl; refine ⟨(by first | rfl | simp only [noName, namesAll, AV.names, names_ds, go_sem, Bool.and_self]), A_run ?_⟩; simp only [go_sem, Nat.reduceLT, Nat.reduceLeDiff, Nat.reduceAdd, Nat.reduceSub, Nat.reduceMul, Nat.reduceEqDiff, Nat.reduceBEq, Nat.reduceBNe, Nat.reduceMod, Nat.reduceDiv, Int.reduceEq, Int.reduceNe, Int.reduceLT, Int.reduceLE, Int.reduceToNat, Int.reduceBEq, Int.reduceBNe, Int.reduceNeg, reduceIte, reduceCtorEq, reduceDIte, Value.oneCell'])
  refine A_nil ?_
  simp only [Thn, InB]
  repeat (first
      | refine A_seq ?_
      | refine A_block ?_
      | (refine A_region (A_run ?_); simp only [go_sem, Nat.reduceLT, Nat.reduceLeDiff, Nat.reduceAdd, Nat.reduceSub, Nat.reduceMul, Nat.reduceEqDiff, Nat.reduceBEq, Nat.reduceBNe, Nat.reduceMod, Nat.reduceDiv, Int.reduceEq, Int.reduceNe, Int.reduceLT, Int.reduceLE, Int.reduceToNat, Int.reduceBEq, Int.reduceBNe, Int.reduceNeg, reduceIte, reduceCtorEq, reduceDIte, Value.oneCell']; refine A_nil ?_; simp only [Thn, InB])
      | (refine A_condt ?_ ?_; focus (simp only [evo, lk, lk1, lk2, Nat.reduceDiv, Nat.reduceMod]; done))
      | (refine A_condf ?_ ?_; focus (simp only [evo, lk, lk1, lk2, Nat.reduceDiv, Nat.reduceMod]; done))
      | (refine A_skip ?_; simp only [Thn, InB])
      | (refine A_exit ?_; simp only [Thn, InB, reduceIte, Nat.reduceEqDiff])
      | refine A_ret ?_)
  exact ⟨_, rfl, [], _, fin_pure rfl (Le.refl _), by rw [sameP_eqL], rfl⟩
set_option maxHeartbeats 4000000 in
set_option maxRecDepth 100000 in
theorem same_c {W0 : World} : ∀ x y : V, APure Tryd.prog W0 18 [va x, va y] (· = .ret (.d (.v (.bool (same x y))))) := by
  intro x
  refine V.ind (p := fun x => ∀ y : V, APure Tryd.prog W0 18 [va x, va y] (· = .ret (.d (.v (.bool (same x y)))))) ?_ x
  rintro k s b n f l m hl hm ⟨k', s', b', n', f', l', m'⟩
  refine APure.known fun hk => ?_
  obtain ⟨hb1, hb2⟩ := ab_va (hk (va (.mk k s b n f l m)) (by simp))
  have hflat := flat_c (W0 := W0) (.mk k s b n f l m) (.mk k' s' b' n' f' l' m')
  refine A_body Tryd.func18 rfl (by simp [Tryd.ntmps18]) ?_
  simp only [va, vD, vDs_map, pDs_map, List.map_cons, List.map_nil] at hflat
  simp only [Tryd.ntmps18, Tryd.results18, mkEnv, List.length_nil, va, vD, vDs_map, pDs_map, List.map_cons, List.map_nil]
  repeat (first
      | refine A_seq ?_
      | refine A_block ?_
      | (refine A_region (A_run ?_); simp only [go_sem, Nat.reduceLT, Nat.reduceLeDiff, Nat.reduceAdd, Nat.reduceSub, Nat.reduceMul, Nat.reduceEqDiff, Nat.reduceBEq, Nat.reduceBNe, Nat.reduceMod, Nat.reduceDiv, Int.reduceEq, Int.reduceNe, Int.reduceLT, Int.reduceLE, Int.reduceToNat, Int.reduceBEq, Int.reduceBNe, Int.reduceNeg, reduceIte, reduceCtorEq, reduceDIte, Value.oneCell']; refine A_nil ?_; simp only [Thn, InB])
      | (refine A_condt ?_ ?_; focus (simp only [evo, lk, lk1, lk2, Nat.reduceDiv, Nat.reduceMod]; done))
      | (refine A_condf ?_ ?_; focus (simp only [evo, lk, lk1, lk2, Nat.reduceDiv, Nat.reduceMod]; done))
      | (refine A_skip ?_; simp only [Thn, InB])
      | (refine A_exit ?_; simp only [Thn, InB, reduceIte, Nat.reduceEqDiff])
      | refine A_ret ?_)
  (first | refine A_quietG (gs := [none, none, none, none, some (some 8, true), some (some 8, true), some (some 8, true), some (some 8, true), some (some 8, true), none, none, some (some 15, true), some (some 15, true), some (some 15, true), some (some 15, true), some (some 15, true), none, none]) mixedO (by kernel_rfl) (by kernel_rfl) rfl (aqg_run ?_) | refine A_calmG (gs := [none, none, none, none, some (some 8, true), some (some 8, true), some (some 8, true), some (some 8, true), some (some 8, true), none, none, some (some 15, true), some (some 15, true), some (some 15, true), some (some 15, true), some (some 15, true), none, none]) (by kernel_rfl) rfl (aqg_run ?_)); simp only [runG, stepG_n, stepG_s, opW, bsD, opV, mkOp, resE_ap, resA, go_sem, Nat.reduceLT, Nat.reduceLeDiff, Nat.reduceAdd, Nat.reduceSub, Nat.reduceMul, Nat.reduceEqDiff, Nat.reduceBEq, Nat.reduceBNe, Nat.reduceMod, Nat.reduceDiv, Int.reduceEq, Int.reduceNe, Int.reduceLT, Int.reduceLE, Int.reduceToNat, Int.reduceBEq, Int.reduceBNe, Int.reduceNeg, reduceIte, reduceCtorEq, reduceDIte, Value.oneCell']
  (try (refine aqg_nil ?_; (try simp only [Thn, InB])))
  (refine aqg_call (caps := []) (hflat) rfl rfl rfl (by first | assumption | simp only [go_sem]) (by first | rfl | simp only [noNames, namesAll, AV.names, names_ds, go_sem, List.append_nil, List.cons_append, List.nil_append, Bool.and_self]) (by first | rfl | simp only [noName, namesAll, AV.names, names_ds, go_sem, Bool.and_self]) ?_)
  (refine aqg_run ?_; simp only [runG, stepG_n, stepG_s, opW, bsD, opV, mkOp, resE_ap, resA, go_sem, Nat.reduceLT, Nat.reduceLeDiff, Nat.reduceAdd, Nat.reduceSub, Nat.reduceMul, Nat.reduceEqDiff, Nat.reduceBEq, Nat.reduceBNe, Nat.reduceMod, Nat.reduceDiv, Int.reduceEq, Int.reduceNe, Int.reduceLT, Int.reduceLE, Int.reduceToNat, Int.reduceBEq, Int.reduceBNe, Int.reduceNeg, reduceIte, reduceCtorEq, reduceDIte, Value.oneCell'])
  (try (refine aqg_nil ?_; (try simp only [Thn, InB])))
  (refine aqg_callg0 (fun hh => eqv 18 (by simp only [go_sem]) l l' same hb1 (fun x hx y _ => hl x hx y)) rfl rfl (fun hh => ?_) (by first | assumption | simp only [go_sem]) (by first | rfl | simp only [noNames, namesAll, AV.names, names_ds, go_sem, List.append_nil, List.cons_append, List.nil_append, Bool.and_self]) (by first | rfl | simp only [noName, namesAll, AV.names, names_ds, go_sem, Bool.and_self]) ?_; focus (simp only [reduceIte, Bool.false_eq_true, Bool.not_eq_true'] at hh; constructor <;> simp only [go_sem, Nat.reduceLT, Nat.reduceLeDiff, Nat.reduceAdd, Nat.reduceSub, Nat.reduceMul, Nat.reduceEqDiff, Nat.reduceBEq, Nat.reduceBNe, Nat.reduceMod, Nat.reduceDiv, Int.reduceEq, Int.reduceNe, Int.reduceLT, Int.reduceLE, Int.reduceToNat, Int.reduceBEq, Int.reduceBNe, Int.reduceNeg, reduceIte, reduceCtorEq, reduceDIte, Value.oneCell', resE_ap, resA, hh]))
  (refine aqg_run ?_; simp only [runG, stepG_n, stepG_s, opW, bsD, opV, mkOp, resE_ap, resA, go_sem, Nat.reduceLT, Nat.reduceLeDiff, Nat.reduceAdd, Nat.reduceSub, Nat.reduceMul, Nat.reduceEqDiff, Nat.reduceBEq, Nat.reduceBNe, Nat.reduceMod, Nat.reduceDiv, Int.reduceEq, Int.reduceNe, Int.reduceLT, Int.reduceLE, Int.reduceToNat, Int.reduceBEq, Int.reduceBNe, Int.reduceNeg, reduceIte, reduceCtorEq, reduceDIte, Value.oneCell'])
  (try (refine aqg_nil ?_; (try simp only [Thn, InB])))
  (refine aqg_callg0 (fun hh => sameP_of m m' hm) rfl rfl (fun hh => ?_) (by first | assumption | simp only [go_sem]) (by first | rfl | simp only [noNames, namesAll, AV.names, names_ds, go_sem, List.append_nil, List.cons_append, List.nil_append, Bool.and_self]) (by first | rfl | simp only [noName, namesAll, AV.names, names_ds, go_sem, Bool.and_self]) ?_; focus (simp only [reduceIte, Bool.false_eq_true, Bool.not_eq_true'] at hh; constructor <;> simp only [go_sem, Nat.reduceLT, Nat.reduceLeDiff, Nat.reduceAdd, Nat.reduceSub, Nat.reduceMul, Nat.reduceEqDiff, Nat.reduceBEq, Nat.reduceBNe, Nat.reduceMod, Nat.reduceDiv, Int.reduceEq, Int.reduceNe, Int.reduceLT, Int.reduceLE, Int.reduceToNat, Int.reduceBEq, Int.reduceBNe, Int.reduceNeg, reduceIte, reduceCtorEq, reduceDIte, Value.oneCell', resE_ap, resA, hh]))
  (refine aqg_run ?_; simp only [runG, stepG_n, stepG_s, opW, bsD, opV, mkOp, resE_ap, resA, go_sem, Nat.reduceLT, Nat.reduceLeDiff, Nat.reduceAdd, Nat.reduceSub, Nat.reduceMul, Nat.reduceEqDiff, Nat.reduceBEq, Nat.reduceBNe, Nat.reduceMod, Nat.reduceDiv, Int.reduceEq, Int.reduceNe, Int.reduceLT, Int.reduceLE, Int.reduceToNat, Int.reduceBEq, Int.reduceBNe, Int.reduceNeg, reduceIte, reduceCtorEq, reduceDIte, Value.oneCell'])
  (try (refine aqg_nil ?_; (try simp only [Thn, InB])))
  repeat (first
      | refine A_seq ?_
      | refine A_block ?_
      | (refine A_region (A_run ?_); simp only [go_sem, Nat.reduceLT, Nat.reduceLeDiff, Nat.reduceAdd, Nat.reduceSub, Nat.reduceMul, Nat.reduceEqDiff, Nat.reduceBEq, Nat.reduceBNe, Nat.reduceMod, Nat.reduceDiv, Int.reduceEq, Int.reduceNe, Int.reduceLT, Int.reduceLE, Int.reduceToNat, Int.reduceBEq, Int.reduceBNe, Int.reduceNeg, reduceIte, reduceCtorEq, reduceDIte, Value.oneCell']; refine A_nil ?_; simp only [Thn, InB])
      | (refine A_condt ?_ ?_; focus (simp only [evo, lk, lk1, lk2, Nat.reduceDiv, Nat.reduceMod]; done))
      | (refine A_condf ?_ ?_; focus (simp only [evo, lk, lk1, lk2, Nat.reduceDiv, Nat.reduceMod]; done))
      | (refine A_skip ?_; simp only [Thn, InB])
      | (refine A_exit ?_; simp only [Thn, InB, reduceIte, Nat.reduceEqDiff])
      | refine A_ret ?_)
  exact ⟨_, rfl, [], _, fin_pure rfl (Le.refl _), by simp only [same, sames_eqL], rfl⟩
theorem samePairs_c {W0 : World} (m m' : List (ByteArray × V)) : APure Tryd.prog W0 25 [rP m, rP m'] (· = .ret (.d (.v (.bool (sameP m m'))))) := sameP_of m m' fun p _ y => same_c p.2 y
end Go.Proofs.YtbgfiflnfndckaaDoor.Lift

/- The lift: copies of slices. No conditions. -/
set_option linter.unusedVariables false
set_option linter.unusedSimpArgs false
namespace Go.Proofs.YtbgfiflnfndckaaDoor.Lift
open Go Go.RowKit

/-- A function that was handed no box hands back a slice of no elements. -/
theorem fin_nil {W0 : World} {st : St} {sz bt : Nat} (hsz : 0 < sz) (hbt : 0 < bt) : Fin W0 0 st (.d .e) [.vec sz bt []] (.sl 0 sz 0 0) := by
  intro E M m a w u hE h hx
  refine ⟨M, fun b' => if b' = 0 then .virt else .no, { h.bare with mNo := ?_, mIn := ?_, inj := ?_, oldv := ?_, oldr := ?_, new := ?_, len := ?_, box := ?_, env := ?_ }, ?_⟩
  · intro b' hb'
    simp only [List.length_cons, List.length_nil] at hb'
    exact if_neg (by omega)
  · intro b' k hk
    split at hk <;> cases hk
  · intro b1 b2 k h1 h2
    split at h1 <;> cases h1
  · intro b' cs hb'
    omega
  · intro b' k hb'
    omega
  · intro b' k _ hk
    split at hk <;> cases hk
  · omega
  · intro b' y hy
    match b', hy with
    | 0, hy =>
      simp only [List.getElem?_cons_zero, Option.some.injEq] at hy
      subst hy
      simp [BoxR, hsz, hbt]
  · exact fun t x hx => (by simp [lk_nil] at hx)
  · simp only [RA] at hx
    cases hx
    simp [RA]
set_option maxHeartbeats 4000000 in
set_option maxRecDepth 100000 in
theorem clone_v {W0 : World} (l : List (V)) : ACalls Tryd.prog W0 90 [.d (.rows 7 96 (l.map vD))] [] (fun r L' => r = .ret (.sl 0 7 0 l.length) ∧ L' = [.vec 7 96 (l.map vD)]) := by
  refine ACalls.known fun hk => ?_
  have hb47 : l.length * 96 ≤ 140737488355328 := by
    have := hk (.d (.rows 7 96 (l.map vD))) (by simp)
    simp only [AB] at this
    cases this with
    | rows _ _ _ h _ => simpa using h
  refine A_body Tryd.func90 rfl (by simp [Tryd.ntmps90]) ?_
  simp only [Tryd.ntmps90, Tryd.results90, mkEnv, List.length_nil]
  repeat (first
      | refine A_seq ?_
      | refine A_block ?_
      | (refine A_region (A_run ?_); simp only [go_sem, Nat.reduceLT, Nat.reduceLeDiff, Nat.reduceAdd, Nat.reduceSub, Nat.reduceMul, Nat.reduceEqDiff, Nat.reduceBEq, Nat.reduceBNe, Nat.reduceMod, Nat.reduceDiv, Int.reduceEq, Int.reduceNe, Int.reduceLT, Int.reduceLE, Int.reduceToNat, Int.reduceBEq, Int.reduceBNe, Int.reduceNeg, reduceIte, reduceCtorEq, reduceDIte, Value.oneCell']; refine A_nil ?_; simp only [Thn, InB])
      | (refine A_condt ?_ ?_; focus (simp only [evo, lk, lk1, lk2, Nat.reduceDiv, Nat.reduceMod]; done))
      | (refine A_condf ?_ ?_; focus (simp only [evo, lk, lk1, lk2, Nat.reduceDiv, Nat.reduceMod]; done))
      | (refine A_skip ?_; simp only [Thn, InB])
      | (refine A_exit ?_; simp only [Thn, InB, reduceIte, Nat.reduceEqDiff])
      | refine A_ret ?_)
  refine A_region (A_run ?_)
  simp only [go_sem, Nat.reduceLT, Nat.reduceLeDiff, Nat.reduceAdd, Nat.reduceSub, Nat.reduceMul, Nat.reduceEqDiff, Nat.reduceBEq, Nat.reduceBNe, Nat.reduceMod, Nat.reduceDiv, Int.reduceEq, Int.reduceNe, Int.reduceLT, Int.reduceLE, Int.reduceToNat, Int.reduceBEq, Int.reduceBNe, Int.reduceNeg, reduceIte, reduceCtorEq, reduceDIte, Value.oneCell']
  refine A_eqnil rfl rfl (by simp only [go_sem]; rfl) rfl (.inr ⟨_, _, _, rfl⟩) rfl ?_
  intro b hb
  refine A_run ?_
  simp only [go_sem, Nat.reduceLT, Nat.reduceLeDiff, Nat.reduceAdd, Nat.reduceSub, Nat.reduceMul, Nat.reduceEqDiff, Nat.reduceBEq, Nat.reduceBNe, Nat.reduceMod, Nat.reduceDiv, Int.reduceEq, Int.reduceNe, Int.reduceLT, Int.reduceLE, Int.reduceToNat, Int.reduceBEq, Int.reduceBNe, Int.reduceNeg, reduceIte, reduceCtorEq, reduceDIte, Value.oneCell']
  refine A_nil ?_
  simp only [Thn, InB]
  refine A_cond rfl (fun h => ?_) (fun h => ?_)
  · have hl : l = [] := by
      cases l with
      | nil => rfl
      | cons x l =>
        have := hb _ _ _ rfl (by simp)
        rw [this] at h
        cases h
    subst hl
    repeat (first
        | refine A_seq ?_
        | refine A_block ?_
        | (refine A_region (A_run ?_); simp only [go_sem, Nat.reduceLT, Nat.reduceLeDiff, Nat.reduceAdd, Nat.reduceSub, Nat.reduceMul, Nat.reduceEqDiff, Nat.reduceBEq, Nat.reduceBNe, Nat.reduceMod, Nat.reduceDiv, Int.reduceEq, Int.reduceNe, Int.reduceLT, Int.reduceLE, Int.reduceToNat, Int.reduceBEq, Int.reduceBNe, Int.reduceNeg, reduceIte, reduceCtorEq, reduceDIte, Value.oneCell']; refine A_nil ?_; simp only [Thn, InB])
        | (refine A_condt ?_ ?_; focus (simp only [evo, lk, lk1, lk2, Nat.reduceDiv, Nat.reduceMod]; done))
        | (refine A_condf ?_ ?_; focus (simp only [evo, lk, lk1, lk2, Nat.reduceDiv, Nat.reduceMod]; done))
        | (refine A_skip ?_; simp only [Thn, InB])
        | (refine A_exit ?_; simp only [Thn, InB, reduceIte, Nat.reduceEqDiff])
        | refine A_ret ?_)
    exact ⟨_, rfl, _, _, fin_nil (by decide) (by decide), rfl, rfl⟩
  · skip
    repeat (first
        | refine A_seq ?_
        | refine A_block ?_
        | (refine A_region (A_run ?_); simp only [go_sem, Nat.reduceLT, Nat.reduceLeDiff, Nat.reduceAdd, Nat.reduceSub, Nat.reduceMul, Nat.reduceEqDiff, Nat.reduceBEq, Nat.reduceBNe, Nat.reduceMod, Nat.reduceDiv, Int.reduceEq, Int.reduceNe, Int.reduceLT, Int.reduceLE, Int.reduceToNat, Int.reduceBEq, Int.reduceBNe, Int.reduceNeg, reduceIte, reduceCtorEq, reduceDIte, Value.oneCell']; refine A_nil ?_; simp only [Thn, InB])
        | (refine A_condt ?_ ?_; focus (simp only [evo, lk, lk1, lk2, Nat.reduceDiv, Nat.reduceMod]; done))
        | (refine A_condf ?_ ?_; focus (simp only [evo, lk, lk1, lk2, Nat.reduceDiv, Nat.reduceMod]; done))
        | (refine A_skip ?_; simp only [Thn, InB])
        | (refine A_exit ?_; simp only [Thn, InB, reduceIte, Nat.reduceEqDiff])
        | refine A_ret ?_)
    refine A_region (A_run ?_)
    simp only [go_sem, Nat.reduceLT, Nat.reduceLeDiff, Nat.reduceAdd, Nat.reduceSub, Nat.reduceMul, Nat.reduceEqDiff, Nat.reduceBEq, Nat.reduceBNe, Nat.reduceMod, Nat.reduceDiv, Int.reduceEq, Int.reduceNe, Int.reduceLT, Int.reduceLE, Int.reduceToNat, Int.reduceBEq, Int.reduceBNe, Int.reduceNeg, reduceIte, reduceCtorEq, reduceDIte, Value.oneCell']
    refine A_nilslice rfl rfl (by simp only [go_sem]; rfl) (by simp only [go_sem]; rfl) rfl ?_
    refine A_run ?_
    simp only [go_sem, Nat.reduceLT, Nat.reduceLeDiff, Nat.reduceAdd, Nat.reduceSub, Nat.reduceMul, Nat.reduceEqDiff, Nat.reduceBEq, Nat.reduceBNe, Nat.reduceMod, Nat.reduceDiv, Int.reduceEq, Int.reduceNe, Int.reduceLT, Int.reduceLE, Int.reduceToNat, Int.reduceBEq, Int.reduceBNe, Int.reduceNeg, reduceIte, reduceCtorEq, reduceDIte, Value.oneCell']
    refine O_sub _ (Sb.opn (t := 5) (sz := 7) (bt := 96) rfl (by decide) (by decide)) ?_
    simp only [go_sem, Nat.reduceLT, Nat.reduceLeDiff, Nat.reduceAdd, Nat.reduceSub, Nat.reduceMul, Nat.reduceEqDiff, Nat.reduceBEq, Nat.reduceBNe, Nat.reduceMod, Nat.reduceDiv, Int.reduceEq, Int.reduceNe, Int.reduceLT, Int.reduceLE, Int.reduceToNat, Int.reduceBEq, Int.reduceBNe, Int.reduceNeg, reduceIte, reduceCtorEq, reduceDIte, Value.oneCell']
    refine A_append (l := []) (l2 := l.map vD) (sz := 7) (bt := 96) (b := 0) (k := 0) rfl rfl (by simp only [go_sem] <;> rfl) (by simp only [go_sem] <;> rfl) (by simp only [go_sem] <;> rfl) (by simp only [go_sem] <;> rfl) ?_ rfl rfl rfl rfl (by simp [apR]) rfl (by simpa using hb47) ?_
    · rfl
    simp only [killE, mapE, killA, killB, List.length_append, List.length_map, go_sem, Nat.reduceLT, Nat.reduceLeDiff, Nat.reduceAdd, Nat.reduceSub, Nat.reduceMul, Nat.reduceEqDiff, Nat.reduceBEq, Nat.reduceBNe, Nat.reduceMod, Nat.reduceDiv, Int.reduceEq, Int.reduceNe, Int.reduceLT, Int.reduceLE, Int.reduceToNat, Int.reduceBEq, Int.reduceBNe, Int.reduceNeg, reduceIte, reduceCtorEq, reduceDIte, Value.oneCell']
    refine A_run ?_
    simp only [go_sem, Nat.reduceLT, Nat.reduceLeDiff, Nat.reduceAdd, Nat.reduceSub, Nat.reduceMul, Nat.reduceEqDiff, Nat.reduceBEq, Nat.reduceBNe, Nat.reduceMod, Nat.reduceDiv, Int.reduceEq, Int.reduceNe, Int.reduceLT, Int.reduceLE, Int.reduceToNat, Int.reduceBEq, Int.reduceBNe, Int.reduceNeg, reduceIte, reduceCtorEq, reduceDIte, Value.oneCell']
    refine A_nil ?_
    simp only [Thn, InB]
    repeat (first
        | refine A_seq ?_
        | refine A_block ?_
        | (refine A_region (A_run ?_); simp only [go_sem, Nat.reduceLT, Nat.reduceLeDiff, Nat.reduceAdd, Nat.reduceSub, Nat.reduceMul, Nat.reduceEqDiff, Nat.reduceBEq, Nat.reduceBNe, Nat.reduceMod, Nat.reduceDiv, Int.reduceEq, Int.reduceNe, Int.reduceLT, Int.reduceLE, Int.reduceToNat, Int.reduceBEq, Int.reduceBNe, Int.reduceNeg, reduceIte, reduceCtorEq, reduceDIte, Value.oneCell']; refine A_nil ?_; simp only [Thn, InB])
        | (refine A_condt ?_ ?_; focus (simp only [evo, lk, lk1, lk2, Nat.reduceDiv, Nat.reduceMod]; done))
        | (refine A_condf ?_ ?_; focus (simp only [evo, lk, lk1, lk2, Nat.reduceDiv, Nat.reduceMod]; done))
        | (refine A_skip ?_; simp only [Thn, InB])
        | (refine A_exit ?_; simp only [Thn, InB, reduceIte, Nat.reduceEqDiff])
        | refine A_ret ?_)
    exact ⟨_, rfl, _, _, fin_own _ rfl rfl, by simp, by simp⟩

set_option maxHeartbeats 4000000 in
set_option maxRecDepth 100000 in
theorem clone_p {W0 : World} (l : List (ByteArray × V)) : ACalls Tryd.prog W0 88 [.d (.rows 8 112 (l.map pD))] [] (fun r L' => r = .ret (.sl 0 8 0 l.length) ∧ L' = [.vec 8 112 (l.map pD)]) := by
  refine ACalls.known fun hk => ?_
  have hb47 : l.length * 112 ≤ 140737488355328 := by
    have := hk (.d (.rows 8 112 (l.map pD))) (by simp)
    simp only [AB] at this
    cases this with
    | rows _ _ _ h _ => simpa using h
  refine A_body Tryd.func88 rfl (by simp [Tryd.ntmps88]) ?_
  simp only [Tryd.ntmps88, Tryd.results88, mkEnv, List.length_nil]
  repeat (first
      | refine A_seq ?_
      | refine A_block ?_
      | (refine A_region (A_run ?_); simp only [go_sem, Nat.reduceLT, Nat.reduceLeDiff, Nat.reduceAdd, Nat.reduceSub, Nat.reduceMul, Nat.reduceEqDiff, Nat.reduceBEq, Nat.reduceBNe, Nat.reduceMod, Nat.reduceDiv, Int.reduceEq, Int.reduceNe, Int.reduceLT, Int.reduceLE, Int.reduceToNat, Int.reduceBEq, Int.reduceBNe, Int.reduceNeg, reduceIte, reduceCtorEq, reduceDIte, Value.oneCell']; refine A_nil ?_; simp only [Thn, InB])
      | (refine A_condt ?_ ?_; focus (simp only [evo, lk, lk1, lk2, Nat.reduceDiv, Nat.reduceMod]; done))
      | (refine A_condf ?_ ?_; focus (simp only [evo, lk, lk1, lk2, Nat.reduceDiv, Nat.reduceMod]; done))
      | (refine A_skip ?_; simp only [Thn, InB])
      | (refine A_exit ?_; simp only [Thn, InB, reduceIte, Nat.reduceEqDiff])
      | refine A_ret ?_)
  refine A_region (A_run ?_)
  simp only [go_sem, Nat.reduceLT, Nat.reduceLeDiff, Nat.reduceAdd, Nat.reduceSub, Nat.reduceMul, Nat.reduceEqDiff, Nat.reduceBEq, Nat.reduceBNe, Nat.reduceMod, Nat.reduceDiv, Int.reduceEq, Int.reduceNe, Int.reduceLT, Int.reduceLE, Int.reduceToNat, Int.reduceBEq, Int.reduceBNe, Int.reduceNeg, reduceIte, reduceCtorEq, reduceDIte, Value.oneCell']
  refine A_eqnil rfl rfl (by simp only [go_sem]; rfl) rfl (.inr ⟨_, _, _, rfl⟩) rfl ?_
  intro b hb
  refine A_run ?_
  simp only [go_sem, Nat.reduceLT, Nat.reduceLeDiff, Nat.reduceAdd, Nat.reduceSub, Nat.reduceMul, Nat.reduceEqDiff, Nat.reduceBEq, Nat.reduceBNe, Nat.reduceMod, Nat.reduceDiv, Int.reduceEq, Int.reduceNe, Int.reduceLT, Int.reduceLE, Int.reduceToNat, Int.reduceBEq, Int.reduceBNe, Int.reduceNeg, reduceIte, reduceCtorEq, reduceDIte, Value.oneCell']
  refine A_nil ?_
  simp only [Thn, InB]
  refine A_cond rfl (fun h => ?_) (fun h => ?_)
  · have hl : l = [] := by
      cases l with
      | nil => rfl
      | cons x l =>
        have := hb _ _ _ rfl (by simp)
        rw [this] at h
        cases h
    subst hl
    repeat (first
        | refine A_seq ?_
        | refine A_block ?_
        | (refine A_region (A_run ?_); simp only [go_sem, Nat.reduceLT, Nat.reduceLeDiff, Nat.reduceAdd, Nat.reduceSub, Nat.reduceMul, Nat.reduceEqDiff, Nat.reduceBEq, Nat.reduceBNe, Nat.reduceMod, Nat.reduceDiv, Int.reduceEq, Int.reduceNe, Int.reduceLT, Int.reduceLE, Int.reduceToNat, Int.reduceBEq, Int.reduceBNe, Int.reduceNeg, reduceIte, reduceCtorEq, reduceDIte, Value.oneCell']; refine A_nil ?_; simp only [Thn, InB])
        | (refine A_condt ?_ ?_; focus (simp only [evo, lk, lk1, lk2, Nat.reduceDiv, Nat.reduceMod]; done))
        | (refine A_condf ?_ ?_; focus (simp only [evo, lk, lk1, lk2, Nat.reduceDiv, Nat.reduceMod]; done))
        | (refine A_skip ?_; simp only [Thn, InB])
        | (refine A_exit ?_; simp only [Thn, InB, reduceIte, Nat.reduceEqDiff])
        | refine A_ret ?_)
    exact ⟨_, rfl, _, _, fin_nil (by decide) (by decide), rfl, rfl⟩
  · skip
    repeat (first
        | refine A_seq ?_
        | refine A_block ?_
        | (refine A_region (A_run ?_); simp only [go_sem, Nat.reduceLT, Nat.reduceLeDiff, Nat.reduceAdd, Nat.reduceSub, Nat.reduceMul, Nat.reduceEqDiff, Nat.reduceBEq, Nat.reduceBNe, Nat.reduceMod, Nat.reduceDiv, Int.reduceEq, Int.reduceNe, Int.reduceLT, Int.reduceLE, Int.reduceToNat, Int.reduceBEq, Int.reduceBNe, Int.reduceNeg, reduceIte, reduceCtorEq, reduceDIte, Value.oneCell']; refine A_nil ?_; simp only [Thn, InB])
        | (refine A_condt ?_ ?_; focus (simp only [evo, lk, lk1, lk2, Nat.reduceDiv, Nat.reduceMod]; done))
        | (refine A_condf ?_ ?_; focus (simp only [evo, lk, lk1, lk2, Nat.reduceDiv, Nat.reduceMod]; done))
        | (refine A_skip ?_; simp only [Thn, InB])
        | (refine A_exit ?_; simp only [Thn, InB, reduceIte, Nat.reduceEqDiff])
        | refine A_ret ?_)
    refine A_region (A_run ?_)
    simp only [go_sem, Nat.reduceLT, Nat.reduceLeDiff, Nat.reduceAdd, Nat.reduceSub, Nat.reduceMul, Nat.reduceEqDiff, Nat.reduceBEq, Nat.reduceBNe, Nat.reduceMod, Nat.reduceDiv, Int.reduceEq, Int.reduceNe, Int.reduceLT, Int.reduceLE, Int.reduceToNat, Int.reduceBEq, Int.reduceBNe, Int.reduceNeg, reduceIte, reduceCtorEq, reduceDIte, Value.oneCell']
    refine A_nilslice rfl rfl (by simp only [go_sem]; rfl) (by simp only [go_sem]; rfl) rfl ?_
    refine A_run ?_
    simp only [go_sem, Nat.reduceLT, Nat.reduceLeDiff, Nat.reduceAdd, Nat.reduceSub, Nat.reduceMul, Nat.reduceEqDiff, Nat.reduceBEq, Nat.reduceBNe, Nat.reduceMod, Nat.reduceDiv, Int.reduceEq, Int.reduceNe, Int.reduceLT, Int.reduceLE, Int.reduceToNat, Int.reduceBEq, Int.reduceBNe, Int.reduceNeg, reduceIte, reduceCtorEq, reduceDIte, Value.oneCell']
    refine O_sub _ (Sb.opn (t := 5) (sz := 8) (bt := 112) rfl (by decide) (by decide)) ?_
    simp only [go_sem, Nat.reduceLT, Nat.reduceLeDiff, Nat.reduceAdd, Nat.reduceSub, Nat.reduceMul, Nat.reduceEqDiff, Nat.reduceBEq, Nat.reduceBNe, Nat.reduceMod, Nat.reduceDiv, Int.reduceEq, Int.reduceNe, Int.reduceLT, Int.reduceLE, Int.reduceToNat, Int.reduceBEq, Int.reduceBNe, Int.reduceNeg, reduceIte, reduceCtorEq, reduceDIte, Value.oneCell']
    refine A_append (l := []) (l2 := l.map pD) (sz := 8) (bt := 112) (b := 0) (k := 0) rfl rfl (by simp only [go_sem] <;> rfl) (by simp only [go_sem] <;> rfl) (by simp only [go_sem] <;> rfl) (by simp only [go_sem] <;> rfl) ?_ rfl rfl rfl rfl (by simp [apR]) rfl (by simpa using hb47) ?_
    · rfl
    simp only [killE, mapE, killA, killB, List.length_append, List.length_map, go_sem, Nat.reduceLT, Nat.reduceLeDiff, Nat.reduceAdd, Nat.reduceSub, Nat.reduceMul, Nat.reduceEqDiff, Nat.reduceBEq, Nat.reduceBNe, Nat.reduceMod, Nat.reduceDiv, Int.reduceEq, Int.reduceNe, Int.reduceLT, Int.reduceLE, Int.reduceToNat, Int.reduceBEq, Int.reduceBNe, Int.reduceNeg, reduceIte, reduceCtorEq, reduceDIte, Value.oneCell']
    refine A_run ?_
    simp only [go_sem, Nat.reduceLT, Nat.reduceLeDiff, Nat.reduceAdd, Nat.reduceSub, Nat.reduceMul, Nat.reduceEqDiff, Nat.reduceBEq, Nat.reduceBNe, Nat.reduceMod, Nat.reduceDiv, Int.reduceEq, Int.reduceNe, Int.reduceLT, Int.reduceLE, Int.reduceToNat, Int.reduceBEq, Int.reduceBNe, Int.reduceNeg, reduceIte, reduceCtorEq, reduceDIte, Value.oneCell']
    refine A_nil ?_
    simp only [Thn, InB]
    repeat (first
        | refine A_seq ?_
        | refine A_block ?_
        | (refine A_region (A_run ?_); simp only [go_sem, Nat.reduceLT, Nat.reduceLeDiff, Nat.reduceAdd, Nat.reduceSub, Nat.reduceMul, Nat.reduceEqDiff, Nat.reduceBEq, Nat.reduceBNe, Nat.reduceMod, Nat.reduceDiv, Int.reduceEq, Int.reduceNe, Int.reduceLT, Int.reduceLE, Int.reduceToNat, Int.reduceBEq, Int.reduceBNe, Int.reduceNeg, reduceIte, reduceCtorEq, reduceDIte, Value.oneCell']; refine A_nil ?_; simp only [Thn, InB])
        | (refine A_condt ?_ ?_; focus (simp only [evo, lk, lk1, lk2, Nat.reduceDiv, Nat.reduceMod]; done))
        | (refine A_condf ?_ ?_; focus (simp only [evo, lk, lk1, lk2, Nat.reduceDiv, Nat.reduceMod]; done))
        | (refine A_skip ?_; simp only [Thn, InB])
        | (refine A_exit ?_; simp only [Thn, InB, reduceIte, Nat.reduceEqDiff])
        | refine A_ret ?_)
    exact ⟨_, rfl, _, _, fin_own _ rfl rfl, by simp, by simp⟩

end Go.Proofs.YtbgfiflnfndckaaDoor.Lift

/- The lift: values of one's own memory. No conditions. -/
set_option linter.unusedVariables false
set_option linter.unusedSimpArgs false
namespace Go.Proofs.YtbgfiflnfndckaaDoor.Lift
open Go Go.RowKit

theorem set_same {α : Type} {l : List α} {i : Nat} {x : α} (h : l[i]? = some x) : l.set i x = l := by
  obtain ⟨h1, rfl⟩ := List.getElem?_eq_some_iff.1 h
  exact List.set_getElem_self h1
set_option maxHeartbeats 4000000 in
set_option maxRecDepth 100000 in
theorem ownPairs_of {W0 : World} (m : List (ByteArray × V)) (ih : ∀ p ∈ m, APure Tryd.prog W0 66 [va p.2] (· = .ret (va p.2))) : ACalls Tryd.prog W0 63 [rP m] [] (fun r L' => r = .ret (.sl 0 8 0 m.length) ∧ L' = [.vec 8 112 (m.map pD)]) := by
  refine ACalls.known fun hk => ?_
  have hb47 := ab_rP (hk (rP m) (by simp))
  refine A_body Tryd.func63 rfl (by simp [Tryd.ntmps63]) ?_
  simp only [Tryd.ntmps63, Tryd.results63, mkEnv, List.length_nil, rP]
  repeat (first
      | refine A_seq ?_
      | refine A_block ?_
      | (refine A_region (A_run ?_); simp only [go_sem, Nat.reduceLT, Nat.reduceLeDiff, Nat.reduceAdd, Nat.reduceSub, Nat.reduceMul, Nat.reduceEqDiff, Nat.reduceBEq, Nat.reduceBNe, Nat.reduceMod, Nat.reduceDiv, Int.reduceEq, Int.reduceNe, Int.reduceLT, Int.reduceLE, Int.reduceToNat, Int.reduceBEq, Int.reduceBNe, Int.reduceNeg, reduceIte, reduceCtorEq, reduceDIte, Value.oneCell']; refine A_nil ?_; simp only [Thn, InB])
      | (refine A_condt ?_ ?_; focus (simp only [evo, lk, lk1, lk2, Nat.reduceDiv, Nat.reduceMod]; done))
      | (refine A_condf ?_ ?_; focus (simp only [evo, lk, lk1, lk2, Nat.reduceDiv, Nat.reduceMod]; done))
      | (refine A_skip ?_; simp only [Thn, InB])
      | (refine A_exit ?_; simp only [Thn, InB, reduceIte, Nat.reduceEqDiff])
      | refine A_ret ?_)
  refine A_region (A_run ?_)
  simp only [go_sem, Nat.reduceLT, Nat.reduceLeDiff, Nat.reduceAdd, Nat.reduceSub, Nat.reduceMul, Nat.reduceEqDiff, Nat.reduceBEq, Nat.reduceBNe, Nat.reduceMod, Nat.reduceDiv, Int.reduceEq, Int.reduceNe, Int.reduceLT, Int.reduceLE, Int.reduceToNat, Int.reduceBEq, Int.reduceBNe, Int.reduceNeg, reduceIte, reduceCtorEq, reduceDIte, Value.oneCell']
  refine A_callB [] (clone_p m) rfl rfl rfl rfl (by simp only [go_sem]) rfl (by simp) rfl (fun i b h => by simp at h) rfl ?_
  rintro r L' ⟨rfl, rfl⟩
  refine ⟨rfl, A_run ?_⟩
  simp only [St.aft, killPE, mapE, killP, killPB, moved, setAll, renB, renA, sg_nil, go_sem, Nat.reduceLT, Nat.reduceLeDiff, Nat.reduceAdd, Nat.reduceSub, Nat.reduceMul, Nat.reduceEqDiff, Nat.reduceBEq, Nat.reduceBNe, Nat.reduceMod, Nat.reduceDiv, Int.reduceEq, Int.reduceNe, Int.reduceLT, Int.reduceLE, Int.reduceToNat, Int.reduceBEq, Int.reduceBNe, Int.reduceNeg, reduceIte, reduceCtorEq, reduceDIte, Value.oneCell']
  refine A_nil ?_
  simp only [Thn, InB]
  repeat (first
      | refine A_seq ?_
      | refine A_block ?_
      | (refine A_region (A_run ?_); simp only [go_sem, Nat.reduceLT, Nat.reduceLeDiff, Nat.reduceAdd, Nat.reduceSub, Nat.reduceMul, Nat.reduceEqDiff, Nat.reduceBEq, Nat.reduceBNe, Nat.reduceMod, Nat.reduceDiv, Int.reduceEq, Int.reduceNe, Int.reduceLT, Int.reduceLE, Int.reduceToNat, Int.reduceBEq, Int.reduceBNe, Int.reduceNeg, reduceIte, reduceCtorEq, reduceDIte, Value.oneCell']; refine A_nil ?_; simp only [Thn, InB])
      | (refine A_condt ?_ ?_; focus (simp only [evo, lk, lk1, lk2, Nat.reduceDiv, Nat.reduceMod]; done))
      | (refine A_condf ?_ ?_; focus (simp only [evo, lk, lk1, lk2, Nat.reduceDiv, Nat.reduceMod]; done))
      | (refine A_skip ?_; simp only [Thn, InB])
      | (refine A_exit ?_; simp only [Thn, InB, reduceIte, Nat.reduceEqDiff])
      | refine A_ret ?_)
  refine A_lp (σ := { i : Nat // i ≤ m.length }) (fun s => ⟨23, ofL [(0, .sl 0 8 0 m.length), (7, .d (.v (.int .i64 m.length))), (8, .d (.v (.int .i64 (s.1 : Nat))))], [.vec 8 112 (m.map pD)]⟩) (fun s => m.length - s.1) ⟨0, Nat.zero_le _⟩ ?_ ?_
  · ((try dsimp only); refine Sb.mk ?_ ?_ ?_ ?_ ?_ ?_; (focus rfl); (focus (repeat (first | exact eSub_nil _ | refine eSub_cons rfl ?_))); (focus exact ⟨_, rfl⟩); (focus (first | exact Nat.zero_le _ | exact Nat.le_refl _)); (focus (first | rfl | simp only [envBelow, List.all_cons, List.all_nil, namesAll, AV.names, names_ds, go_sem])); (focus (first | rfl | simp only [List.all_cons, List.all_nil, boxBelow, namesAll, AV.names, names_ds, go_sem])))
  · rintro ⟨i, hi⟩ R hR
    simp only
    repeat (first
        | refine A_seq ?_
        | refine A_block ?_
        | (refine A_region (A_run ?_); simp only [go_sem, Nat.reduceLT, Nat.reduceLeDiff, Nat.reduceAdd, Nat.reduceSub, Nat.reduceMul, Nat.reduceEqDiff, Nat.reduceBEq, Nat.reduceBNe, Nat.reduceMod, Nat.reduceDiv, Int.reduceEq, Int.reduceNe, Int.reduceLT, Int.reduceLE, Int.reduceToNat, Int.reduceBEq, Int.reduceBNe, Int.reduceNeg, reduceIte, reduceCtorEq, reduceDIte, Value.oneCell']; refine A_nil ?_; simp only [Thn, InB])
        | (refine A_condt ?_ ?_; focus (simp only [evo, lk, lk1, lk2, Nat.reduceDiv, Nat.reduceMod]; done))
        | (refine A_condf ?_ ?_; focus (simp only [evo, lk, lk1, lk2, Nat.reduceDiv, Nat.reduceMod]; done))
        | (refine A_skip ?_; simp only [Thn, InB])
        | (refine A_exit ?_; simp only [Thn, InB, reduceIte, Nat.reduceEqDiff])
        | refine A_ret ?_)
    refine A_cond rfl (fun h => ?_) (fun h => ?_)
    · have hlt : i < m.length := by simpa using h
      have hlt2 : (i : Int) < (m.length : Int) := by omega
      have hx : (m.map pD)[i]? = some (.v (.string m[i].1) :: vD m[i].2) := by rw [List.getElem?_map, List.getElem?_eq_getElem hlt]; rfl
      have tx := take_len (l := (vD m[i].2).map AV.d) (n := 7) (by rw [List.length_map, vD_len])
      have dx := drop_len (l := vD m[i].2) (n := 7) (vD_len _)
      have lx := vD_len m[i].2
      have sx := set_same hx
      have hw := wrap_succ (i := i) (by omega)
      repeat (first
          | refine A_seq ?_
          | refine A_block ?_
          | (refine A_region (A_run ?_); simp only [go_sem, Nat.reduceLT, Nat.reduceLeDiff, Nat.reduceAdd, Nat.reduceSub, Nat.reduceMul, Nat.reduceEqDiff, Nat.reduceBEq, Nat.reduceBNe, Nat.reduceMod, Nat.reduceDiv, Int.reduceEq, Int.reduceNe, Int.reduceLT, Int.reduceLE, Int.reduceToNat, Int.reduceBEq, Int.reduceBNe, Int.reduceNeg, reduceIte, reduceCtorEq, reduceDIte, Value.oneCell', hx, tx, lx, hlt2]; refine A_nil ?_; simp only [Thn, InB])
          | (refine A_condt ?_ ?_; focus (simp only [evo, lk, lk1, lk2, Nat.reduceDiv, Nat.reduceMod]; done))
          | (refine A_condf ?_ ?_; focus (simp only [evo, lk, lk1, lk2, Nat.reduceDiv, Nat.reduceMod]; done))
          | (refine A_skip ?_; simp only [Thn, InB])
          | (refine A_exit ?_; simp only [Thn, InB, reduceIte, Nat.reduceEqDiff])
          | refine A_ret ?_)
      refine A_region (A_run ?_)
      simp only [go_sem, Nat.reduceLT, Nat.reduceLeDiff, Nat.reduceAdd, Nat.reduceSub, Nat.reduceMul, Nat.reduceEqDiff, Nat.reduceBEq, Nat.reduceBNe, Nat.reduceMod, Nat.reduceDiv, Int.reduceEq, Int.reduceNe, Int.reduceLT, Int.reduceLE, Int.reduceToNat, Int.reduceBEq, Int.reduceBNe, Int.reduceNeg, reduceIte, reduceCtorEq, reduceDIte, Value.oneCell', hx, tx, lx, hlt2]
      (refine A_call (ih m[i] (List.getElem_mem hlt)) rfl rfl rfl rfl (by first | assumption | simp only [go_sem]) rfl (by first | rfl | simp only [noNames, namesAll, AV.names, names_ds, go_sem, List.append_nil, List.cons_append, List.nil_append, Bool.and_self]) ?_; rintro r rfl; refine ⟨(by first | rfl | simp only [noName, namesAll, AV.names, names_ds, go_sem, Bool.and_self]), A_run ?_⟩; simp only [go_sem, Nat.reduceLT, Nat.reduceLeDiff, Nat.reduceAdd, Nat.reduceSub, Nat.reduceMul, Nat.reduceEqDiff, Nat.reduceBEq, Nat.reduceBNe, Nat.reduceMod, Nat.reduceDiv, Int.reduceEq, Int.reduceNe, Int.reduceLT, Int.reduceLE, Int.reduceToNat, Int.reduceBEq, Int.reduceBNe, Int.reduceNeg, reduceIte, reduceCtorEq, reduceDIte, Value.oneCell', hx, tx, lx, hlt2, dx, sx])
      refine A_nil ?_
      simp only [Thn, InB]
      repeat (first
          | refine A_seq ?_
          | refine A_block ?_
          | (refine A_region (A_run ?_); simp only [go_sem, Nat.reduceLT, Nat.reduceLeDiff, Nat.reduceAdd, Nat.reduceSub, Nat.reduceMul, Nat.reduceEqDiff, Nat.reduceBEq, Nat.reduceBNe, Nat.reduceMod, Nat.reduceDiv, Int.reduceEq, Int.reduceNe, Int.reduceLT, Int.reduceLE, Int.reduceToNat, Int.reduceBEq, Int.reduceBNe, Int.reduceNeg, reduceIte, reduceCtorEq, reduceDIte, Value.oneCell', hw]; refine A_nil ?_; simp only [Thn, InB])
          | (refine A_condt ?_ ?_; focus (simp only [evo, lk, lk1, lk2, Nat.reduceDiv, Nat.reduceMod]; done))
          | (refine A_condf ?_ ?_; focus (simp only [evo, lk, lk1, lk2, Nat.reduceDiv, Nat.reduceMod]; done))
          | (refine A_skip ?_; simp only [Thn, InB])
          | (refine A_exit ?_; simp only [Thn, InB, reduceIte, Nat.reduceEqDiff])
          | refine A_ret ?_)
      refine hR _ ⟨⟨i + 1, by omega⟩, by simp only; omega, ?_⟩
      ((try dsimp only); refine Sb.mk ?_ ?_ ?_ ?_ ?_ ?_; (focus rfl); (focus (repeat (first | exact eSub_nil _ | refine eSub_cons rfl ?_))); (focus exact ⟨_, rfl⟩); (focus (first | exact Nat.zero_le _ | exact Nat.le_refl _)); (focus (first | rfl | simp only [envBelow, List.all_cons, List.all_nil, namesAll, AV.names, names_ds, go_sem])); (focus (first | rfl | simp only [List.all_cons, List.all_nil, boxBelow, namesAll, AV.names, names_ds, go_sem])))
    · have hge : i = m.length := by simp at h; omega
      subst hge
      repeat (first
          | refine A_seq ?_
          | refine A_block ?_
          | (refine A_region (A_run ?_); simp only [go_sem, Nat.reduceLT, Nat.reduceLeDiff, Nat.reduceAdd, Nat.reduceSub, Nat.reduceMul, Nat.reduceEqDiff, Nat.reduceBEq, Nat.reduceBNe, Nat.reduceMod, Nat.reduceDiv, Int.reduceEq, Int.reduceNe, Int.reduceLT, Int.reduceLE, Int.reduceToNat, Int.reduceBEq, Int.reduceBNe, Int.reduceNeg, reduceIte, reduceCtorEq, reduceDIte, Value.oneCell']; refine A_nil ?_; simp only [Thn, InB])
          | (refine A_condt ?_ ?_; focus (simp only [evo, lk, lk1, lk2, Nat.reduceDiv, Nat.reduceMod]; done))
          | (refine A_condf ?_ ?_; focus (simp only [evo, lk, lk1, lk2, Nat.reduceDiv, Nat.reduceMod]; done))
          | (refine A_skip ?_; simp only [Thn, InB])
          | (refine A_exit ?_; simp only [Thn, InB, reduceIte, Nat.reduceEqDiff])
          | refine A_ret ?_)
      exact ⟨_, rfl, _, _, fin_own _ rfl rfl, rfl, rfl⟩
set_option maxHeartbeats 4000000 in
set_option maxRecDepth 100000 in
theorem own_c {W0 : World} : ∀ x : V, APure Tryd.prog W0 66 [va x] (· = .ret (va x)) := by
  intro x
  refine V.ind (p := fun x => APure Tryd.prog W0 66 [va x] (· = .ret (va x))) ?_ x
  intro k s b n f l m hl hm
  refine APure.known fun hk => ?_
  obtain ⟨hb1, hb2⟩ := ab_va (hk (va (.mk k s b n f l m)) (by simp))
  refine A_body Tryd.func66 rfl (by simp [Tryd.ntmps66]) ?_
  simp only [Tryd.ntmps66, Tryd.results66, mkEnv, List.length_nil, va, vD, vDs_map, pDs_map, List.map_cons, List.map_nil]
  repeat (first
      | refine A_seq ?_
      | refine A_block ?_
      | (refine A_region (A_run ?_); simp only [go_sem, Nat.reduceLT, Nat.reduceLeDiff, Nat.reduceAdd, Nat.reduceSub, Nat.reduceMul, Nat.reduceEqDiff, Nat.reduceBEq, Nat.reduceBNe, Nat.reduceMod, Nat.reduceDiv, Int.reduceEq, Int.reduceNe, Int.reduceLT, Int.reduceLE, Int.reduceToNat, Int.reduceBEq, Int.reduceBNe, Int.reduceNeg, reduceIte, reduceCtorEq, reduceDIte, Value.oneCell']; refine A_nil ?_; simp only [Thn, InB])
      | (refine A_condt ?_ ?_; focus (simp only [evo, lk, lk1, lk2, Nat.reduceDiv, Nat.reduceMod]; done))
      | (refine A_condf ?_ ?_; focus (simp only [evo, lk, lk1, lk2, Nat.reduceDiv, Nat.reduceMod]; done))
      | (refine A_skip ?_; simp only [Thn, InB])
      | (refine A_exit ?_; simp only [Thn, InB, reduceIte, Nat.reduceEqDiff])
      | refine A_ret ?_)
  refine A_region (A_run ?_)
  simp only [go_sem, Nat.reduceLT, Nat.reduceLeDiff, Nat.reduceAdd, Nat.reduceSub, Nat.reduceMul, Nat.reduceEqDiff, Nat.reduceBEq, Nat.reduceBNe, Nat.reduceMod, Nat.reduceDiv, Int.reduceEq, Int.reduceNe, Int.reduceLT, Int.reduceLE, Int.reduceToNat, Int.reduceBEq, Int.reduceBNe, Int.reduceNeg, reduceIte, reduceCtorEq, reduceDIte, Value.oneCell']
  refine A_callB [] (clone_v l) rfl rfl rfl rfl (by simp only [go_sem]) rfl (by simp) rfl (fun i b h => by simp at h) rfl ?_
  rintro r L' ⟨rfl, rfl⟩
  refine ⟨rfl, A_run ?_⟩
  simp only [St.aft, killPE, mapE, killP, killPB, killPL, moved, setAll, renB, renA, sg_nil, go_sem, Nat.reduceLT, Nat.reduceLeDiff, Nat.reduceAdd, Nat.reduceSub, Nat.reduceMul, Nat.reduceEqDiff, Nat.reduceBEq, Nat.reduceBNe, Nat.reduceMod, Nat.reduceDiv, Int.reduceEq, Int.reduceNe, Int.reduceLT, Int.reduceLE, Int.reduceToNat, Int.reduceBEq, Int.reduceBNe, Int.reduceNeg, reduceIte, reduceCtorEq, reduceDIte, Value.oneCell']
  refine A_nil ?_
  simp only [Thn, InB]
  repeat (first
      | refine A_seq ?_
      | refine A_block ?_
      | (refine A_region (A_run ?_); simp only [go_sem, Nat.reduceLT, Nat.reduceLeDiff, Nat.reduceAdd, Nat.reduceSub, Nat.reduceMul, Nat.reduceEqDiff, Nat.reduceBEq, Nat.reduceBNe, Nat.reduceMod, Nat.reduceDiv, Int.reduceEq, Int.reduceNe, Int.reduceLT, Int.reduceLE, Int.reduceToNat, Int.reduceBEq, Int.reduceBNe, Int.reduceNeg, reduceIte, reduceCtorEq, reduceDIte, Value.oneCell']; refine A_nil ?_; simp only [Thn, InB])
      | (refine A_condt ?_ ?_; focus (simp only [evo, lk, lk1, lk2, Nat.reduceDiv, Nat.reduceMod]; done))
      | (refine A_condf ?_ ?_; focus (simp only [evo, lk, lk1, lk2, Nat.reduceDiv, Nat.reduceMod]; done))
      | (refine A_skip ?_; simp only [Thn, InB])
      | (refine A_exit ?_; simp only [Thn, InB, reduceIte, Nat.reduceEqDiff])
      | refine A_ret ?_)
  refine A_lp (σ := { i : Nat // i ≤ l.length }) (fun j => ⟨30, ofL [(1, .ptr 0 0), (2, .ptr 1 0), (10, .d (.v (.int .i64 l.length))), (11, .d (.v (.int .i64 (j.1 : Nat))))], [.var [.d (.v (.int .u8 k)), .d (.v (.string s)), .d (.v (.bool b)), .d (.v (.int .i64 n)), .d (.v (.float .f64 f)), .sl 2 7 0 l.length, .d (.rows 8 112 (m.map pD))], .var [.d (.v (.int .u8 0)), .d (.v (.string ByteArray.empty)), .d (.v (.bool false)), .d (.v (.int .i64 0)), .d (.v (.float .f64 0)), .d .e, .d .e], .vec 7 96 (l.map vD)]⟩) (fun j => l.length - j.1) ⟨0, Nat.zero_le _⟩ ?_ ?_
  · ((try dsimp only); refine Sb.mk ?_ ?_ ?_ ?_ ?_ ?_; (focus rfl); (focus (repeat (first | exact eSub_nil _ | refine eSub_cons rfl ?_))); (focus exact ⟨_, rfl⟩); (focus (first | exact Nat.zero_le _ | exact Nat.le_refl _)); (focus (first | rfl | simp only [envBelow, List.all_cons, List.all_nil, namesAll, AV.names, names_ds, go_sem])); (focus (first | rfl | simp only [List.all_cons, List.all_nil, boxBelow, namesAll, AV.names, names_ds, go_sem])))
  · rintro ⟨i, hi⟩ R hR
    simp only
    repeat (first
        | refine A_seq ?_
        | refine A_block ?_
        | (refine A_region (A_run ?_); simp only [go_sem, Nat.reduceLT, Nat.reduceLeDiff, Nat.reduceAdd, Nat.reduceSub, Nat.reduceMul, Nat.reduceEqDiff, Nat.reduceBEq, Nat.reduceBNe, Nat.reduceMod, Nat.reduceDiv, Int.reduceEq, Int.reduceNe, Int.reduceLT, Int.reduceLE, Int.reduceToNat, Int.reduceBEq, Int.reduceBNe, Int.reduceNeg, reduceIte, reduceCtorEq, reduceDIte, Value.oneCell']; refine A_nil ?_; simp only [Thn, InB])
        | (refine A_condt ?_ ?_; focus (simp only [evo, lk, lk1, lk2, Nat.reduceDiv, Nat.reduceMod]; done))
        | (refine A_condf ?_ ?_; focus (simp only [evo, lk, lk1, lk2, Nat.reduceDiv, Nat.reduceMod]; done))
        | (refine A_skip ?_; simp only [Thn, InB])
        | (refine A_exit ?_; simp only [Thn, InB, reduceIte, Nat.reduceEqDiff])
        | refine A_ret ?_)
    refine A_cond rfl (fun h => ?_) (fun h => ?_)
    · have hlt : i < l.length := by simpa using h
      have hlt2 : (i : Int) < (l.length : Int) := by omega
      have hx : (l.map vD)[i]? = some (vD l[i]) := by rw [List.getElem?_map, List.getElem?_eq_getElem hlt]; rfl
      have tx := take_len (l := (vD l[i]).map AV.d) (n := 7) (by rw [List.length_map, vD_len])
      have dx := drop_len (l := vD l[i]) (n := 7) (vD_len _)
      have lx := vD_len l[i]
      have sx := set_same hx
      have hw := wrap_succ (i := i) (by omega)
      repeat (first
          | refine A_seq ?_
          | refine A_block ?_
          | (refine A_region (A_run ?_); simp only [go_sem, Nat.reduceLT, Nat.reduceLeDiff, Nat.reduceAdd, Nat.reduceSub, Nat.reduceMul, Nat.reduceEqDiff, Nat.reduceBEq, Nat.reduceBNe, Nat.reduceMod, Nat.reduceDiv, Int.reduceEq, Int.reduceNe, Int.reduceLT, Int.reduceLE, Int.reduceToNat, Int.reduceBEq, Int.reduceBNe, Int.reduceNeg, reduceIte, reduceCtorEq, reduceDIte, Value.oneCell']; refine A_nil ?_; simp only [Thn, InB])
          | (refine A_condt ?_ ?_; focus (simp only [evo, lk, lk1, lk2, Nat.reduceDiv, Nat.reduceMod]; done))
          | (refine A_condf ?_ ?_; focus (simp only [evo, lk, lk1, lk2, Nat.reduceDiv, Nat.reduceMod]; done))
          | (refine A_skip ?_; simp only [Thn, InB])
          | (refine A_exit ?_; simp only [Thn, InB, reduceIte, Nat.reduceEqDiff])
          | refine A_ret ?_)
      refine A_drawn (gs := [none, none, none, none, none, none, none, none, none, none]) 10 [] mixedO (by simp only [List.take_succ_cons, List.take_zero] <;> rfl) (by kernel_rfl) (by kernel_rfl) rfl (by decide) (aqg_run ?_)
      simp only [runG, stepG_n, stepG_s, opW, bsD, opV, mkOp, resE_ap, resA, go_sem, Nat.reduceLT, Nat.reduceLeDiff, Nat.reduceAdd, Nat.reduceSub, Nat.reduceMul, Nat.reduceEqDiff, Nat.reduceBEq, Nat.reduceBNe, Nat.reduceMod, Nat.reduceDiv, Int.reduceEq, Int.reduceNe, Int.reduceLT, Int.reduceLE, Int.reduceToNat, Int.reduceBEq, Int.reduceBNe, Int.reduceNeg, reduceIte, reduceCtorEq, reduceDIte, Value.oneCell', hx, tx, lx, hlt2]
      (try (refine aqg_nil ?_))
      (refine aqg_call (caps := []) (hl l[i] (List.getElem_mem hlt)) rfl rfl rfl (by first | assumption | simp only [go_sem]) (by first | rfl | simp only [noNames, namesAll, AV.names, names_ds, go_sem, List.append_nil, List.cons_append, List.nil_append, Bool.and_self]) (by first | rfl | simp only [noName, namesAll, AV.names, names_ds, go_sem, Bool.and_self]) ?_)
      refine aqg_run ?_
      simp only [runG, stepG_n, stepG_s, opW, bsD, opV, mkOp, resE_ap, resA, go_sem, Nat.reduceLT, Nat.reduceLeDiff, Nat.reduceAdd, Nat.reduceSub, Nat.reduceMul, Nat.reduceEqDiff, Nat.reduceBEq, Nat.reduceBNe, Nat.reduceMod, Nat.reduceDiv, Int.reduceEq, Int.reduceNe, Int.reduceLT, Int.reduceLE, Int.reduceToNat, Int.reduceBEq, Int.reduceBNe, Int.reduceNeg, reduceIte, reduceCtorEq, reduceDIte, Value.oneCell', hx, tx, lx, hlt2]
      refine aqg_nil ?_
      refine T_one 10 _ (by kernel_rfl) (by simp only [List.getElem?_toArray, List.getElem?_cons_succ, List.getElem?_cons_zero] <;> rfl) (by rfl) (by rfl) (A_run ?_)
      simp only [go_sem, Nat.reduceLT, Nat.reduceLeDiff, Nat.reduceAdd, Nat.reduceSub, Nat.reduceMul, Nat.reduceEqDiff, Nat.reduceBEq, Nat.reduceBNe, Nat.reduceMod, Nat.reduceDiv, Int.reduceEq, Int.reduceNe, Int.reduceLT, Int.reduceLE, Int.reduceToNat, Int.reduceBEq, Int.reduceBNe, Int.reduceNeg, reduceIte, reduceCtorEq, reduceDIte, Value.oneCell', hx, tx, lx, hlt2, dx, sx]
      refine A_nil ?_
      refine ⟨rfl, rfl, ?_⟩
      refine T_nil (by kernel_rfl) ?_
      simp only [Thn, InB]
      repeat (first
          | refine A_seq ?_
          | refine A_block ?_
          | (refine A_region (A_run ?_); simp only [go_sem, Nat.reduceLT, Nat.reduceLeDiff, Nat.reduceAdd, Nat.reduceSub, Nat.reduceMul, Nat.reduceEqDiff, Nat.reduceBEq, Nat.reduceBNe, Nat.reduceMod, Nat.reduceDiv, Int.reduceEq, Int.reduceNe, Int.reduceLT, Int.reduceLE, Int.reduceToNat, Int.reduceBEq, Int.reduceBNe, Int.reduceNeg, reduceIte, reduceCtorEq, reduceDIte, Value.oneCell', hw]; refine A_nil ?_; simp only [Thn, InB])
          | (refine A_condt ?_ ?_; focus (simp only [evo, lk, lk1, lk2, Nat.reduceDiv, Nat.reduceMod]; done))
          | (refine A_condf ?_ ?_; focus (simp only [evo, lk, lk1, lk2, Nat.reduceDiv, Nat.reduceMod]; done))
          | (refine A_skip ?_; simp only [Thn, InB])
          | (refine A_exit ?_; simp only [Thn, InB, reduceIte, Nat.reduceEqDiff])
          | refine A_ret ?_)
      refine hR _ ⟨⟨i + 1, by omega⟩, by simp only; omega, ?_⟩
      ((try dsimp only); refine Sb.mk ?_ ?_ ?_ ?_ ?_ ?_; (focus rfl); (focus (repeat (first | exact eSub_nil _ | refine eSub_cons rfl ?_))); (focus exact ⟨_, rfl⟩); (focus (first | exact Nat.zero_le _ | exact Nat.le_refl _)); (focus (first | rfl | simp only [envBelow, List.all_cons, List.all_nil, namesAll, AV.names, names_ds, go_sem])); (focus (first | rfl | simp only [List.all_cons, List.all_nil, boxBelow, namesAll, AV.names, names_ds, go_sem])))
    · have hge : i = l.length := by simp at h; omega
      subst hge
      repeat (first
          | refine A_seq ?_
          | refine A_block ?_
          | (refine A_region (A_run ?_); simp only [go_sem, Nat.reduceLT, Nat.reduceLeDiff, Nat.reduceAdd, Nat.reduceSub, Nat.reduceMul, Nat.reduceEqDiff, Nat.reduceBEq, Nat.reduceBNe, Nat.reduceMod, Nat.reduceDiv, Int.reduceEq, Int.reduceNe, Int.reduceLT, Int.reduceLE, Int.reduceToNat, Int.reduceBEq, Int.reduceBNe, Int.reduceNeg, reduceIte, reduceCtorEq, reduceDIte, Value.oneCell']; refine A_nil ?_; simp only [Thn, InB])
          | (refine A_condt ?_ ?_; focus (simp only [evo, lk, lk1, lk2, Nat.reduceDiv, Nat.reduceMod]; done))
          | (refine A_condf ?_ ?_; focus (simp only [evo, lk, lk1, lk2, Nat.reduceDiv, Nat.reduceMod]; done))
          | (refine A_skip ?_; simp only [Thn, InB])
          | (refine A_exit ?_; simp only [Thn, InB, reduceIte, Nat.reduceEqDiff])
          | refine A_ret ?_)
      refine A_sub _ (Sb.freeze 2 rfl (Nat.zero_le _)) ?_
      simp only [fzE, mapE, fzA, fzL, fzB, go_sem, Nat.reduceLT, Nat.reduceLeDiff, Nat.reduceAdd, Nat.reduceSub, Nat.reduceMul, Nat.reduceEqDiff, Nat.reduceBEq, Nat.reduceBNe, Nat.reduceMod, Nat.reduceDiv, Int.reduceEq, Int.reduceNe, Int.reduceLT, Int.reduceLE, Int.reduceToNat, Int.reduceBEq, Int.reduceBNe, Int.reduceNeg, reduceIte, reduceCtorEq, reduceDIte, Value.oneCell', take_len (l := l.map vD) (n := l.length) (List.length_map ..)]
      refine A_region (A_run ?_)
      simp only [go_sem, Nat.reduceLT, Nat.reduceLeDiff, Nat.reduceAdd, Nat.reduceSub, Nat.reduceMul, Nat.reduceEqDiff, Nat.reduceBEq, Nat.reduceBNe, Nat.reduceMod, Nat.reduceDiv, Int.reduceEq, Int.reduceNe, Int.reduceLT, Int.reduceLE, Int.reduceToNat, Int.reduceBEq, Int.reduceBNe, Int.reduceNeg, reduceIte, reduceCtorEq, reduceDIte, Value.oneCell']
      refine A_callB [] (ownPairs_of m hm) rfl rfl rfl rfl (by simp only [go_sem]) rfl (by simp) rfl (fun i b h => by simp at h) rfl ?_
      rintro r L' ⟨rfl, rfl⟩
      refine ⟨rfl, ?_⟩
      simp only [St.aft, killPE, mapE, killP, killPB, killPL, moved, setAll, renB, renA, sg_nil, go_sem, Nat.reduceLT, Nat.reduceLeDiff, Nat.reduceAdd, Nat.reduceSub, Nat.reduceMul, Nat.reduceEqDiff, Nat.reduceBEq, Nat.reduceBNe, Nat.reduceMod, Nat.reduceDiv, Int.reduceEq, Int.reduceNe, Int.reduceLT, Int.reduceLE, Int.reduceToNat, Int.reduceBEq, Int.reduceBNe, Int.reduceNeg, reduceIte, reduceCtorEq, reduceDIte, Value.oneCell']
      refine O_sub _ (Sb.freeze 3 rfl (Nat.zero_le _)) (A_run ?_)
      simp only [fzE, mapE, fzA, fzL, fzB, go_sem, Nat.reduceLT, Nat.reduceLeDiff, Nat.reduceAdd, Nat.reduceSub, Nat.reduceMul, Nat.reduceEqDiff, Nat.reduceBEq, Nat.reduceBNe, Nat.reduceMod, Nat.reduceDiv, Int.reduceEq, Int.reduceNe, Int.reduceLT, Int.reduceLE, Int.reduceToNat, Int.reduceBEq, Int.reduceBNe, Int.reduceNeg, reduceIte, reduceCtorEq, reduceDIte, Value.oneCell', take_len (l := m.map pD) (n := m.length) (List.length_map ..)]
      refine A_nil ?_
      simp only [Thn, InB]
      repeat (first
          | refine A_seq ?_
          | refine A_block ?_
          | (refine A_region (A_run ?_); simp only [go_sem, Nat.reduceLT, Nat.reduceLeDiff, Nat.reduceAdd, Nat.reduceSub, Nat.reduceMul, Nat.reduceEqDiff, Nat.reduceBEq, Nat.reduceBNe, Nat.reduceMod, Nat.reduceDiv, Int.reduceEq, Int.reduceNe, Int.reduceLT, Int.reduceLE, Int.reduceToNat, Int.reduceBEq, Int.reduceBNe, Int.reduceNeg, reduceIte, reduceCtorEq, reduceDIte, Value.oneCell']; refine A_nil ?_; simp only [Thn, InB])
          | (refine A_condt ?_ ?_; focus (simp only [evo, lk, lk1, lk2, Nat.reduceDiv, Nat.reduceMod]; done))
          | (refine A_condf ?_ ?_; focus (simp only [evo, lk, lk1, lk2, Nat.reduceDiv, Nat.reduceMod]; done))
          | (refine A_skip ?_; simp only [Thn, InB])
          | (refine A_exit ?_; simp only [Thn, InB, reduceIte, Nat.reduceEqDiff])
          | refine A_ret ?_)
      exact ⟨_, rfl, _, _, fin_pure rfl (Le.refl _), rfl, rfl⟩
end Go.Proofs.YtbgfiflnfndckaaDoor.Lift

/- The lift: Get, Put of attributes. No conditions. -/
set_option linter.unusedVariables false
set_option linter.unusedSimpArgs false
namespace Go.Proofs.YtbgfiflnfndckaaDoor.Lift
open Go Go.RowKit

/-- The first place of an element that is so. -/
def fI {α : Type} (p : α → Bool) : List α → Option Nat
  | [] => none
  | x :: l => if p x = true then some 0 else (fI p l).map (· + 1)
theorem fI_hit {α : Type} {p : α → Bool} : ∀ {l : List α} {i : Nat} {x : α}, (l.take i).any p = false → l[i]? = some x → p x = true → fI p l = some i
  | [], i, x, _, h, _ => by simp at h
  | y :: l, 0, x, _, h, hp => by
    simp only [List.getElem?_cons_zero, Option.some.injEq] at h
    subst h
    simp [fI, hp]
  | y :: l, i + 1, x, h0, h, hp => by
    simp only [List.take_succ_cons, List.any_cons, Bool.or_eq_false_iff] at h0
    simp only [fI, h0.1, Bool.false_eq_true, if_false]
    rw [fI_hit h0.2 (by simpa using h) hp]
    rfl
theorem fI_none {α : Type} {p : α → Bool} : ∀ {l : List α}, l.any p = false → fI p l = none
  | [], _ => rfl
  | y :: l, h => by
    simp only [List.any_cons, Bool.or_eq_false_iff] at h
    simp only [fI, h.1, Bool.false_eq_true, if_false, fI_none h.2, Option.map_none]
theorem fI_some {α : Type} {p : α → Bool} : ∀ {l : List α} {i : Nat}, fI p l = some i → ∃ x, l[i]? = some x ∧ p x = true
  | [], i, h => by simp [fI] at h
  | y :: l, i, h => by
    simp only [fI] at h
    split at h
    · rename_i hp
      cases h
      exact ⟨y, rfl, hp⟩
    · simp only [Option.map_eq_some_iff] at h
      obtain ⟨j, hj, rfl⟩ := h
      obtain ⟨x, h1, h2⟩ := fI_some hj
      exact ⟨x, by simpa using h1, h2⟩
def fN (o : Option Nat) : Int := match o with | some i => (i : Int) | none => -1
def isK (key : ByteArray) (p : ByteArray × V) : Bool := p.1.toList == key.toList
def kf (key : ByteArray) : AV := .fn 89 [.dp [.v (.string key)]]

set_option maxHeartbeats 4000000 in
set_option maxRecDepth 100000 in
theorem named_c {W0 : World} (key : ByteArray) : APure Tryd.prog W0 65 [.d (.v (.string key))] (· = .ret (kf key)) := by
  refine A_body Tryd.func65 rfl (by simp [Tryd.ntmps65]) ?_
  simp only [Tryd.ntmps65, Tryd.results65, mkEnv, List.length_nil]
  refine A_seq (A_region (A_run ?_))
  simp only [go_sem, Nat.reduceLT, Nat.reduceLeDiff, Nat.reduceAdd, Nat.reduceSub, Nat.reduceMul, Nat.reduceEqDiff, Nat.reduceBEq, Nat.reduceBNe, Nat.reduceMod, Nat.reduceDiv, Int.reduceEq, Int.reduceNe, Int.reduceLT, Int.reduceLE, Int.reduceToNat, Int.reduceBEq, Int.reduceBNe, Int.reduceNeg, reduceIte, reduceCtorEq, reduceDIte, Value.oneCell']
  refine A_nil ?_
  simp only [Thn, InB]
  refine A_sub _ (Sb.freezeV 0 rfl rfl (Nat.zero_le _)) ?_
  simp only [fvE, mapE, fvA, fvL, fvB, go_sem, Nat.reduceLT, Nat.reduceLeDiff, Nat.reduceAdd, Nat.reduceSub, Nat.reduceMul, Nat.reduceEqDiff, Nat.reduceBEq, Nat.reduceBNe, Nat.reduceMod, Nat.reduceDiv, Int.reduceEq, Int.reduceNe, Int.reduceLT, Int.reduceLE, Int.reduceToNat, Int.reduceBEq, Int.reduceBNe, Int.reduceNeg, reduceIte, reduceCtorEq, reduceDIte, Value.oneCell']
  repeat (first
      | refine A_seq ?_
      | refine A_block ?_
      | (refine A_region (A_run ?_); simp only [go_sem, Nat.reduceLT, Nat.reduceLeDiff, Nat.reduceAdd, Nat.reduceSub, Nat.reduceMul, Nat.reduceEqDiff, Nat.reduceBEq, Nat.reduceBNe, Nat.reduceMod, Nat.reduceDiv, Int.reduceEq, Int.reduceNe, Int.reduceLT, Int.reduceLE, Int.reduceToNat, Int.reduceBEq, Int.reduceBNe, Int.reduceNeg, reduceIte, reduceCtorEq, reduceDIte, Value.oneCell']; refine A_nil ?_; simp only [Thn, InB])
      | (refine A_condt ?_ ?_; focus (simp only [evo, lk, lk1, lk2, Nat.reduceDiv, Nat.reduceMod]; done))
      | (refine A_condf ?_ ?_; focus (simp only [evo, lk, lk1, lk2, Nat.reduceDiv, Nat.reduceMod]; done))
      | (refine A_skip ?_; simp only [Thn, InB])
      | (refine A_exit ?_; simp only [Thn, InB, reduceIte, Nat.reduceEqDiff])
      | refine A_ret ?_)
  exact ⟨_, rfl, _, _, fin_pure rfl (Le.refl _), rfl, rfl⟩
set_option maxHeartbeats 4000000 in
set_option maxRecDepth 100000 in
theorem isK_c {W0 : World} (key : ByteArray) (p : ByteArray × V) : APure Tryd.prog W0 89 [pa p, .dp [.v (.string key)]] (· = .ret (.d (.v (.bool (isK key p))))) := by
  refine A_body Tryd.func89 rfl (by simp [Tryd.ntmps89]) ?_
  simp only [Tryd.ntmps89, Tryd.results89, mkEnv, List.length_nil, pa, pD, List.map_cons]
  have tx := take_len (l := (vD p.2).map AV.d) (n := 7) (by rw [List.length_map, vD_len])
  have lx := vD_len p.2
  repeat (first
      | refine A_seq ?_
      | refine A_block ?_
      | (refine A_region (A_run ?_); simp only [go_sem, Nat.reduceLT, Nat.reduceLeDiff, Nat.reduceAdd, Nat.reduceSub, Nat.reduceMul, Nat.reduceEqDiff, Nat.reduceBEq, Nat.reduceBNe, Nat.reduceMod, Nat.reduceDiv, Int.reduceEq, Int.reduceNe, Int.reduceLT, Int.reduceLE, Int.reduceToNat, Int.reduceBEq, Int.reduceBNe, Int.reduceNeg, reduceIte, reduceCtorEq, reduceDIte, Value.oneCell', tx, lx]; refine A_nil ?_; simp only [Thn, InB])
      | (refine A_condt ?_ ?_; focus (simp only [evo, lk, lk1, lk2, Nat.reduceDiv, Nat.reduceMod]; done))
      | (refine A_condf ?_ ?_; focus (simp only [evo, lk, lk1, lk2, Nat.reduceDiv, Nat.reduceMod]; done))
      | (refine A_skip ?_; simp only [Thn, InB])
      | (refine A_exit ?_; simp only [Thn, InB, reduceIte, Nat.reduceEqDiff])
      | refine A_ret ?_)
  exact ⟨_, rfl, _, _, fin_pure rfl (Le.refl _), rfl, rfl⟩
set_option maxHeartbeats 4000000 in
set_option maxRecDepth 100000 in
theorem ixf_c {W0 : World} (key : ByteArray) (m : List (ByteArray × V)) : APure Tryd.prog W0 64 [rP m, kf key] (· = .ret (.d (.v (.int .i64 (fN (fI (isK key) m)))))) := by
  refine APure.known fun hk => ?_
  have hb47 := ab_rP (hk (rP m) (by simp))
  refine A_body Tryd.func64 rfl (by simp [Tryd.ntmps64]) ?_
  simp only [Tryd.ntmps64, Tryd.results64, mkEnv, List.length_nil, rP, kf]
  repeat (first
      | refine A_seq ?_
      | refine A_block ?_
      | (refine A_region (A_run ?_); simp only [go_sem, Nat.reduceLT, Nat.reduceLeDiff, Nat.reduceAdd, Nat.reduceSub, Nat.reduceMul, Nat.reduceEqDiff, Nat.reduceBEq, Nat.reduceBNe, Nat.reduceMod, Nat.reduceDiv, Int.reduceEq, Int.reduceNe, Int.reduceLT, Int.reduceLE, Int.reduceToNat, Int.reduceBEq, Int.reduceBNe, Int.reduceNeg, reduceIte, reduceCtorEq, reduceDIte, Value.oneCell']; refine A_nil ?_; simp only [Thn, InB])
      | (refine A_condt ?_ ?_; focus (simp only [evo, lk, lk1, lk2, Nat.reduceDiv, Nat.reduceMod]; done))
      | (refine A_condf ?_ ?_; focus (simp only [evo, lk, lk1, lk2, Nat.reduceDiv, Nat.reduceMod]; done))
      | (refine A_skip ?_; simp only [Thn, InB])
      | (refine A_exit ?_; simp only [Thn, InB, reduceIte, Nat.reduceEqDiff])
      | refine A_ret ?_)
  refine A_lp (σ := { i : Nat // i ≤ m.length ∧ (m.take i).any (isK key) = false }) (fun s => ⟨19, ofL [(0, .d (.rows 8 112 (m.map pD))), (1, .fn 89 [.dp [.v (.string key)]]), (7, .d (.v (.int .i64 m.length))), (8, .d (.v (.int .i64 (s.1 : Nat))))], []⟩) (fun s => m.length - s.1) ⟨0, Nat.zero_le _, rfl⟩ ?_ ?_
  · ((try dsimp only); refine Sb.mk ?_ ?_ ?_ ?_ ?_ ?_; (focus rfl); (focus (repeat (first | exact eSub_nil _ | refine eSub_cons rfl ?_))); (focus exact ⟨_, rfl⟩); (focus (first | exact Nat.zero_le _ | exact Nat.le_refl _)); (focus (first | rfl | simp only [envBelow, List.all_cons, List.all_nil, namesAll, AV.names, names_ds, go_sem])); (focus (first | rfl | simp only [List.all_cons, List.all_nil, boxBelow, namesAll, AV.names, names_ds, go_sem])))
  · rintro ⟨i, hi, hpre⟩ R hR
    simp only
    repeat (first
        | refine A_seq ?_
        | refine A_block ?_
        | (refine A_region (A_run ?_); simp only [go_sem, Nat.reduceLT, Nat.reduceLeDiff, Nat.reduceAdd, Nat.reduceSub, Nat.reduceMul, Nat.reduceEqDiff, Nat.reduceBEq, Nat.reduceBNe, Nat.reduceMod, Nat.reduceDiv, Int.reduceEq, Int.reduceNe, Int.reduceLT, Int.reduceLE, Int.reduceToNat, Int.reduceBEq, Int.reduceBNe, Int.reduceNeg, reduceIte, reduceCtorEq, reduceDIte, Value.oneCell']; refine A_nil ?_; simp only [Thn, InB])
        | (refine A_condt ?_ ?_; focus (simp only [evo, lk, lk1, lk2, Nat.reduceDiv, Nat.reduceMod]; done))
        | (refine A_condf ?_ ?_; focus (simp only [evo, lk, lk1, lk2, Nat.reduceDiv, Nat.reduceMod]; done))
        | (refine A_skip ?_; simp only [Thn, InB])
        | (refine A_exit ?_; simp only [Thn, InB, reduceIte, Nat.reduceEqDiff])
        | refine A_ret ?_)
    refine A_cond rfl (fun h => ?_) (fun h => ?_)
    · have hlt : i < m.length := by simpa using h
      have hx : (m.map pD)[i]? = some (.v (.string m[i].1) :: vD m[i].2) := by rw [List.getElem?_map, List.getElem?_eq_getElem hlt]; rfl
      have tx := take_len (l := (vD m[i].2).map AV.d) (n := 7) (by rw [List.length_map, vD_len])
      have lx := vD_len m[i].2
      have hw := wrap_succ (i := i) (by omega)
      repeat (first
          | refine A_seq ?_
          | refine A_block ?_
          | (refine A_region (A_run ?_); simp only [go_sem, Nat.reduceLT, Nat.reduceLeDiff, Nat.reduceAdd, Nat.reduceSub, Nat.reduceMul, Nat.reduceEqDiff, Nat.reduceBEq, Nat.reduceBNe, Nat.reduceMod, Nat.reduceDiv, Int.reduceEq, Int.reduceNe, Int.reduceLT, Int.reduceLE, Int.reduceToNat, Int.reduceBEq, Int.reduceBNe, Int.reduceNeg, reduceIte, reduceCtorEq, reduceDIte, Value.oneCell', hx, tx, lx]; refine A_nil ?_; simp only [Thn, InB])
          | (refine A_condt ?_ ?_; focus (simp only [evo, lk, lk1, lk2, Nat.reduceDiv, Nat.reduceMod]; done))
          | (refine A_condf ?_ ?_; focus (simp only [evo, lk, lk1, lk2, Nat.reduceDiv, Nat.reduceMod]; done))
          | (refine A_skip ?_; simp only [Thn, InB])
          | (refine A_exit ?_; simp only [Thn, InB, reduceIte, Nat.reduceEqDiff])
          | refine A_ret ?_)
      refine A_region (A_run ?_)
      simp only [go_sem, Nat.reduceLT, Nat.reduceLeDiff, Nat.reduceAdd, Nat.reduceSub, Nat.reduceMul, Nat.reduceEqDiff, Nat.reduceBEq, Nat.reduceBNe, Nat.reduceMod, Nat.reduceDiv, Int.reduceEq, Int.reduceNe, Int.reduceLT, Int.reduceLE, Int.reduceToNat, Int.reduceBEq, Int.reduceBNe, Int.reduceNeg, reduceIte, reduceCtorEq, reduceDIte, Value.oneCell', hx, tx, lx]
      (refine A_call (isK_c key m[i]) rfl rfl rfl rfl (by first | assumption | simp only [go_sem]) rfl (by first | rfl | simp only [noNames, namesAll, AV.names, names_ds, go_sem, List.append_nil, List.cons_append, List.nil_append, Bool.and_self]) ?_; rintro r rfl; refine ⟨(by first | rfl | simp only [noName, namesAll, AV.names, names_ds, go_sem, Bool.and_self]), A_run ?_⟩; simp only [go_sem, Nat.reduceLT, Nat.reduceLeDiff, Nat.reduceAdd, Nat.reduceSub, Nat.reduceMul, Nat.reduceEqDiff, Nat.reduceBEq, Nat.reduceBNe, Nat.reduceMod, Nat.reduceDiv, Int.reduceEq, Int.reduceNe, Int.reduceLT, Int.reduceLE, Int.reduceToNat, Int.reduceBEq, Int.reduceBNe, Int.reduceNeg, reduceIte, reduceCtorEq, reduceDIte, Value.oneCell'])
      refine A_nil ?_
      simp only [Thn, InB]
      refine A_cond rfl (fun h => ?_) (fun h => ?_)
      · have hp : isK key m[i] = true := h
        repeat (first
            | refine A_seq ?_
            | refine A_block ?_
            | (refine A_region (A_run ?_); simp only [go_sem, Nat.reduceLT, Nat.reduceLeDiff, Nat.reduceAdd, Nat.reduceSub, Nat.reduceMul, Nat.reduceEqDiff, Nat.reduceBEq, Nat.reduceBNe, Nat.reduceMod, Nat.reduceDiv, Int.reduceEq, Int.reduceNe, Int.reduceLT, Int.reduceLE, Int.reduceToNat, Int.reduceBEq, Int.reduceBNe, Int.reduceNeg, reduceIte, reduceCtorEq, reduceDIte, Value.oneCell']; refine A_nil ?_; simp only [Thn, InB])
            | (refine A_condt ?_ ?_; focus (simp only [evo, lk, lk1, lk2, Nat.reduceDiv, Nat.reduceMod]; done))
            | (refine A_condf ?_ ?_; focus (simp only [evo, lk, lk1, lk2, Nat.reduceDiv, Nat.reduceMod]; done))
            | (refine A_skip ?_; simp only [Thn, InB])
            | (refine A_exit ?_; simp only [Thn, InB, reduceIte, Nat.reduceEqDiff])
            | refine A_ret ?_)
        exact ⟨_, rfl, _, _, fin_pure rfl (Le.refl _), by rw [fI_hit hpre (List.getElem?_eq_getElem hlt) hp]; rfl, rfl⟩
      · have hp : isK key m[i] = false := h
        repeat (first
            | refine A_seq ?_
            | refine A_block ?_
            | (refine A_region (A_run ?_); simp only [go_sem, Nat.reduceLT, Nat.reduceLeDiff, Nat.reduceAdd, Nat.reduceSub, Nat.reduceMul, Nat.reduceEqDiff, Nat.reduceBEq, Nat.reduceBNe, Nat.reduceMod, Nat.reduceDiv, Int.reduceEq, Int.reduceNe, Int.reduceLT, Int.reduceLE, Int.reduceToNat, Int.reduceBEq, Int.reduceBNe, Int.reduceNeg, reduceIte, reduceCtorEq, reduceDIte, Value.oneCell', hw]; refine A_nil ?_; simp only [Thn, InB])
            | (refine A_condt ?_ ?_; focus (simp only [evo, lk, lk1, lk2, Nat.reduceDiv, Nat.reduceMod]; done))
            | (refine A_condf ?_ ?_; focus (simp only [evo, lk, lk1, lk2, Nat.reduceDiv, Nat.reduceMod]; done))
            | (refine A_skip ?_; simp only [Thn, InB])
            | (refine A_exit ?_; simp only [Thn, InB, reduceIte, Nat.reduceEqDiff])
            | refine A_ret ?_)
        refine hR _ ⟨⟨i + 1, by omega, ?_⟩, by simp only; omega, ?_⟩
        · show (m.take (i + 1)).any (isK key) = false
          rw [List.take_add_one, List.getElem?_eq_getElem hlt, List.any_append, hpre]
          simp only [Option.toList_some, List.any_cons, List.any_nil, hp, Bool.or_false]
        ((try dsimp only); refine Sb.mk ?_ ?_ ?_ ?_ ?_ ?_; (focus rfl); (focus (repeat (first | exact eSub_nil _ | refine eSub_cons rfl ?_))); (focus exact ⟨_, rfl⟩); (focus (first | exact Nat.zero_le _ | exact Nat.le_refl _)); (focus (first | rfl | simp only [envBelow, List.all_cons, List.all_nil, namesAll, AV.names, names_ds, go_sem])); (focus (first | rfl | simp only [List.all_cons, List.all_nil, boxBelow, namesAll, AV.names, names_ds, go_sem])))
    · have hge : i = m.length := by simp at h; omega
      subst hge
      repeat (first
          | refine A_seq ?_
          | refine A_block ?_
          | (refine A_region (A_run ?_); simp only [go_sem, Nat.reduceLT, Nat.reduceLeDiff, Nat.reduceAdd, Nat.reduceSub, Nat.reduceMul, Nat.reduceEqDiff, Nat.reduceBEq, Nat.reduceBNe, Nat.reduceMod, Nat.reduceDiv, Int.reduceEq, Int.reduceNe, Int.reduceLT, Int.reduceLE, Int.reduceToNat, Int.reduceBEq, Int.reduceBNe, Int.reduceNeg, reduceIte, reduceCtorEq, reduceDIte, Value.oneCell']; refine A_nil ?_; simp only [Thn, InB])
          | (refine A_condt ?_ ?_; focus (simp only [evo, lk, lk1, lk2, Nat.reduceDiv, Nat.reduceMod]; done))
          | (refine A_condf ?_ ?_; focus (simp only [evo, lk, lk1, lk2, Nat.reduceDiv, Nat.reduceMod]; done))
          | (refine A_skip ?_; simp only [Thn, InB])
          | (refine A_exit ?_; simp only [Thn, InB, reduceIte, Nat.reduceEqDiff])
          | refine A_ret ?_)
      exact ⟨_, rfl, _, _, fin_pure rfl (Le.refl _), by rw [fI_none (by simpa using hpre)]; rfl, rfl⟩
end Go.Proofs.YtbgfiflnfndckaaDoor.Lift

/- The lift: Get, Put. No conditions but the room that one pair more takes. -/
set_option linter.unusedVariables false
set_option linter.unusedSimpArgs false
namespace Go.Proofs.YtbgfiflnfndckaaDoor.Lift
open Go Go.RowKit

def V0 : V := .mk 0 ByteArray.empty false 0 0 [] []
/-- What a key has. -/
def getV (key : ByteArray) (m : List (ByteArray × V)) : V × Bool := match (fI (isK key) m).bind (m[·]?) with | some p => (p.2, true) | none => (V0, false)
def putV (key : ByteArray) (v : V) (m : List (ByteArray × V)) : List (ByteArray × V) := match fI (isK key) m with | some i => m.set i (((m[i]?).map (·.1)).getD key, v) | none => m ++ [(key, v)]

theorem va0_le : Le (.agg [.d (.v (.int .u8 0)), .d (.v (.string ByteArray.empty)), .d (.v (.bool false)), .d (.v (.int .i64 0)), .d (.v (.float .f64 0)), .d .e, .d .e]) (va V0) := by
  simp only [va, V0, vD, vDs, pDs, List.map_cons, List.map_nil]
  intro M m w u h
  simp only [RA, RAs] at h ⊢
  obtain ⟨us, rfl, h⟩ := h
  refine ⟨us, rfl, ?_⟩
  match hu : us.toList, h with
  | [u0, u1, u2, u3, u4, u5, u6], h =>
    simp only [RAs] at h ⊢
    simp only [RA] at h ⊢
    exact ⟨h.1, h.2.1, h.2.2.1, h.2.2.2.1, h.2.2.2.2.1, h.2.2.2.2.2.1.nil 7 96 (by decide), h.2.2.2.2.2.2.1.nil 8 112 (by decide), trivial⟩

set_option maxHeartbeats 4000000 in
set_option maxRecDepth 100000 in
theorem get_c {W0 : World} (key : ByteArray) (m : List (ByteArray × V)) : APure Tryd.prog W0 29 [rP m, .d (.v (.string key))] (· = .ret (.tup [va (getV key m).1, .d (.v (.bool (getV key m).2))])) := by
  have hix := ixf_c (W0 := W0) key m
  refine A_body Tryd.func29 rfl (by simp [Tryd.ntmps29]) ?_
  simp only [Tryd.ntmps29, Tryd.results29, mkEnv, List.length_nil, rP]
  repeat (first
      | refine A_seq ?_
      | refine A_block ?_
      | (refine A_region (A_run ?_); simp only [go_sem, Nat.reduceLT, Nat.reduceLeDiff, Nat.reduceAdd, Nat.reduceSub, Nat.reduceMul, Nat.reduceEqDiff, Nat.reduceBEq, Nat.reduceBNe, Nat.reduceMod, Nat.reduceDiv, Int.reduceEq, Int.reduceNe, Int.reduceLT, Int.reduceLE, Int.reduceToNat, Int.reduceBEq, Int.reduceBNe, Int.reduceNeg, reduceIte, reduceCtorEq, reduceDIte, Value.oneCell']; refine A_nil ?_; simp only [Thn, InB])
      | (refine A_condt ?_ ?_; focus (simp only [evo, lk, lk1, lk2, Nat.reduceDiv, Nat.reduceMod]; done))
      | (refine A_condf ?_ ?_; focus (simp only [evo, lk, lk1, lk2, Nat.reduceDiv, Nat.reduceMod]; done))
      | (refine A_skip ?_; simp only [Thn, InB])
      | (refine A_exit ?_; simp only [Thn, InB, reduceIte, Nat.reduceEqDiff])
      | refine A_ret ?_)
  refine A_region (A_run ?_)
  simp only [go_sem, Nat.reduceLT, Nat.reduceLeDiff, Nat.reduceAdd, Nat.reduceSub, Nat.reduceMul, Nat.reduceEqDiff, Nat.reduceBEq, Nat.reduceBNe, Nat.reduceMod, Nat.reduceDiv, Int.reduceEq, Int.reduceNe, Int.reduceLT, Int.reduceLE, Int.reduceToNat, Int.reduceBEq, Int.reduceBNe, Int.reduceNeg, reduceIte, reduceCtorEq, reduceDIte, Value.oneCell']
  (refine A_call (named_c key) rfl rfl rfl rfl (by first | assumption | simp only [go_sem]) rfl (by first | rfl | simp only [noNames, namesAll, AV.names, names_ds, go_sem, List.append_nil, List.cons_append, List.nil_append, Bool.and_self]) ?_; rintro r rfl; refine ⟨(by first | rfl | simp only [noName, namesAll, AV.names, names_ds, go_sem, Bool.and_self]), A_run ?_⟩; simp only [go_sem, Nat.reduceLT, Nat.reduceLeDiff, Nat.reduceAdd, Nat.reduceSub, Nat.reduceMul, Nat.reduceEqDiff, Nat.reduceBEq, Nat.reduceBNe, Nat.reduceMod, Nat.reduceDiv, Int.reduceEq, Int.reduceNe, Int.reduceLT, Int.reduceLE, Int.reduceToNat, Int.reduceBEq, Int.reduceBNe, Int.reduceNeg, reduceIte, reduceCtorEq, reduceDIte, Value.oneCell', kf])
  simp only [kf, rP] at hix
  cases ho : fI (isK key) m with
  | none =>
    rw [ho] at hix
    simp only [fN] at hix
    (refine A_call (hix) rfl rfl rfl rfl (by first | assumption | simp only [go_sem]) rfl (by first | rfl | simp only [noNames, namesAll, AV.names, names_ds, go_sem, List.append_nil, List.cons_append, List.nil_append, Bool.and_self]) ?_; rintro r rfl; refine ⟨(by first | rfl | simp only [noName, namesAll, AV.names, names_ds, go_sem, Bool.and_self]), A_run ?_⟩; simp only [go_sem, Nat.reduceLT, Nat.reduceLeDiff, Nat.reduceAdd, Nat.reduceSub, Nat.reduceMul, Nat.reduceEqDiff, Nat.reduceBEq, Nat.reduceBNe, Nat.reduceMod, Nat.reduceDiv, Int.reduceEq, Int.reduceNe, Int.reduceLT, Int.reduceLE, Int.reduceToNat, Int.reduceBEq, Int.reduceBNe, Int.reduceNeg, reduceIte, reduceCtorEq, reduceDIte, Value.oneCell'])
    refine A_nil ?_
    simp only [Thn, InB]
    repeat (first
        | refine A_seq ?_
        | refine A_block ?_
        | (refine A_region (A_run ?_); simp only [go_sem, Nat.reduceLT, Nat.reduceLeDiff, Nat.reduceAdd, Nat.reduceSub, Nat.reduceMul, Nat.reduceEqDiff, Nat.reduceBEq, Nat.reduceBNe, Nat.reduceMod, Nat.reduceDiv, Int.reduceEq, Int.reduceNe, Int.reduceLT, Int.reduceLE, Int.reduceToNat, Int.reduceBEq, Int.reduceBNe, Int.reduceNeg, reduceIte, reduceCtorEq, reduceDIte, Value.oneCell']; refine A_nil ?_; simp only [Thn, InB])
        | (refine A_condt ?_ ?_; focus (simp only [evo, lk, lk1, lk2, Nat.reduceDiv, Nat.reduceMod]; done))
        | (refine A_condf ?_ ?_; focus (simp only [evo, lk, lk1, lk2, Nat.reduceDiv, Nat.reduceMod]; done))
        | (refine A_skip ?_; simp only [Thn, InB])
        | (refine A_exit ?_; simp only [Thn, InB, reduceIte, Nat.reduceEqDiff])
        | refine A_ret ?_)
    refine ⟨_, rfl, _, _, fin_pure (x' := .tup [va V0, .d (.v (.bool false))]) rfl ?_, ?_, rfl⟩
    · intro M m w u h
      simp only [RA, RAs] at h ⊢
      obtain ⟨us, rfl, h⟩ := h
      refine ⟨us, rfl, ?_⟩
      match hu : us.toList, h with
      | [u0, u1], h =>
        simp only [RAs] at h ⊢
        exact ⟨va0_le _ _ _ _ h.1, h.2.1, trivial⟩
    · simp only [getV, ho, Option.bind_none]
      rfl
  | some i =>
    rw [ho] at hix
    simp only [fN] at hix
    obtain ⟨p, hp, hkp⟩ := fI_some ho
    have hx : (m.map pD)[i]? = some (.v (.string p.1) :: vD p.2) := by rw [List.getElem?_map, hp]; rfl
    have tx := take_len (l := (vD p.2).map AV.d) (n := 7) (by rw [List.length_map, vD_len])
    have lx := vD_len p.2
    have h0 : ((i : Int) < 0) = False := eq_false (by omega)
    (refine A_call (hix) rfl rfl rfl rfl (by first | assumption | simp only [go_sem]) rfl (by first | rfl | simp only [noNames, namesAll, AV.names, names_ds, go_sem, List.append_nil, List.cons_append, List.nil_append, Bool.and_self]) ?_; rintro r rfl; refine ⟨(by first | rfl | simp only [noName, namesAll, AV.names, names_ds, go_sem, Bool.and_self]), A_run ?_⟩; simp only [go_sem, Nat.reduceLT, Nat.reduceLeDiff, Nat.reduceAdd, Nat.reduceSub, Nat.reduceMul, Nat.reduceEqDiff, Nat.reduceBEq, Nat.reduceBNe, Nat.reduceMod, Nat.reduceDiv, Int.reduceEq, Int.reduceNe, Int.reduceLT, Int.reduceLE, Int.reduceToNat, Int.reduceBEq, Int.reduceBNe, Int.reduceNeg, reduceIte, reduceCtorEq, reduceDIte, Value.oneCell'])
    refine A_nil ?_
    simp only [Thn, InB]
    repeat (first
        | refine A_seq ?_
        | refine A_block ?_
        | (refine A_region (A_run ?_); simp only [go_sem, Nat.reduceLT, Nat.reduceLeDiff, Nat.reduceAdd, Nat.reduceSub, Nat.reduceMul, Nat.reduceEqDiff, Nat.reduceBEq, Nat.reduceBNe, Nat.reduceMod, Nat.reduceDiv, Int.reduceEq, Int.reduceNe, Int.reduceLT, Int.reduceLE, Int.reduceToNat, Int.reduceBEq, Int.reduceBNe, Int.reduceNeg, reduceIte, reduceCtorEq, reduceDIte, Value.oneCell', h0]; refine A_nil ?_; simp only [Thn, InB])
        | (refine A_condt ?_ ?_; focus (simp only [evo, lk, lk1, lk2, Nat.reduceDiv, Nat.reduceMod]; done))
        | (refine A_condf ?_ ?_; focus (simp only [evo, lk, lk1, lk2, Nat.reduceDiv, Nat.reduceMod]; done))
        | (refine A_skip ?_; simp only [Thn, InB])
        | (refine A_exit ?_; simp only [Thn, InB, reduceIte, Nat.reduceEqDiff])
        | refine A_ret ?_)
    refine A_region (A_run ?_)
    simp only [go_sem, Nat.reduceLT, Nat.reduceLeDiff, Nat.reduceAdd, Nat.reduceSub, Nat.reduceMul, Nat.reduceEqDiff, Nat.reduceBEq, Nat.reduceBNe, Nat.reduceMod, Nat.reduceDiv, Int.reduceEq, Int.reduceNe, Int.reduceLT, Int.reduceLE, Int.reduceToNat, Int.reduceBEq, Int.reduceBNe, Int.reduceNeg, reduceIte, reduceCtorEq, reduceDIte, Value.oneCell', hx, tx, lx]
    (refine A_call (own_c p.2) rfl rfl rfl rfl (by first | assumption | simp only [go_sem]) rfl (by first | rfl | simp only [noNames, namesAll, AV.names, names_ds, go_sem, List.append_nil, List.cons_append, List.nil_append, Bool.and_self]) ?_; rintro r rfl; refine ⟨(by first | rfl | simp only [noName, namesAll, AV.names, names_ds, go_sem, Bool.and_self]), A_run ?_⟩; simp only [go_sem, Nat.reduceLT, Nat.reduceLeDiff, Nat.reduceAdd, Nat.reduceSub, Nat.reduceMul, Nat.reduceEqDiff, Nat.reduceBEq, Nat.reduceBNe, Nat.reduceMod, Nat.reduceDiv, Int.reduceEq, Int.reduceNe, Int.reduceLT, Int.reduceLE, Int.reduceToNat, Int.reduceBEq, Int.reduceBNe, Int.reduceNeg, reduceIte, reduceCtorEq, reduceDIte, Value.oneCell', tx, lx, over])
    refine A_nil ?_
    simp only [Thn, InB]
    repeat (first
        | refine A_seq ?_
        | refine A_block ?_
        | (refine A_region (A_run ?_); simp only [go_sem, Nat.reduceLT, Nat.reduceLeDiff, Nat.reduceAdd, Nat.reduceSub, Nat.reduceMul, Nat.reduceEqDiff, Nat.reduceBEq, Nat.reduceBNe, Nat.reduceMod, Nat.reduceDiv, Int.reduceEq, Int.reduceNe, Int.reduceLT, Int.reduceLE, Int.reduceToNat, Int.reduceBEq, Int.reduceBNe, Int.reduceNeg, reduceIte, reduceCtorEq, reduceDIte, Value.oneCell']; refine A_nil ?_; simp only [Thn, InB])
        | (refine A_condt ?_ ?_; focus (simp only [evo, lk, lk1, lk2, Nat.reduceDiv, Nat.reduceMod]; done))
        | (refine A_condf ?_ ?_; focus (simp only [evo, lk, lk1, lk2, Nat.reduceDiv, Nat.reduceMod]; done))
        | (refine A_skip ?_; simp only [Thn, InB])
        | (refine A_exit ?_; simp only [Thn, InB, reduceIte, Nat.reduceEqDiff])
        | refine A_ret ?_)
    have hg : getV key m = (p.2, true) := by simp only [getV, ho, Option.bind_some, hp]
    rw [hg]
    refine ⟨_, ?_, _, _, fin_pure (x' := .tup [va p.2, .d (.v (.bool true))]) ?_ (Le.refl _), rfl, rfl⟩
    · simp only [resV, rvs, rv1, tx, lx, go_sem, Nat.reduceLT, Nat.reduceLeDiff, Nat.reduceAdd, Nat.reduceSub, Nat.reduceMul, Nat.reduceEqDiff, Nat.reduceBEq, Nat.reduceBNe, Nat.reduceMod, Nat.reduceDiv, Int.reduceEq, Int.reduceNe, Int.reduceLT, Int.reduceLE, Int.reduceToNat, Int.reduceBEq, Int.reduceBNe, Int.reduceNeg, reduceIte, reduceCtorEq, reduceDIte, Value.oneCell']
    · simp only [noName, namesAll, AV.names, names_ds, go_sem, Bool.and_self]

theorem set_map {α β : Type} (f : α → β) (l : List α) (i : Nat) (x : α) : (l.map f).set i (f x) = (l.set i x).map f := by rw [List.map_set]
set_option maxHeartbeats 4000000 in
set_option maxRecDepth 100000 in
theorem put_c {W0 : World} (key : ByteArray) (v : V) (m : List (ByteArray × V)) (hroom : (m.length + 1) * 112 ≤ 140737488355328) : APure Tryd.prog W0 28 [rP m, .d (.v (.string key)), va v] (· = .ret (rP (putV key v m))) := by
  have hix := ixf_c (W0 := W0) key m
  have tv := take_len (l := (vD v).map AV.d) (n := 7) (by rw [List.length_map, vD_len])
  have dv := drop_len (l := vD v) (n := 7) (vD_len _)
  have lv := vD_len v
  refine A_body Tryd.func28 rfl (by simp [Tryd.ntmps28]) ?_
  simp only [Tryd.ntmps28, Tryd.results28, mkEnv, List.length_nil, rP, va]
  repeat (first
      | refine A_seq ?_
      | refine A_block ?_
      | (refine A_region (A_run ?_); simp only [go_sem, Nat.reduceLT, Nat.reduceLeDiff, Nat.reduceAdd, Nat.reduceSub, Nat.reduceMul, Nat.reduceEqDiff, Nat.reduceBEq, Nat.reduceBNe, Nat.reduceMod, Nat.reduceDiv, Int.reduceEq, Int.reduceNe, Int.reduceLT, Int.reduceLE, Int.reduceToNat, Int.reduceBEq, Int.reduceBNe, Int.reduceNeg, reduceIte, reduceCtorEq, reduceDIte, Value.oneCell', tv, lv]; refine A_nil ?_; simp only [Thn, InB])
      | (refine A_condt ?_ ?_; focus (simp only [evo, lk, lk1, lk2, Nat.reduceDiv, Nat.reduceMod]; done))
      | (refine A_condf ?_ ?_; focus (simp only [evo, lk, lk1, lk2, Nat.reduceDiv, Nat.reduceMod]; done))
      | (refine A_skip ?_; simp only [Thn, InB])
      | (refine A_exit ?_; simp only [Thn, InB, reduceIte, Nat.reduceEqDiff])
      | refine A_ret ?_)
  refine A_region (A_run ?_)
  simp only [go_sem, Nat.reduceLT, Nat.reduceLeDiff, Nat.reduceAdd, Nat.reduceSub, Nat.reduceMul, Nat.reduceEqDiff, Nat.reduceBEq, Nat.reduceBNe, Nat.reduceMod, Nat.reduceDiv, Int.reduceEq, Int.reduceNe, Int.reduceLT, Int.reduceLE, Int.reduceToNat, Int.reduceBEq, Int.reduceBNe, Int.reduceNeg, reduceIte, reduceCtorEq, reduceDIte, Value.oneCell']
  refine A_callB [] (ownPairs_of m fun p _ => own_c p.2) rfl rfl rfl rfl (by simp only [go_sem]) rfl (by simp) rfl (fun i b h => by simp at h) rfl ?_
  rintro r L' ⟨rfl, rfl⟩
  refine ⟨rfl, A_run ?_⟩
  simp only [St.aft, killPE, mapE, killP, killPB, killPL, moved, setAll, renB, renA, sg_nil, go_sem, Nat.reduceLT, Nat.reduceLeDiff, Nat.reduceAdd, Nat.reduceSub, Nat.reduceMul, Nat.reduceEqDiff, Nat.reduceBEq, Nat.reduceBNe, Nat.reduceMod, Nat.reduceDiv, Int.reduceEq, Int.reduceNe, Int.reduceLT, Int.reduceLE, Int.reduceToNat, Int.reduceBEq, Int.reduceBNe, Int.reduceNeg, reduceIte, reduceCtorEq, reduceDIte, Value.oneCell']
  refine A_nil ?_
  simp only [Thn, InB]
  refine A_seq (A_seq (A_region (A_run ?_)))
  simp only [go_sem, Nat.reduceLT, Nat.reduceLeDiff, Nat.reduceAdd, Nat.reduceSub, Nat.reduceMul, Nat.reduceEqDiff, Nat.reduceBEq, Nat.reduceBNe, Nat.reduceMod, Nat.reduceDiv, Int.reduceEq, Int.reduceNe, Int.reduceLT, Int.reduceLE, Int.reduceToNat, Int.reduceBEq, Int.reduceBNe, Int.reduceNeg, reduceIte, reduceCtorEq, reduceDIte, Value.oneCell']
  (refine A_call (named_c key) rfl rfl rfl rfl (by first | assumption | simp only [go_sem]) rfl (by first | rfl | simp only [noNames, namesAll, AV.names, names_ds, go_sem, List.append_nil, List.cons_append, List.nil_append, Bool.and_self]) ?_; rintro r rfl; refine ⟨(by first | rfl | simp only [noName, namesAll, AV.names, names_ds, go_sem, Bool.and_self]), A_run ?_⟩; simp only [go_sem, Nat.reduceLT, Nat.reduceLeDiff, Nat.reduceAdd, Nat.reduceSub, Nat.reduceMul, Nat.reduceEqDiff, Nat.reduceBEq, Nat.reduceBNe, Nat.reduceMod, Nat.reduceDiv, Int.reduceEq, Int.reduceNe, Int.reduceLT, Int.reduceLE, Int.reduceToNat, Int.reduceBEq, Int.reduceBNe, Int.reduceNeg, reduceIte, reduceCtorEq, reduceDIte, Value.oneCell', kf])
  have lm : (m.map pD).length = m.length := List.length_map ..
  have tm := take_len (l := m.map pD) lm
  have hz : fzL 1 8 112 (m.map pD) ([.sl 1 8 0 m.length, .fn 89 [.dp [.v (.string key)]]] ++ []) = [rP m, kf key] := by
    simp only [List.cons_append, List.nil_append, fzL, fzA, if_true, Nat.zero_add, lm, Nat.le_refl, and_self, List.drop_zero, tm, rP, kf]
  refine A_lend 1 hix rfl rfl rfl rfl rfl (by simp only [go_sem]) rfl hz (by simp only [noNames, namesAll, AV.names, rP, kf, Bool.and_self]) ?_
  rintro r rfl
  refine ⟨_, .inl ⟨rfl, A_run ?_⟩⟩
  simp only [go_sem, Nat.reduceLT, Nat.reduceLeDiff, Nat.reduceAdd, Nat.reduceSub, Nat.reduceMul, Nat.reduceEqDiff, Nat.reduceBEq, Nat.reduceBNe, Nat.reduceMod, Nat.reduceDiv, Int.reduceEq, Int.reduceNe, Int.reduceLT, Int.reduceLE, Int.reduceToNat, Int.reduceBEq, Int.reduceBNe, Int.reduceNeg, reduceIte, reduceCtorEq, reduceDIte, Value.oneCell']
  refine A_nil ?_
  simp only [Thn, InB]
  cases ho : fI (isK key) m with
  | none =>
    simp only [fN]
    repeat (first
        | refine A_seq ?_
        | refine A_block ?_
        | (refine A_region (A_run ?_); simp only [go_sem, Nat.reduceLT, Nat.reduceLeDiff, Nat.reduceAdd, Nat.reduceSub, Nat.reduceMul, Nat.reduceEqDiff, Nat.reduceBEq, Nat.reduceBNe, Nat.reduceMod, Nat.reduceDiv, Int.reduceEq, Int.reduceNe, Int.reduceLT, Int.reduceLE, Int.reduceToNat, Int.reduceBEq, Int.reduceBNe, Int.reduceNeg, reduceIte, reduceCtorEq, reduceDIte, Value.oneCell']; refine A_nil ?_; simp only [Thn, InB])
        | (refine A_condt ?_ ?_; focus (simp only [evo, lk, lk1, lk2, Nat.reduceDiv, Nat.reduceMod]; done))
        | (refine A_condf ?_ ?_; focus (simp only [evo, lk, lk1, lk2, Nat.reduceDiv, Nat.reduceMod]; done))
        | (refine A_skip ?_; simp only [Thn, InB])
        | (refine A_exit ?_; simp only [Thn, InB, reduceIte, Nat.reduceEqDiff])
        | refine A_ret ?_)
    refine A_region (A_run ?_)
    simp only [go_sem, Nat.reduceLT, Nat.reduceLeDiff, Nat.reduceAdd, Nat.reduceSub, Nat.reduceMul, Nat.reduceEqDiff, Nat.reduceBEq, Nat.reduceBNe, Nat.reduceMod, Nat.reduceDiv, Int.reduceEq, Int.reduceNe, Int.reduceLT, Int.reduceLE, Int.reduceToNat, Int.reduceBEq, Int.reduceBNe, Int.reduceNeg, reduceIte, reduceCtorEq, reduceDIte, Value.oneCell', tv, lv]
    (refine A_call (own_c v) rfl rfl rfl rfl (by first | assumption | simp only [go_sem]) rfl (by first | rfl | simp only [noNames, namesAll, AV.names, names_ds, go_sem, List.append_nil, List.cons_append, List.nil_append, Bool.and_self]) ?_; rintro r rfl; refine ⟨(by first | rfl | simp only [noName, namesAll, AV.names, names_ds, go_sem, Bool.and_self]), A_run ?_⟩; simp only [go_sem, Nat.reduceLT, Nat.reduceLeDiff, Nat.reduceAdd, Nat.reduceSub, Nat.reduceMul, Nat.reduceEqDiff, Nat.reduceBEq, Nat.reduceBNe, Nat.reduceMod, Nat.reduceDiv, Int.reduceEq, Int.reduceNe, Int.reduceLT, Int.reduceLE, Int.reduceToNat, Int.reduceBEq, Int.reduceBNe, Int.reduceNeg, reduceIte, reduceCtorEq, reduceDIte, Value.oneCell', tv, lv])
    have tv2 := take_len (l := vD v) (n := 7) lv
    try simp only [tv2]
    refine A_append (l := m.map pD) (l2 := [.v (.string key) :: vD v]) (sz := 8) (bt := 112) (b := 1) (k := m.length) rfl rfl (by simp only [go_sem] <;> rfl) (by simp only [go_sem] <;> rfl) (by simp only [go_sem] <;> rfl) (by simp only [go_sem] <;> rfl) ?_ rfl lm.symm rfl rfl (by simp [apR]) rfl (by rw [lm]; simpa using hroom) ?_
    · rfl
    simp only [killE, mapE, killA, killB, List.length_append, go_sem, Nat.reduceLT, Nat.reduceLeDiff, Nat.reduceAdd, Nat.reduceSub, Nat.reduceMul, Nat.reduceEqDiff, Nat.reduceBEq, Nat.reduceBNe, Nat.reduceMod, Nat.reduceDiv, Int.reduceEq, Int.reduceNe, Int.reduceLT, Int.reduceLE, Int.reduceToNat, Int.reduceBEq, Int.reduceBNe, Int.reduceNeg, reduceIte, reduceCtorEq, reduceDIte, Value.oneCell']
    refine A_run ?_
    simp only [go_sem, Nat.reduceLT, Nat.reduceLeDiff, Nat.reduceAdd, Nat.reduceSub, Nat.reduceMul, Nat.reduceEqDiff, Nat.reduceBEq, Nat.reduceBNe, Nat.reduceMod, Nat.reduceDiv, Int.reduceEq, Int.reduceNe, Int.reduceLT, Int.reduceLE, Int.reduceToNat, Int.reduceBEq, Int.reduceBNe, Int.reduceNeg, reduceIte, reduceCtorEq, reduceDIte, Value.oneCell']
    refine A_nil ?_
    simp only [Thn, InB]
    refine A_sub _ (Sb.freeze 1 rfl (Nat.zero_le _)) ?_
    simp only [fzE, mapE, fzA, fzL, fzB, go_sem, Nat.reduceLT, Nat.reduceLeDiff, Nat.reduceAdd, Nat.reduceSub, Nat.reduceMul, Nat.reduceEqDiff, Nat.reduceBEq, Nat.reduceBNe, Nat.reduceMod, Nat.reduceDiv, Int.reduceEq, Int.reduceNe, Int.reduceLT, Int.reduceLE, Int.reduceToNat, Int.reduceBEq, Int.reduceBNe, Int.reduceNeg, reduceIte, reduceCtorEq, reduceDIte, Value.oneCell', lm, List.length_append]
    have ht : List.take (m.length + 1) (m.map pD ++ [D.v (.string key) :: vD v]) = (m ++ [(key, v)]).map pD := by
      rw [List.take_of_length_le (by simp), List.map_append]
      rfl
    simp only [ht]
    repeat (first
        | refine A_seq ?_
        | refine A_block ?_
        | (refine A_region (A_run ?_); simp only [go_sem, Nat.reduceLT, Nat.reduceLeDiff, Nat.reduceAdd, Nat.reduceSub, Nat.reduceMul, Nat.reduceEqDiff, Nat.reduceBEq, Nat.reduceBNe, Nat.reduceMod, Nat.reduceDiv, Int.reduceEq, Int.reduceNe, Int.reduceLT, Int.reduceLE, Int.reduceToNat, Int.reduceBEq, Int.reduceBNe, Int.reduceNeg, reduceIte, reduceCtorEq, reduceDIte, Value.oneCell']; refine A_nil ?_; simp only [Thn, InB])
        | (refine A_condt ?_ ?_; focus (simp only [evo, lk, lk1, lk2, Nat.reduceDiv, Nat.reduceMod]; done))
        | (refine A_condf ?_ ?_; focus (simp only [evo, lk, lk1, lk2, Nat.reduceDiv, Nat.reduceMod]; done))
        | (refine A_skip ?_; simp only [Thn, InB])
        | (refine A_exit ?_; simp only [Thn, InB, reduceIte, Nat.reduceEqDiff])
        | refine A_ret ?_)
    exact ⟨_, rfl, _, _, fin_pure rfl (Le.refl _), by simp only [putV, ho], rfl⟩
  | some i =>
    obtain ⟨p, hp, hkp⟩ := fI_some ho
    have hx : (m.map pD)[i]? = some (.v (.string p.1) :: vD p.2) := by rw [List.getElem?_map, hp]; rfl
    have h0 : (0 ≤ (i : Int)) = True := eq_true (by omega)
    have hlt2 : ((i : Int) < (m.length : Int)) = True := eq_true (by have := (List.getElem?_eq_some_iff.1 hp).1; omega)
    have lx := vD_len p.2
    have dx := drop_len (l := vD p.2) (n := 7) (vD_len _)
    have hs := set_map pD m i (p.1, v)
    simp only [pD] at hs
    simp only [fN]
    repeat (first
        | refine A_seq ?_
        | refine A_block ?_
        | (refine A_region (A_run ?_); simp only [go_sem, Nat.reduceLT, Nat.reduceLeDiff, Nat.reduceAdd, Nat.reduceSub, Nat.reduceMul, Nat.reduceEqDiff, Nat.reduceBEq, Nat.reduceBNe, Nat.reduceMod, Nat.reduceDiv, Int.reduceEq, Int.reduceNe, Int.reduceLT, Int.reduceLE, Int.reduceToNat, Int.reduceBEq, Int.reduceBNe, Int.reduceNeg, reduceIte, reduceCtorEq, reduceDIte, Value.oneCell', h0]; refine A_nil ?_; simp only [Thn, InB])
        | (refine A_condt ?_ ?_; focus (simp only [evo, lk, lk1, lk2, Nat.reduceDiv, Nat.reduceMod]; done))
        | (refine A_condf ?_ ?_; focus (simp only [evo, lk, lk1, lk2, Nat.reduceDiv, Nat.reduceMod]; done))
        | (refine A_skip ?_; simp only [Thn, InB])
        | (refine A_exit ?_; simp only [Thn, InB, reduceIte, Nat.reduceEqDiff])
        | refine A_ret ?_)
    refine A_region (A_run ?_)
    simp only [go_sem, Nat.reduceLT, Nat.reduceLeDiff, Nat.reduceAdd, Nat.reduceSub, Nat.reduceMul, Nat.reduceEqDiff, Nat.reduceBEq, Nat.reduceBNe, Nat.reduceMod, Nat.reduceDiv, Int.reduceEq, Int.reduceNe, Int.reduceLT, Int.reduceLE, Int.reduceToNat, Int.reduceBEq, Int.reduceBNe, Int.reduceNeg, reduceIte, reduceCtorEq, reduceDIte, Value.oneCell', tv, lv]
    (refine A_call (own_c v) rfl rfl rfl rfl (by first | assumption | simp only [go_sem]) rfl (by first | rfl | simp only [noNames, namesAll, AV.names, names_ds, go_sem, List.append_nil, List.cons_append, List.nil_append, Bool.and_self]) ?_; rintro r rfl; refine ⟨(by first | rfl | simp only [noName, namesAll, AV.names, names_ds, go_sem, Bool.and_self]), A_run ?_⟩; simp only [go_sem, Nat.reduceLT, Nat.reduceLeDiff, Nat.reduceAdd, Nat.reduceSub, Nat.reduceMul, Nat.reduceEqDiff, Nat.reduceBEq, Nat.reduceBNe, Nat.reduceMod, Nat.reduceDiv, Int.reduceEq, Int.reduceNe, Int.reduceLT, Int.reduceLE, Int.reduceToNat, Int.reduceBEq, Int.reduceBNe, Int.reduceNeg, reduceIte, reduceCtorEq, reduceDIte, Value.oneCell', tv, lv, dv, hx, lx, dx, h0, hlt2])
    simp only [hs]
    refine A_nil ?_
    simp only [Thn, InB]
    refine A_sub _ (Sb.freeze 1 rfl (Nat.zero_le _)) ?_
    simp only [fzE, mapE, fzA, fzL, fzB, go_sem, Nat.reduceLT, Nat.reduceLeDiff, Nat.reduceAdd, Nat.reduceSub, Nat.reduceMul, Nat.reduceEqDiff, Nat.reduceBEq, Nat.reduceBNe, Nat.reduceMod, Nat.reduceDiv, Int.reduceEq, Int.reduceNe, Int.reduceLT, Int.reduceLE, Int.reduceToNat, Int.reduceBEq, Int.reduceBNe, Int.reduceNeg, reduceIte, reduceCtorEq, reduceDIte, Value.oneCell', List.length_set]
    have ht : List.take m.length ((m.set i (p.1, v)).map pD) = (m.set i (p.1, v)).map pD := List.take_of_length_le (by simp)
    simp only [ht]
    repeat (first
        | refine A_seq ?_
        | refine A_block ?_
        | (refine A_region (A_run ?_); simp only [go_sem, Nat.reduceLT, Nat.reduceLeDiff, Nat.reduceAdd, Nat.reduceSub, Nat.reduceMul, Nat.reduceEqDiff, Nat.reduceBEq, Nat.reduceBNe, Nat.reduceMod, Nat.reduceDiv, Int.reduceEq, Int.reduceNe, Int.reduceLT, Int.reduceLE, Int.reduceToNat, Int.reduceBEq, Int.reduceBNe, Int.reduceNeg, reduceIte, reduceCtorEq, reduceDIte, Value.oneCell']; refine A_nil ?_; simp only [Thn, InB])
        | (refine A_condt ?_ ?_; focus (simp only [evo, lk, lk1, lk2, Nat.reduceDiv, Nat.reduceMod]; done))
        | (refine A_condf ?_ ?_; focus (simp only [evo, lk, lk1, lk2, Nat.reduceDiv, Nat.reduceMod]; done))
        | (refine A_skip ?_; simp only [Thn, InB])
        | (refine A_exit ?_; simp only [Thn, InB, reduceIte, Nat.reduceEqDiff])
        | refine A_ret ?_)
    exact ⟨_, rfl, _, _, fin_pure rfl (Le.refl _), by simp only [putV, ho, hp, Option.map_some, Option.getD_some], rfl⟩
end Go.Proofs.YtbgfiflnfndckaaDoor.Lift

/- The lift: the reference's Same holds of a value and itself. No conditions. -/
set_option linter.unusedVariables false
set_option linter.unusedSimpArgs false
namespace Go.Proofs.YtbgfiflnfndckaaDoor.Lift
open Go Go.RowKit

set_option maxHeartbeats 4000000 in
set_option maxRecDepth 100000 in
theorem rsameP_of {W0 : World} (m : List (ByteArray × V)) (ih : ∀ p ∈ m, APure Tryd.prog W0 24 [va p.2, va p.2] (· = .ret (.d (.v (.bool true))))) : APure Tryd.prog W0 26 [rP m, rP m] (· = .ret (.d (.v (.bool true)))) := by
  refine APure.known fun hk => ?_
  have hb47 := ab_rP (hk (rP m) (by simp))
  refine A_body Tryd.func26 rfl (by simp [Tryd.ntmps26]) ?_
  simp only [Tryd.ntmps26, Tryd.results26, mkEnv, List.length_nil, rP]
  repeat (first
      | refine A_seq ?_
      | refine A_block ?_
      | (refine A_region (A_run ?_); simp only [go_sem, Nat.reduceLT, Nat.reduceLeDiff, Nat.reduceAdd, Nat.reduceSub, Nat.reduceMul, Nat.reduceEqDiff, Nat.reduceBEq, Nat.reduceBNe, Nat.reduceMod, Nat.reduceDiv, Int.reduceEq, Int.reduceNe, Int.reduceLT, Int.reduceLE, Int.reduceToNat, Int.reduceBEq, Int.reduceBNe, Int.reduceNeg, reduceIte, reduceCtorEq, reduceDIte, Value.oneCell']; refine A_nil ?_; simp only [Thn, InB])
      | (refine A_condt ?_ ?_; focus (simp only [evo, lk, lk1, lk2, Nat.reduceDiv, Nat.reduceMod]; done))
      | (refine A_condf ?_ ?_; focus (simp only [evo, lk, lk1, lk2, Nat.reduceDiv, Nat.reduceMod]; done))
      | (refine A_skip ?_; simp only [Thn, InB])
      | (refine A_exit ?_; simp only [Thn, InB, reduceIte, Nat.reduceEqDiff])
      | refine A_ret ?_)
  refine A_lp (σ := { i : Nat // i ≤ m.length }) (fun s => ⟨42, ofL [(0, .d (.rows 8 112 (m.map pD))), (1, .d (.rows 8 112 (m.map pD))), (12, .d (.v (.int .i64 m.length))), (13, .d (.v (.int .i64 (s.1 : Nat))))], []⟩) (fun s => m.length - s.1) ⟨0, Nat.zero_le _⟩ ?_ ?_
  · ((try dsimp only); refine Sb.mk ?_ ?_ ?_ ?_ ?_ ?_; (focus rfl); (focus (repeat (first | exact eSub_nil _ | refine eSub_cons rfl ?_))); (focus exact ⟨_, rfl⟩); (focus (first | exact Nat.zero_le _ | exact Nat.le_refl _)); (focus (first | rfl | simp only [envBelow, List.all_cons, List.all_nil, namesAll, AV.names, names_ds, go_sem])); (focus (first | rfl | simp only [List.all_cons, List.all_nil, boxBelow, namesAll, AV.names, names_ds, go_sem])))
  · rintro ⟨i, hi⟩ R hR
    simp only
    repeat (first
        | refine A_seq ?_
        | refine A_block ?_
        | (refine A_region (A_run ?_); simp only [go_sem, Nat.reduceLT, Nat.reduceLeDiff, Nat.reduceAdd, Nat.reduceSub, Nat.reduceMul, Nat.reduceEqDiff, Nat.reduceBEq, Nat.reduceBNe, Nat.reduceMod, Nat.reduceDiv, Int.reduceEq, Int.reduceNe, Int.reduceLT, Int.reduceLE, Int.reduceToNat, Int.reduceBEq, Int.reduceBNe, Int.reduceNeg, reduceIte, reduceCtorEq, reduceDIte, Value.oneCell']; refine A_nil ?_; simp only [Thn, InB])
        | (refine A_condt ?_ ?_; focus (simp only [evo, lk, lk1, lk2, Nat.reduceDiv, Nat.reduceMod]; done))
        | (refine A_condf ?_ ?_; focus (simp only [evo, lk, lk1, lk2, Nat.reduceDiv, Nat.reduceMod]; done))
        | (refine A_skip ?_; simp only [Thn, InB])
        | (refine A_exit ?_; simp only [Thn, InB, reduceIte, Nat.reduceEqDiff])
        | refine A_ret ?_)
    refine A_cond rfl (fun h => ?_) (fun h => ?_)
    · have hlt : i < m.length := by simpa using h
      have hx : (m.map pD)[i]? = some (.v (.string m[i].1) :: vD m[i].2) := by rw [List.getElem?_map, List.getElem?_eq_getElem hlt]; rfl
      have tx := take_len (l := (vD m[i].2).map AV.d) (n := 7) (by rw [List.length_map, vD_len])
      have lx := vD_len m[i].2
      have hw := wrap_succ (i := i) (by omega)
      repeat (first
          | refine A_seq ?_
          | refine A_block ?_
          | (refine A_region (A_run ?_); simp only [go_sem, Nat.reduceLT, Nat.reduceLeDiff, Nat.reduceAdd, Nat.reduceSub, Nat.reduceMul, Nat.reduceEqDiff, Nat.reduceBEq, Nat.reduceBNe, Nat.reduceMod, Nat.reduceDiv, Int.reduceEq, Int.reduceNe, Int.reduceLT, Int.reduceLE, Int.reduceToNat, Int.reduceBEq, Int.reduceBNe, Int.reduceNeg, reduceIte, reduceCtorEq, reduceDIte, Value.oneCell']; refine A_nil ?_; simp only [Thn, InB])
          | (refine A_condt ?_ ?_; focus (simp only [evo, lk, lk1, lk2, Nat.reduceDiv, Nat.reduceMod]; done))
          | (refine A_condf ?_ ?_; focus (simp only [evo, lk, lk1, lk2, Nat.reduceDiv, Nat.reduceMod]; done))
          | (refine A_skip ?_; simp only [Thn, InB])
          | (refine A_exit ?_; simp only [Thn, InB, reduceIte, Nat.reduceEqDiff])
          | refine A_ret ?_)
      (first | refine A_quietG (gs := [none, none, none, none, none, none, none, none, none, none, none, none, some (some 27, false), some (some 27, false), some (some 27, false), some (some 27, false), some (some 27, false), some (some 27, false), some (some 27, false), some (some 27, false), some (some 27, false), some (some 27, false), some (some 27, false), some (some 27, false), none]) mixedO (by kernel_rfl) (by kernel_rfl) rfl (aqg_run ?_) | refine A_calmG (gs := [none, none, none, none, none, none, none, none, none, none, none, none, some (some 27, false), some (some 27, false), some (some 27, false), some (some 27, false), some (some 27, false), some (some 27, false), some (some 27, false), some (some 27, false), some (some 27, false), some (some 27, false), some (some 27, false), some (some 27, false), none]) (by kernel_rfl) rfl (aqg_run ?_)); simp only [runG, stepG_n, stepG_s, opW, bsD, opV, mkOp, resE_ap, resA, go_sem, Nat.reduceLT, Nat.reduceLeDiff, Nat.reduceAdd, Nat.reduceSub, Nat.reduceMul, Nat.reduceEqDiff, Nat.reduceBEq, Nat.reduceBNe, Nat.reduceMod, Nat.reduceDiv, Int.reduceEq, Int.reduceNe, Int.reduceLT, Int.reduceLE, Int.reduceToNat, Int.reduceBEq, Int.reduceBNe, Int.reduceNeg, reduceIte, reduceCtorEq, reduceDIte, Value.oneCell', hx, tx, lx]
      (try (refine aqg_nil ?_; (try simp only [Thn, InB])))
      (refine aqg_callg0 (fun _ => ih m[i] (List.getElem_mem hlt)) rfl rfl (fun _ => ?_) (by first | assumption | simp only [go_sem]) (by first | rfl | simp only [noNames, namesAll, AV.names, names_ds, go_sem, List.append_nil, List.cons_append, List.nil_append, Bool.and_self]) (by first | rfl | simp only [noName, namesAll, AV.names, names_ds, go_sem, Bool.and_self]) ?_; focus (constructor <;> simp only [go_sem, Nat.reduceLT, Nat.reduceLeDiff, Nat.reduceAdd, Nat.reduceSub, Nat.reduceMul, Nat.reduceEqDiff, Nat.reduceBEq, Nat.reduceBNe, Nat.reduceMod, Nat.reduceDiv, Int.reduceEq, Int.reduceNe, Int.reduceLT, Int.reduceLE, Int.reduceToNat, Int.reduceBEq, Int.reduceBNe, Int.reduceNeg, reduceIte, reduceCtorEq, reduceDIte, Value.oneCell', resE_ap, resA, hx, tx, lx]))
      (refine aqg_run ?_; simp only [runG, stepG_n, stepG_s, opW, bsD, opV, mkOp, resE_ap, resA, go_sem, Nat.reduceLT, Nat.reduceLeDiff, Nat.reduceAdd, Nat.reduceSub, Nat.reduceMul, Nat.reduceEqDiff, Nat.reduceBEq, Nat.reduceBNe, Nat.reduceMod, Nat.reduceDiv, Int.reduceEq, Int.reduceNe, Int.reduceLT, Int.reduceLE, Int.reduceToNat, Int.reduceBEq, Int.reduceBNe, Int.reduceNeg, reduceIte, reduceCtorEq, reduceDIte, Value.oneCell'])
      (try (refine aqg_nil ?_; (try simp only [Thn, InB])))
      repeat (first
          | refine A_seq ?_
          | refine A_block ?_
          | (refine A_region (A_run ?_); simp only [go_sem, Nat.reduceLT, Nat.reduceLeDiff, Nat.reduceAdd, Nat.reduceSub, Nat.reduceMul, Nat.reduceEqDiff, Nat.reduceBEq, Nat.reduceBNe, Nat.reduceMod, Nat.reduceDiv, Int.reduceEq, Int.reduceNe, Int.reduceLT, Int.reduceLE, Int.reduceToNat, Int.reduceBEq, Int.reduceBNe, Int.reduceNeg, reduceIte, reduceCtorEq, reduceDIte, Value.oneCell', hw]; refine A_nil ?_; simp only [Thn, InB])
          | (refine A_condt ?_ ?_; focus (simp only [evo, lk, lk1, lk2, Nat.reduceDiv, Nat.reduceMod]; done))
          | (refine A_condf ?_ ?_; focus (simp only [evo, lk, lk1, lk2, Nat.reduceDiv, Nat.reduceMod]; done))
          | (refine A_skip ?_; simp only [Thn, InB])
          | (refine A_exit ?_; simp only [Thn, InB, reduceIte, Nat.reduceEqDiff])
          | refine A_ret ?_)
      refine hR _ ⟨⟨i + 1, by omega⟩, by simp only; omega, ?_⟩
      ((try dsimp only); refine Sb.mk ?_ ?_ ?_ ?_ ?_ ?_; (focus rfl); (focus (repeat (first | exact eSub_nil _ | refine eSub_cons rfl ?_))); (focus exact ⟨_, rfl⟩); (focus (first | exact Nat.zero_le _ | exact Nat.le_refl _)); (focus (first | rfl | simp only [envBelow, List.all_cons, List.all_nil, namesAll, AV.names, names_ds, go_sem])); (focus (first | rfl | simp only [List.all_cons, List.all_nil, boxBelow, namesAll, AV.names, names_ds, go_sem])))
    · have hge : i = m.length := by simp at h; omega
      subst hge
      repeat (first
          | refine A_seq ?_
          | refine A_block ?_
          | (refine A_region (A_run ?_); simp only [go_sem, Nat.reduceLT, Nat.reduceLeDiff, Nat.reduceAdd, Nat.reduceSub, Nat.reduceMul, Nat.reduceEqDiff, Nat.reduceBEq, Nat.reduceBNe, Nat.reduceMod, Nat.reduceDiv, Int.reduceEq, Int.reduceNe, Int.reduceLT, Int.reduceLE, Int.reduceToNat, Int.reduceBEq, Int.reduceBNe, Int.reduceNeg, reduceIte, reduceCtorEq, reduceDIte, Value.oneCell']; refine A_nil ?_; simp only [Thn, InB])
          | (refine A_condt ?_ ?_; focus (simp only [evo, lk, lk1, lk2, Nat.reduceDiv, Nat.reduceMod]; done))
          | (refine A_condf ?_ ?_; focus (simp only [evo, lk, lk1, lk2, Nat.reduceDiv, Nat.reduceMod]; done))
          | (refine A_skip ?_; simp only [Thn, InB])
          | (refine A_exit ?_; simp only [Thn, InB, reduceIte, Nat.reduceEqDiff])
          | refine A_ret ?_)
      exact ⟨_, rfl, _, _, fin_pure rfl (Le.refl _), rfl, rfl⟩
set_option maxHeartbeats 4000000 in
set_option maxRecDepth 100000 in
theorem rsame_c {W0 : World} : ∀ x : V, APure Tryd.prog W0 24 [va x, va x] (· = .ret (.d (.v (.bool true)))) := by
  intro x
  refine V.ind (p := fun x => APure Tryd.prog W0 24 [va x, va x] (· = .ret (.d (.v (.bool true))))) ?_ x
  intro k s b n f l m hl hm
  refine APure.known fun hk => ?_
  obtain ⟨hb1, hb2⟩ := ab_va (hk (va (.mk k s b n f l m)) (by simp))
  refine A_body Tryd.func24 rfl (by simp [Tryd.ntmps24]) ?_
  simp only [Tryd.ntmps24, Tryd.results24, mkEnv, List.length_nil, va, vD, vDs_map, pDs_map, List.map_cons, List.map_nil]
  repeat (first
      | refine A_seq ?_
      | refine A_block ?_
      | (refine A_region (A_run ?_); simp only [go_sem, Nat.reduceLT, Nat.reduceLeDiff, Nat.reduceAdd, Nat.reduceSub, Nat.reduceMul, Nat.reduceEqDiff, Nat.reduceBEq, Nat.reduceBNe, Nat.reduceMod, Nat.reduceDiv, Int.reduceEq, Int.reduceNe, Int.reduceLT, Int.reduceLE, Int.reduceToNat, Int.reduceBEq, Int.reduceBNe, Int.reduceNeg, reduceIte, reduceCtorEq, reduceDIte, Value.oneCell']; refine A_nil ?_; simp only [Thn, InB])
      | (refine A_condt ?_ ?_; focus (simp only [evo, lk, lk1, lk2, Nat.reduceDiv, Nat.reduceMod]; done))
      | (refine A_condf ?_ ?_; focus (simp only [evo, lk, lk1, lk2, Nat.reduceDiv, Nat.reduceMod]; done))
      | (refine A_skip ?_; simp only [Thn, InB])
      | (refine A_exit ?_; simp only [Thn, InB, reduceIte, Nat.reduceEqDiff])
      | refine A_ret ?_)
  (first | refine A_quietG (gs := [none, none, none, none, none, none, some (some 11, false), some (some 11, false), some (some 11, false), some (some 11, false), some (some 11, false), none, none, some (some 18, false), some (some 18, false), some (some 18, false), some (some 18, false), some (some 18, false), none, none, some (some 25, false), some (some 25, false), some (some 25, false), some (some 25, false), some (some 25, false), none, none, some (some 32, false), some (some 32, false), some (some 32, false), some (some 32, false), some (some 32, false), some (some 32, false), some (some 32, false), none, none, some (some 41, false), some (some 41, false), some (some 41, false), some (some 41, false), some (some 41, false), some (some 41, false), some (some 41, false), none]) mixedO (by kernel_rfl) (by kernel_rfl) rfl (aqg_run ?_) | refine A_calmG (gs := [none, none, none, none, none, none, some (some 11, false), some (some 11, false), some (some 11, false), some (some 11, false), some (some 11, false), none, none, some (some 18, false), some (some 18, false), some (some 18, false), some (some 18, false), some (some 18, false), none, none, some (some 25, false), some (some 25, false), some (some 25, false), some (some 25, false), some (some 25, false), none, none, some (some 32, false), some (some 32, false), some (some 32, false), some (some 32, false), some (some 32, false), some (some 32, false), some (some 32, false), none, none, some (some 41, false), some (some 41, false), some (some 41, false), some (some 41, false), some (some 41, false), some (some 41, false), some (some 41, false), none]) (by kernel_rfl) rfl (aqg_run ?_)); simp only [runG, stepG_n, stepG_s, opW, bsD, opV, mkOp, resE_ap, resA, go_sem, Nat.reduceLT, Nat.reduceLeDiff, Nat.reduceAdd, Nat.reduceSub, Nat.reduceMul, Nat.reduceEqDiff, Nat.reduceBEq, Nat.reduceBNe, Nat.reduceMod, Nat.reduceDiv, Int.reduceEq, Int.reduceNe, Int.reduceLT, Int.reduceLE, Int.reduceToNat, Int.reduceBEq, Int.reduceBNe, Int.reduceNeg, reduceIte, reduceCtorEq, reduceDIte, Value.oneCell']
  (try (refine aqg_nil ?_; (try simp only [Thn, InB])))
  repeat (first
      | refine A_seq ?_
      | refine A_block ?_
      | (refine A_region (A_run ?_); simp only [go_sem, Nat.reduceLT, Nat.reduceLeDiff, Nat.reduceAdd, Nat.reduceSub, Nat.reduceMul, Nat.reduceEqDiff, Nat.reduceBEq, Nat.reduceBNe, Nat.reduceMod, Nat.reduceDiv, Int.reduceEq, Int.reduceNe, Int.reduceLT, Int.reduceLE, Int.reduceToNat, Int.reduceBEq, Int.reduceBNe, Int.reduceNeg, reduceIte, reduceCtorEq, reduceDIte, Value.oneCell']; refine A_nil ?_; simp only [Thn, InB])
      | (refine A_condt ?_ ?_; focus (simp only [evo, lk, lk1, lk2, Nat.reduceDiv, Nat.reduceMod]; done))
      | (refine A_condf ?_ ?_; focus (simp only [evo, lk, lk1, lk2, Nat.reduceDiv, Nat.reduceMod]; done))
      | (refine A_skip ?_; simp only [Thn, InB])
      | (refine A_exit ?_; simp only [Thn, InB, reduceIte, Nat.reduceEqDiff])
      | refine A_ret ?_)
  refine A_lp (σ := { i : Nat // i ≤ l.length }) (fun j => ⟨74, ofL [(2, .ptr 0 0), (3, .ptr 1 0), (52, .d (.v (.int .i64 l.length))), (53, .d (.v (.int .i64 (j.1 : Nat))))], [.var [.d (.v (.int .u8 k)), .d (.v (.string s)), .d (.v (.bool b)), .d (.v (.int .i64 n)), .d (.v (.float .f64 f)), .d (.rows 7 96 (l.map vD)), .d (.rows 8 112 (m.map pD))], .var [.d (.v (.int .u8 k)), .d (.v (.string s)), .d (.v (.bool b)), .d (.v (.int .i64 n)), .d (.v (.float .f64 f)), .d (.rows 7 96 (l.map vD)), .d (.rows 8 112 (m.map pD))]]⟩) (fun j => l.length - j.1) ⟨0, Nat.zero_le _⟩ ?_ ?_
  · ((try dsimp only); refine Sb.mk ?_ ?_ ?_ ?_ ?_ ?_; (focus rfl); (focus (repeat (first | exact eSub_nil _ | refine eSub_cons rfl ?_))); (focus exact ⟨_, rfl⟩); (focus (first | exact Nat.zero_le _ | exact Nat.le_refl _)); (focus (first | rfl | simp only [envBelow, List.all_cons, List.all_nil, namesAll, AV.names, names_ds, go_sem])); (focus (first | rfl | simp only [List.all_cons, List.all_nil, boxBelow, namesAll, AV.names, names_ds, go_sem])))
  · rintro ⟨i, hi⟩ R hR
    simp only
    repeat (first
        | refine A_seq ?_
        | refine A_block ?_
        | (refine A_region (A_run ?_); simp only [go_sem, Nat.reduceLT, Nat.reduceLeDiff, Nat.reduceAdd, Nat.reduceSub, Nat.reduceMul, Nat.reduceEqDiff, Nat.reduceBEq, Nat.reduceBNe, Nat.reduceMod, Nat.reduceDiv, Int.reduceEq, Int.reduceNe, Int.reduceLT, Int.reduceLE, Int.reduceToNat, Int.reduceBEq, Int.reduceBNe, Int.reduceNeg, reduceIte, reduceCtorEq, reduceDIte, Value.oneCell']; refine A_nil ?_; simp only [Thn, InB])
        | (refine A_condt ?_ ?_; focus (simp only [evo, lk, lk1, lk2, Nat.reduceDiv, Nat.reduceMod]; done))
        | (refine A_condf ?_ ?_; focus (simp only [evo, lk, lk1, lk2, Nat.reduceDiv, Nat.reduceMod]; done))
        | (refine A_skip ?_; simp only [Thn, InB])
        | (refine A_exit ?_; simp only [Thn, InB, reduceIte, Nat.reduceEqDiff])
        | refine A_ret ?_)
    refine A_cond rfl (fun h => ?_) (fun h => ?_)
    · have hlt : i < l.length := by simpa using h
      have hx : (l.map vD)[i]? = some (vD l[i]) := by rw [List.getElem?_map, List.getElem?_eq_getElem hlt]; rfl
      have tx := take_len (l := (vD l[i]).map AV.d) (n := 7) (by rw [List.length_map, vD_len])
      have lx := vD_len l[i]
      have hw := wrap_succ (i := i) (by omega)
      repeat (first
          | refine A_seq ?_
          | refine A_block ?_
          | (refine A_region (A_run ?_); simp only [go_sem, Nat.reduceLT, Nat.reduceLeDiff, Nat.reduceAdd, Nat.reduceSub, Nat.reduceMul, Nat.reduceEqDiff, Nat.reduceBEq, Nat.reduceBNe, Nat.reduceMod, Nat.reduceDiv, Int.reduceEq, Int.reduceNe, Int.reduceLT, Int.reduceLE, Int.reduceToNat, Int.reduceBEq, Int.reduceBNe, Int.reduceNeg, reduceIte, reduceCtorEq, reduceDIte, Value.oneCell']; refine A_nil ?_; simp only [Thn, InB])
          | (refine A_condt ?_ ?_; focus (simp only [evo, lk, lk1, lk2, Nat.reduceDiv, Nat.reduceMod]; done))
          | (refine A_condf ?_ ?_; focus (simp only [evo, lk, lk1, lk2, Nat.reduceDiv, Nat.reduceMod]; done))
          | (refine A_skip ?_; simp only [Thn, InB])
          | (refine A_exit ?_; simp only [Thn, InB, reduceIte, Nat.reduceEqDiff])
          | refine A_ret ?_)
      (first | refine A_quietG (gs := [none, none, none, none, none, none, none, none, none, none, none, none]) mixedO (by kernel_rfl) (by kernel_rfl) rfl (aqg_run ?_) | refine A_calmG (gs := [none, none, none, none, none, none, none, none, none, none, none, none]) (by kernel_rfl) rfl (aqg_run ?_)); simp only [runG, stepG_n, stepG_s, opW, bsD, opV, mkOp, resE_ap, resA, go_sem, Nat.reduceLT, Nat.reduceLeDiff, Nat.reduceAdd, Nat.reduceSub, Nat.reduceMul, Nat.reduceEqDiff, Nat.reduceBEq, Nat.reduceBNe, Nat.reduceMod, Nat.reduceDiv, Int.reduceEq, Int.reduceNe, Int.reduceLT, Int.reduceLE, Int.reduceToNat, Int.reduceBEq, Int.reduceBNe, Int.reduceNeg, reduceIte, reduceCtorEq, reduceDIte, Value.oneCell', hx, tx, lx]
      (try (refine aqg_nil ?_; (try simp only [Thn, InB])))
      (refine aqg_call (caps := []) (hl l[i] (List.getElem_mem hlt)) rfl rfl rfl (by first | assumption | simp only [go_sem]) (by first | rfl | simp only [noNames, namesAll, AV.names, names_ds, go_sem, List.append_nil, List.cons_append, List.nil_append, Bool.and_self]) (by first | rfl | simp only [noName, namesAll, AV.names, names_ds, go_sem, Bool.and_self]) ?_)
      (refine aqg_run ?_; simp only [runG, stepG_n, stepG_s, opW, bsD, opV, mkOp, resE_ap, resA, go_sem, Nat.reduceLT, Nat.reduceLeDiff, Nat.reduceAdd, Nat.reduceSub, Nat.reduceMul, Nat.reduceEqDiff, Nat.reduceBEq, Nat.reduceBNe, Nat.reduceMod, Nat.reduceDiv, Int.reduceEq, Int.reduceNe, Int.reduceLT, Int.reduceLE, Int.reduceToNat, Int.reduceBEq, Int.reduceBNe, Int.reduceNeg, reduceIte, reduceCtorEq, reduceDIte, Value.oneCell'])
      (try (refine aqg_nil ?_; (try simp only [Thn, InB])))
      repeat (first
          | refine A_seq ?_
          | refine A_block ?_
          | (refine A_region (A_run ?_); simp only [go_sem, Nat.reduceLT, Nat.reduceLeDiff, Nat.reduceAdd, Nat.reduceSub, Nat.reduceMul, Nat.reduceEqDiff, Nat.reduceBEq, Nat.reduceBNe, Nat.reduceMod, Nat.reduceDiv, Int.reduceEq, Int.reduceNe, Int.reduceLT, Int.reduceLE, Int.reduceToNat, Int.reduceBEq, Int.reduceBNe, Int.reduceNeg, reduceIte, reduceCtorEq, reduceDIte, Value.oneCell', hw]; refine A_nil ?_; simp only [Thn, InB])
          | (refine A_condt ?_ ?_; focus (simp only [evo, lk, lk1, lk2, Nat.reduceDiv, Nat.reduceMod]; done))
          | (refine A_condf ?_ ?_; focus (simp only [evo, lk, lk1, lk2, Nat.reduceDiv, Nat.reduceMod]; done))
          | (refine A_skip ?_; simp only [Thn, InB])
          | (refine A_exit ?_; simp only [Thn, InB, reduceIte, Nat.reduceEqDiff])
          | refine A_ret ?_)
      refine hR _ ⟨⟨i + 1, by omega⟩, by simp only; omega, ?_⟩
      ((try dsimp only); refine Sb.mk ?_ ?_ ?_ ?_ ?_ ?_; (focus rfl); (focus (repeat (first | exact eSub_nil _ | refine eSub_cons rfl ?_))); (focus exact ⟨_, rfl⟩); (focus (first | exact Nat.zero_le _ | exact Nat.le_refl _)); (focus (first | rfl | simp only [envBelow, List.all_cons, List.all_nil, namesAll, AV.names, names_ds, go_sem])); (focus (first | rfl | simp only [List.all_cons, List.all_nil, boxBelow, namesAll, AV.names, names_ds, go_sem])))
    · have hge : i = l.length := by simp at h; omega
      subst hge
      repeat (first
          | refine A_seq ?_
          | refine A_block ?_
          | (refine A_region (A_run ?_); simp only [go_sem, Nat.reduceLT, Nat.reduceLeDiff, Nat.reduceAdd, Nat.reduceSub, Nat.reduceMul, Nat.reduceEqDiff, Nat.reduceBEq, Nat.reduceBNe, Nat.reduceMod, Nat.reduceDiv, Int.reduceEq, Int.reduceNe, Int.reduceLT, Int.reduceLE, Int.reduceToNat, Int.reduceBEq, Int.reduceBNe, Int.reduceNeg, reduceIte, reduceCtorEq, reduceDIte, Value.oneCell']; refine A_nil ?_; simp only [Thn, InB])
          | (refine A_condt ?_ ?_; focus (simp only [evo, lk, lk1, lk2, Nat.reduceDiv, Nat.reduceMod]; done))
          | (refine A_condf ?_ ?_; focus (simp only [evo, lk, lk1, lk2, Nat.reduceDiv, Nat.reduceMod]; done))
          | (refine A_skip ?_; simp only [Thn, InB])
          | (refine A_exit ?_; simp only [Thn, InB, reduceIte, Nat.reduceEqDiff])
          | refine A_ret ?_)
      refine A_region (A_run ?_)
      simp only [go_sem, Nat.reduceLT, Nat.reduceLeDiff, Nat.reduceAdd, Nat.reduceSub, Nat.reduceMul, Nat.reduceEqDiff, Nat.reduceBEq, Nat.reduceBNe, Nat.reduceMod, Nat.reduceDiv, Int.reduceEq, Int.reduceNe, Int.reduceLT, Int.reduceLE, Int.reduceToNat, Int.reduceBEq, Int.reduceBNe, Int.reduceNeg, reduceIte, reduceCtorEq, reduceDIte, Value.oneCell']
      (refine A_call (rsameP_of m hm) rfl rfl rfl rfl (by first | assumption | simp only [go_sem]) rfl (by first | rfl | simp only [noNames, namesAll, AV.names, names_ds, go_sem, List.append_nil, List.cons_append, List.nil_append, Bool.and_self]) ?_; rintro r rfl; refine ⟨(by first | rfl | simp only [noName, namesAll, AV.names, names_ds, go_sem, Bool.and_self]), A_run ?_⟩; simp only [go_sem, Nat.reduceLT, Nat.reduceLeDiff, Nat.reduceAdd, Nat.reduceSub, Nat.reduceMul, Nat.reduceEqDiff, Nat.reduceBEq, Nat.reduceBNe, Nat.reduceMod, Nat.reduceDiv, Int.reduceEq, Int.reduceNe, Int.reduceLT, Int.reduceLE, Int.reduceToNat, Int.reduceBEq, Int.reduceBNe, Int.reduceNeg, reduceIte, reduceCtorEq, reduceDIte, Value.oneCell'])
      refine A_nil ?_
      simp only [Thn, InB]
      repeat (first
          | refine A_seq ?_
          | refine A_block ?_
          | (refine A_region (A_run ?_); simp only [go_sem, Nat.reduceLT, Nat.reduceLeDiff, Nat.reduceAdd, Nat.reduceSub, Nat.reduceMul, Nat.reduceEqDiff, Nat.reduceBEq, Nat.reduceBNe, Nat.reduceMod, Nat.reduceDiv, Int.reduceEq, Int.reduceNe, Int.reduceLT, Int.reduceLE, Int.reduceToNat, Int.reduceBEq, Int.reduceBNe, Int.reduceNeg, reduceIte, reduceCtorEq, reduceDIte, Value.oneCell']; refine A_nil ?_; simp only [Thn, InB])
          | (refine A_condt ?_ ?_; focus (simp only [evo, lk, lk1, lk2, Nat.reduceDiv, Nat.reduceMod]; done))
          | (refine A_condf ?_ ?_; focus (simp only [evo, lk, lk1, lk2, Nat.reduceDiv, Nat.reduceMod]; done))
          | (refine A_skip ?_; simp only [Thn, InB])
          | (refine A_exit ?_; simp only [Thn, InB, reduceIte, Nat.reduceEqDiff])
          | refine A_ret ?_)
      exact ⟨_, rfl, _, _, fin_pure rfl (Le.refl _), rfl, rfl⟩
theorem rsameP_c {W0 : World} (m : List (ByteArray × V)) : APure Tryd.prog W0 26 [rP m, rP m] (· = .ret (.d (.v (.bool true)))) := rsameP_of m fun p _ => rsame_c p.2
end Go.Proofs.YtbgfiflnfndckaaDoor.Lift
