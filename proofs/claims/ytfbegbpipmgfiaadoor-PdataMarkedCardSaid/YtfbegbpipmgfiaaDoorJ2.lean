/- Joined from Ldp, Ldq, Lva, Lvc, Lvd, Lca, Lfy, Lvq, Lvs, Lvt, Lvu, Lvv, Ldr, Lds, Ldt, Ldu, Lea, Leb, Lf1, Lec, Lf2, Led, Lf3. No conditions. -/
import Derived.Test.YtfbegbpipmgfiaaDoorJ1
import Derived.Lib.Hide
import Derived.SizedLaws
import Derived.ChangeArms
import Derived.WideShapes
import Derived.Deep.Slices
import Derived.Lib.SmallJoins
import Derived.Test.YtfbegbpipmgfiaaDoorShv
section
/- pdata: the walk over items, as an iterator. No conditions. -/
set_option linter.unusedVariables false
set_option linter.unusedSimpArgs false
namespace Go.Proofs.YtfbegbpipmgfiaaDoor.Lift
open Go Go.RowKit

/-- A group's cells: its head, its items. -/
def gD (b : Nat) (g : List D × List (List D)) : List D := g.1 ++ [.rows 34 b g.2]
/-- All of data. -/
def dD (b5 b34 : Nat) (d0 : D) (gs : List (List D × List (List D))) : List D := [d0, .rows 5 b5 (gs.map (gD b34))]
/-- How many items lie ahead of a group. -/
def off (gs : List (List D × List (List D))) (i : Nat) : Nat := ((gs.take i).map fun g => g.2.length).sum
theorem off_succ {gs : List (List D × List (List D))} {i : Nat} (h : i < gs.length) : off gs (i + 1) = off gs i + (gs[i].2).length := by
  simp only [off, List.take_add_one, List.getElem?_eq_getElem h, Option.toList_some, List.map_append, List.map_cons, List.map_nil, List.sum_append, List.sum_cons, List.sum_nil, Nat.add_zero]
theorem SbP {W0 : World} {n : Nat} {st : St} {N : Nat} {env : List (Nat × AV)} {S X : List Box} (hbs : st.bs = S ++ X) (hN : N = st.N) (he : eSub st.env env) (hl : n ≤ S.length) (h1 : envBelow S.length env = true) (h2 : S.all (boxBelow S.length) = true) : Sb W0 n st ⟨N, ofL env, S⟩ := Sb.mk hN he ⟨X, hbs⟩ hl h1 h2
theorem ap0 {α : Type} (S X : List α) : (S ++ X)[S.length]? = X[0]? := by rw [List.getElem?_append_right (Nat.le_refl _), Nat.sub_self]
theorem apk {α : Type} (S X : List α) (k : Nat) : (S ++ X)[S.length + k]? = X[k]? := by rw [List.getElem?_append_right (Nat.le_add_right _ _), Nat.add_sub_cancel_left]
theorem st0 {α : Type} (S X : List α) (v : α) : (S ++ X).set S.length v = S ++ X.set 0 v := by rw [List.set_append_right _ _ (Nat.le_refl _), Nat.sub_self]
theorem stk {α : Type} (S X : List α) (k : Nat) (v : α) : (S ++ X).set (S.length + k) v = S ++ X.set k v := by rw [List.set_append_right _ _ (Nat.le_add_right _ _), Nat.add_sub_cancel_left]

set_option maxHeartbeats 4000000 in
set_option maxRecDepth 100000 in
theorem items_c {W0 : World} (b5 b34 : Nat) (d0 : D) (gs : List (List D × List (List D))) : APure Tryd.prog W0 35 [.agg ((dD b5 b34 d0 gs).map .d)] (· = .ret (.fn 55 [.dp (dD b5 b34 d0 gs)])) := by
  refine A_body Tryd.func35 rfl (by simp [Tryd.ntmps35]) ?_
  simp only [Tryd.ntmps35, Tryd.results35, mkEnv, List.length_nil, dD, List.map_cons, List.map_nil]
  refine A_seq (A_region (A_run ?_))
  simp only [go_sem]
  refine A_nil ?_
  simp only [Thn, InB]
  refine A_sub _ (Sb.freezeV 0 rfl rfl (Nat.zero_le _)) ?_
  simp only [fvE, mapE, fvA, fvL, fvB, go_sem]
  repeat (first
      | refine A_seq ?_
      | refine A_block ?_
      | (refine A_region (A_run ?_); simp only [go_sem]; refine A_nil ?_; simp only [Thn, InB])
      | (refine A_condt ?_ ?_; focus (simp only [evo, lk, lk1, lk2, Nat.reduceDiv, Nat.reduceMod]; done))
      | (refine A_condf ?_ ?_; focus (simp only [evo, lk, lk1, lk2, Nat.reduceDiv, Nat.reduceMod]; done))
      | (refine A_skip ?_; simp only [Thn, InB])
      | (refine A_exit ?_; simp only [Thn, InB, reduceIte, Nat.reduceEqDiff])
      | refine A_ret ?_)
  exact ⟨_, rfl, _, _, fin_pure rfl (Le.refl _), rfl, rfl⟩

set_option maxHeartbeats 4000000 in
set_option maxRecDepth 100000 in
theorem items1_c {W0 : World} (b5 b34 : Nat) (d0 : D) (gs : List (List D × List (List D))) (hg4 : ∀ g ∈ gs, g.1.length = 4 ∧ ∀ it ∈ g.2, it.length = 34) (r : Loop) (ts : List Nat) (caps : List AV) (S : Nat → List Box)
    (hlen : ∀ j, (S j).length = (S 0).length) (hb : ∀ j, (S j).all (boxBelow (S 0).length) = true) (hc : namesAll (fun b => decide (b < (S 0).length)) caps = true) (hk : ∀ j, kindsOk (S j) (S (j + 1)) = true)
    (hcap : ∀ j, killPL (moved (List.range (S 0).length) (S j) (S (j + 1))) caps = caps) (hlt : gs.length < 2 ^ 47) (hlt2 : ∀ g ∈ gs, g.2.length < 2 ^ 47)
    (hr : ∀ (i j : Nat) (h : i < gs.length) (h2 : j < (gs[i].2).length), ARound Tryd.prog W0 r ts caps [.d (.v (.int .i64 (i : Nat))), .agg ((gs[i].2)[j].map .d)] (S (off gs i + j)) (S (off gs i + j + 1))) :
    ACalls Tryd.prog W0 55 [.yd r ts caps, .dp (dD b5 b34 d0 gs)] (S 0) (fun x L => (∃ y, x = .ret y) ∧ L = S (off gs gs.length)) := by
  refine A_body Tryd.func55 rfl (by simp [Tryd.ntmps55]) ?_
  simp only [Tryd.ntmps55, Tryd.results55, mkEnv, dD]
  repeat (first
      | refine A_seq ?_
      | refine A_block ?_
      | (refine A_region (A_run ?_); simp only [go_sem]; refine A_nil ?_; simp only [Thn, InB])
      | (refine A_condt ?_ ?_; focus (simp only [evo, lk, lk1, lk2, Nat.reduceDiv, Nat.reduceMod]; done))
      | (refine A_condf ?_ ?_; focus (simp only [evo, lk, lk1, lk2, Nat.reduceDiv, Nat.reduceMod]; done))
      | (refine A_skip ?_; simp only [Thn, InB])
      | (refine A_exit ?_; simp only [Thn, InB, reduceIte, Nat.reduceEqDiff])
      | refine A_ret ?_)
  refine A_lp (σ := { i : Nat // i ≤ gs.length }) (fun s => ⟨29, ofL [(0, .yd r ts caps), (8, .d (.rows 5 b5 (gs.map (gD b34)))), (9, .d (.v (.int .i64 gs.length))), (10, .d (.v (.int .i64 (s.1 : Nat))))], S (off gs s.1)⟩) (fun s => gs.length - s.1) ⟨0, Nat.zero_le _⟩ ?_ ?_
  · exact SbP (X := []) (List.append_nil _).symm rfl (by repeat (first | exact eSub_nil _ | refine eSub_cons rfl ?_)) (Nat.le_of_eq (hlen _).symm) (by simp only [hlen, envBelow, List.all_cons, List.all_nil, AV.names, hc, Bool.and_self]) (by simp only [hlen]; exact hb _)
  · rintro ⟨i, hi⟩ R hR
    simp only
    repeat (first
        | refine A_seq ?_
        | refine A_block ?_
        | (refine A_region (A_run ?_); simp only [go_sem]; refine A_nil ?_; simp only [Thn, InB])
        | (refine A_condt ?_ ?_; focus (simp only [evo, lk, lk1, lk2, Nat.reduceDiv, Nat.reduceMod]; done))
        | (refine A_condf ?_ ?_; focus (simp only [evo, lk, lk1, lk2, Nat.reduceDiv, Nat.reduceMod]; done))
        | (refine A_skip ?_; simp only [Thn, InB])
        | (refine A_exit ?_; simp only [Thn, InB, reduceIte, Nat.reduceEqDiff])
        | refine A_ret ?_)
    refine A_cond rfl (fun h => ?_) (fun h => ?_)
    · have hl : i < gs.length := by simpa using h
      have hx : (gs.map (gD b34))[i]? = some (gD b34 gs[i]) := by rw [List.getElem?_map, List.getElem?_eq_getElem hl]; rfl
      have h4 := (hg4 _ (List.getElem_mem hl)).1
      have hg5 : (gD b34 gs[i]).length = 5 := by simp [gD, h4]
      have tx := take_len (l := (gD b34 gs[i]).map AV.d) (n := 5) (by rw [List.length_map, hg5])
      repeat (first
          | refine A_seq ?_
          | refine A_block ?_
          | (refine A_region (A_run ?_); simp only [go_sem, hx, tx, hg5]; refine A_nil ?_; simp only [Thn, InB])
          | (refine A_condt ?_ ?_; focus (simp only [evo, lk, lk1, lk2, Nat.reduceDiv, Nat.reduceMod]; done))
          | (refine A_condf ?_ ?_; focus (simp only [evo, lk, lk1, lk2, Nat.reduceDiv, Nat.reduceMod]; done))
          | (refine A_skip ?_; simp only [Thn, InB])
          | (refine A_exit ?_; simp only [Thn, InB, reduceIte, Nat.reduceEqDiff])
          | refine A_ret ?_)
      refine A_region (A_run ?_)
      simp only [go_sem, hx, tx, hg5, ap0, apk, st0, stk, List.append_assoc, List.cons_append, List.nil_append, List.length_append, List.length_cons, List.length_nil]
      refine A_nil ?_
      simp only [Thn, InB]
      have hx4 : ((gD b34 gs[i]).map AV.d)[4]? = some (.d (.rows 34 b34 gs[i].2)) := by
        rw [List.getElem?_map, gD, List.getElem?_append_right (by omega), h4]; rfl
      have hd4 : ((gD b34 gs[i]).map AV.d).drop 4 = [.d (.rows 34 b34 gs[i].2)] := by
        rw [← List.map_drop, gD, List.drop_append_of_le_length (by omega), List.drop_eq_nil_of_le (by omega)]; rfl
      repeat (first
          | refine A_seq ?_
          | refine A_block ?_
          | (refine A_region (A_run ?_); simp only [go_sem, ap0, apk, hx4, hd4, hg5]; refine A_nil ?_; simp only [Thn, InB])
          | (refine A_condt ?_ ?_; focus (simp only [evo, lk, lk1, lk2, Nat.reduceDiv, Nat.reduceMod]; done))
          | (refine A_condf ?_ ?_; focus (simp only [evo, lk, lk1, lk2, Nat.reduceDiv, Nat.reduceMod]; done))
          | (refine A_skip ?_; simp only [Thn, InB])
          | (refine A_exit ?_; simp only [Thn, InB, reduceIte, Nat.reduceEqDiff])
          | refine A_ret ?_)
      refine A_lp (σ := { j : Nat // j ≤ (gs[i].2).length }) (fun s => ⟨29, ofL [(0, .yd r ts caps), (3, .d (.v (.int .i64 (i : Nat)))), (8, .d (.rows 5 b5 (gs.map (gD b34)))), (9, .d (.v (.int .i64 gs.length))), (10, .d (.v (.int .i64 (i : Nat)))), (16, .d (.rows 34 b34 gs[i].2)), (17, .d (.v (.int .i64 (gs[i].2).length))), (18, .d (.v (.int .i64 (s.1 : Nat))))], S (off gs i + s.1)⟩) (fun s => (gs[i].2).length - s.1) ⟨0, Nat.zero_le _⟩ ?_ ?_
      · exact SbP (X := [_]) rfl rfl (by repeat (first | exact eSub_nil _ | refine eSub_cons rfl ?_)) (Nat.le_of_eq (hlen _).symm) (by simp only [hlen, envBelow, List.all_cons, List.all_nil, AV.names, hc, Bool.and_self]) (by simp only [hlen]; exact hb _)
      · rintro ⟨j, hj⟩ R2 hR2
        simp only
        repeat (first
            | refine A_seq ?_
            | refine A_block ?_
            | (refine A_region (A_run ?_); simp only [go_sem]; refine A_nil ?_; simp only [Thn, InB])
            | (refine A_condt ?_ ?_; focus (simp only [evo, lk, lk1, lk2, Nat.reduceDiv, Nat.reduceMod]; done))
            | (refine A_condf ?_ ?_; focus (simp only [evo, lk, lk1, lk2, Nat.reduceDiv, Nat.reduceMod]; done))
            | (refine A_skip ?_; simp only [Thn, InB])
            | (refine A_exit ?_; simp only [Thn, InB, reduceIte, Nat.reduceEqDiff])
            | refine A_ret ?_)
        refine A_cond rfl (fun h => ?_) (fun h => ?_)
        · have hjl : j < (gs[i].2).length := by simpa using h
          have hit : (gs[i].2)[j]? = some (gs[i].2)[j] := List.getElem?_eq_getElem hjl
          have h34 : ((gs[i].2)[j]).length = 34 := (hg4 _ (List.getElem_mem hl)).2 _ (List.getElem_mem hjl)
          have hw2 := wrap_succ (i := j) (by have := hlt2 _ (List.getElem_mem hl); omega)
          have ti := take_len (l := ((gs[i].2)[j]).map AV.d) (n := 34) (by rw [List.length_map, h34])
          repeat (first
              | refine A_seq ?_
              | refine A_block ?_
              | (refine A_region (A_run ?_); simp only [go_sem, hit, ti, h34]; refine A_nil ?_; simp only [Thn, InB])
              | (refine A_condt ?_ ?_; focus (simp only [evo, lk, lk1, lk2, Nat.reduceDiv, Nat.reduceMod]; done))
              | (refine A_condf ?_ ?_; focus (simp only [evo, lk, lk1, lk2, Nat.reduceDiv, Nat.reduceMod]; done))
              | (refine A_skip ?_; simp only [Thn, InB])
              | (refine A_exit ?_; simp only [Thn, InB, reduceIte, Nat.reduceEqDiff])
              | refine A_ret ?_)
          refine A_region (A_run ?_)
          simp only [go_sem, hit, ti, h34, ap0, apk, st0, stk, List.append_assoc, List.cons_append, List.nil_append, List.length_append, List.length_cons, List.length_nil]
          refine A_nil ?_
          simp only [Thn, InB]
          (repeat (first | refine A_seq ?_ | refine A_block ?_))
          refine A_regionI (AI_split (l1 := [_, _, _]) (rest := [_, _]) (A_run ?_) rfl)
          simp only [go_sem, ap0, apk, ti, h34]
          refine A_nil ?_
          simp only [Thn, InB]
          refine A_yield0 (X := [_]) (hr i j hl hjl) rfl rfl rfl rfl rfl rfl (by rw [hlen]; exact hb _) (by rw [hlen]; exact hb _) (by rw [hlen, hlen (off gs i + j)]) (by rw [hlen]; exact hc) (by simp only [namesAll, AV.names, names_ds, Bool.and_self]) (hk _) ?_
          refine AI_of (A_run ?_) rfl
          simp only [hlen, killPE, mapE, killP, hcap, killPL_ds, killPB, List.map_cons, List.map_nil, go_sem]
          refine A_nil ?_
          simp only [Thn, InB]
          repeat (first
              | refine A_seq ?_
              | refine A_block ?_
              | (refine A_region (A_run ?_); simp only [go_sem, hw2]; refine A_nil ?_; simp only [Thn, InB])
              | (refine A_condt ?_ ?_; focus (simp only [evo, lk, lk1, lk2, Nat.reduceDiv, Nat.reduceMod]; done))
              | (refine A_condf ?_ ?_; focus (simp only [evo, lk, lk1, lk2, Nat.reduceDiv, Nat.reduceMod]; done))
              | (refine A_skip ?_; simp only [Thn, InB])
              | (refine A_exit ?_; simp only [Thn, InB, reduceIte, Nat.reduceEqDiff])
              | refine A_ret ?_)
          refine hR2 _ ⟨⟨j + 1, by omega⟩, by simp only; omega, ?_⟩
          exact SbP (X := [_]) rfl rfl (by repeat (first | exact eSub_nil _ | refine eSub_cons rfl ?_)) (Nat.le_of_eq (hlen _).symm) (by simp only [hlen, envBelow, List.all_cons, List.all_nil, AV.names, hc, Bool.and_self]) (by simp only [hlen]; exact hb _)
        · have hge : j = (gs[i].2).length := by simp at h; omega
          have hw := wrap_succ (i := i) (by omega)
          subst hge
          repeat (first
              | refine A_seq ?_
              | refine A_block ?_
              | (refine A_region (A_run ?_); simp only [go_sem, hw]; refine A_nil ?_; simp only [Thn, InB])
              | (refine A_condt ?_ ?_; focus (simp only [evo, lk, lk1, lk2, Nat.reduceDiv, Nat.reduceMod]; done))
              | (refine A_condf ?_ ?_; focus (simp only [evo, lk, lk1, lk2, Nat.reduceDiv, Nat.reduceMod]; done))
              | (refine A_skip ?_; simp only [Thn, InB])
              | (refine A_exit ?_; simp only [Thn, InB, reduceIte, Nat.reduceEqDiff])
              | refine A_ret ?_)
          refine hR _ ⟨⟨i + 1, by omega⟩, by simp only; omega, ?_⟩
          simp only [← off_succ hl]
          exact SbP (X := []) (List.append_nil _).symm rfl (by repeat (first | exact eSub_nil _ | refine eSub_cons rfl ?_)) (Nat.le_of_eq (hlen _).symm) (by simp only [hlen, envBelow, List.all_cons, List.all_nil, AV.names, hc, Bool.and_self]) (by simp only [hlen]; exact hb _)
    · have hge : i = gs.length := by simp at h; omega
      subst hge
      repeat (first
          | refine A_seq ?_
          | refine A_block ?_
          | (refine A_region (A_run ?_); simp only [go_sem]; refine A_nil ?_; simp only [Thn, InB])
          | (refine A_condt ?_ ?_; focus (simp only [evo, lk, lk1, lk2, Nat.reduceDiv, Nat.reduceMod]; done))
          | (refine A_condf ?_ ?_; focus (simp only [evo, lk, lk1, lk2, Nat.reduceDiv, Nat.reduceMod]; done))
          | (refine A_skip ?_; simp only [Thn, InB])
          | (refine A_exit ?_; simp only [Thn, InB, reduceIte, Nat.reduceEqDiff])
          | refine A_ret ?_)
      exact ⟨_, rfl, _, _, fin_mk ⟨[], (List.append_nil _).symm⟩ (Nat.le_of_eq (hlen _).symm) rfl (by simp only [hlen]; exact hb _) (Le.refl _), ⟨_, rfl⟩, rfl⟩
end Go.Proofs.YtfbegbpipmgfiaaDoor.Lift
end
section
/- pdata: Items: a loop over the iterator that counts. No conditions. -/
set_option linter.unusedVariables false
set_option linter.unusedSimpArgs false
namespace Go.Proofs.YtfbegbpipmgfiaaDoor.Lift
open Go Go.RowKit

theorem wrap_step (i : Nat) : IntKind.i64.wrap (IntKind.i64.wrap (i : Int) + 1) = IntKind.i64.wrap ((i + 1 : Nat) : Int) := by
  simp only [IntKind.wrap_i64]
  omega
theorem ny_ds (l : List D) : noYds (l.map AV.d) = true := by induction l <;> simp_all [noYds, noYd]
theorem ny_env {env : List (List (Option AV))} (h : (env.all fun r => r.all fun o => match o with | some x => noYd x | none => true) = true) (t : Nat) (x : AV) (hx : lk env t = some x) : noYd x = true := by
  have h1 : ∀ (l : List (Option AV)) (i : Nat) (x : AV), (l.all fun o => match o with | some x => noYd x | none => true) = true → lk1 l i = some x → noYd x = true := by
    intro l
    induction l with
    | nil => intro i x _ h; cases i <;> simp [lk1] at h
    | cons o l ih =>
      intro i x ha h
      simp only [List.all_cons, Bool.and_eq_true] at ha
      cases i with
      | zero => simp only [lk1] at h; subst h; exact ha.1
      | succ i => exact ih i x ha.2 (by simpa [lk1] using h)
  have h2 : ∀ (l : List (List (Option AV))) (i j : Nat) (x : AV), (l.all fun r => r.all fun o => match o with | some x => noYd x | none => true) = true → lk1 (lk2 l i) j = some x → noYd x = true := by
    intro l
    induction l with
    | nil => intro i j x _ h; cases i <;> cases j <;> simp [lk2, lk1] at h
    | cons o l ih =>
      intro i j x ha h
      simp only [List.all_cons, Bool.and_eq_true] at ha
      cases i with
      | zero => exact h1 o j x ha.1 (by simpa [lk2] using h)
      | succ i => exact ih i j x ha.2 (by simpa [lk2] using h)
  exact h2 env _ _ x h hx
/-- What the loop counts in. -/
def cntB (j : Nat) : List Box := [.var [.d (.v (.int .i64 (IntKind.i64.wrap (j : Int))))]]

set_option maxHeartbeats 4000000 in
set_option maxRecDepth 100000 in
theorem Items_c {W0 : World} (b5 b34 : Nat) (d0 : D) (gs : List (List D × List (List D))) (hg4 : ∀ g ∈ gs, g.1.length = 4 ∧ ∀ it ∈ g.2, it.length = 34) (hlt : gs.length < 2 ^ 47) (hlt2 : ∀ g ∈ gs, g.2.length < 2 ^ 47) :
    ACalls Tryd.prog W0 15 [.agg ((dD b5 b34 d0 gs).map .d)] [] (fun x L => x = .ret (.d (.v (.int .i64 (IntKind.i64.wrap (off gs gs.length : Nat))))) ∧ L = []) := by
  refine F_body Tryd.func15 rfl (by simp [Tryd.ntmps15]) ?_
  simp only [Tryd.ntmps15, Tryd.results15, mkEnv, List.length_nil]
  have hdl : ((dD b5 b34 d0 gs).map AV.d).length = 2 := rfl
  refine F_pre (A_region (A_run ?_))
  simp only [go_sem, hdl]
  refine A_nil ?_
  simp only [Thn, InB]
  refine F_pre (A_region (A_run ?_))
  simp only [go_sem, hdl]
  refine A_nil ?_
  simp only [Thn, InB]
  refine F_post (F_pre (A_region (A_run ?_)))
  simp only [go_sem, hdl, take_len hdl]
  (refine A_call (items_c b5 b34 d0 gs) rfl rfl rfl rfl (by first | assumption | simp only [go_sem]) rfl (by first | rfl | simp only [noNames, namesAll, AV.names, names_ds, go_sem, List.append_nil, List.cons_append, List.nil_append, Bool.and_self]) ?_; rintro r rfl; refine ⟨(by first | rfl | simp only [noName, namesAll, AV.names, names_ds, go_sem, Bool.and_self]), A_run ?_⟩; simp only [go_sem])
  refine A_nil ?_
  simp only [Thn, InB]
  have hc0 : cntB 0 = [.var [.d (.v (.int .i64 0))]] := by simp [cntB, IntKind.wrap_i64]
  refine F_block (F_loop [1] (cargs := fun r => [.yd r [3] [.ptr 0 0], .dp (dD b5 b34 d0 gs)]) (caps0 := [.ptr 1 0]) (ts := [3]) (L := cntB 0) (L' := cntB (off gs gs.length)) rfl rfl rfl (by decide) rfl ?_ (fun _ => rfl) rfl ?_ ?_ ?_ ?_)
  · rintro i b hi
    match i with
    | 0 => cases hi; rw [hc0]; rfl
    | i + 1 => simp at hi
  · intro r hst hpe hps has hbo hsz hW
    refine items1_c b5 b34 d0 gs hg4 r [3] [.ptr 0 0] cntB (fun _ => rfl) (fun _ => rfl) rfl (fun _ => rfl) (fun _ => rfl) hlt hlt2 fun i j hi hj => ?_
    refine ARound_of [(3, .ptr 0 0)] hst hpe hW (by rw [hps]; rfl) (by rw [hps]; decide) ?_ ?_
    · intro t x hx
      simp only [lk_ofL, lkA] at hx
      split at hx
      · rename_i e
        subst e
        cases hx
        exact ⟨by rw [hsz]; exact (by decide : 3 < 11), .inl ⟨0, rfl, rfl, by rw [hps]; decide⟩⟩
      · cases hx
    · rw [has, hbo, hsz]
      simp only [cntB]
      repeat (first
          | refine A_seq ?_
          | refine A_block ?_
          | (refine A_region (A_run ?_); simp only [go_sem]; refine A_nil ?_; simp only [Thn, InB])
          | (refine A_condt ?_ ?_; focus (simp only [evo, lk, lk1, lk2, Nat.reduceDiv, Nat.reduceMod]; done))
          | (refine A_condf ?_ ?_; focus (simp only [evo, lk, lk1, lk2, Nat.reduceDiv, Nat.reduceMod]; done))
          | (refine A_skip ?_; simp only [Thn, InB])
          | (refine A_exit ?_; simp only [Thn, InB, reduceIte, Nat.reduceEqDiff])
          | refine A_ret ?_)
      refine ⟨ny_env rfl, rfl, ?_⟩
      have hw := wrap_step (off gs i + j)
      simp only [List.length_cons, List.length_nil]
      repeat (first
          | refine A_seq ?_
          | refine A_block ?_
          | (refine A_region (A_run ?_); simp only [go_sem, hw]; refine A_nil ?_; simp only [Thn, InB])
          | (refine A_condt ?_ ?_; focus (simp only [evo, lk, lk1, lk2, Nat.reduceDiv, Nat.reduceMod]; done))
          | (refine A_condf ?_ ?_; focus (simp only [evo, lk, lk1, lk2, Nat.reduceDiv, Nat.reduceMod]; done))
          | (refine A_skip ?_; simp only [Thn, InB])
          | (refine A_exit ?_; simp only [Thn, InB, reduceIte, Nat.reduceEqDiff])
          | refine A_ret ?_)
      refine ⟨rfl, fun b cs hb hx => ?_, rfl, Sb.refl _⟩
      match b with
      | 0 => exact ⟨_, rfl⟩
  · simp only [cntB, St.aft, killPE, mapE, killP, killPB, killPL, killPL_ds, moved, isVar, setAll, renB, renA, renL, go_sem]
    exact ny_env (by simp only [List.all_cons, List.all_nil, noYd, noYds, ny_ds, Bool.and_self])
  · simp only [cntB, St.aft, killPE, mapE, killP, killPB, killPL, killPL_ds, moved, isVar, setAll, renB, renA, renL, go_sem]
    simp only [List.all_cons, List.all_nil, boxNY, noYd, noYds, ny_ds, Bool.and_self]
  · refine ⟨rfl, rfl, ?_⟩
    simp only [cntB, St.aft, killPE, mapE, killP, killPB, killPL, killPL_ds, moved, isVar, setAll, renB, renA, renL, go_sem]
    repeat (first
        | refine A_seq ?_
        | refine A_block ?_
        | (refine A_region (A_run ?_); simp only [go_sem]; refine A_nil ?_; simp only [Thn, InB])
        | (refine A_condt ?_ ?_; focus (simp only [evo, lk, lk1, lk2, Nat.reduceDiv, Nat.reduceMod]; done))
        | (refine A_condf ?_ ?_; focus (simp only [evo, lk, lk1, lk2, Nat.reduceDiv, Nat.reduceMod]; done))
        | (refine A_skip ?_; simp only [Thn, InB])
        | (refine A_exit ?_; simp only [Thn, InB, reduceIte, Nat.reduceEqDiff])
        | refine A_ret ?_)
    refine ⟨rfl, ⟨_, rfl, _, _, fin_pure rfl (Le.refl _), rfl, rfl⟩, fun t x hx => ny_env (by simp only [List.all_cons, List.all_nil, noYd, noYds, ny_ds, Bool.and_self]) t x hx, ?_⟩
    simp only [List.all_cons, List.all_nil, boxNY, noYd, noYds, ny_ds, Bool.and_self]
end Go.Proofs.YtfbegbpipmgfiaaDoor.Lift
end
section
/- The lift: small words for walks; values and pairs as data. No conditions: words and their laws. -/
set_option linter.unusedVariables false
set_option linter.unusedSimpArgs false
namespace Go.Proofs.YtfbegbpipmgfiaaDoor.Lift
open Go Go.RowKit

/-- A value of the program; a pair is a key and a value. -/
inductive V where
  | mk (k : Nat) (s : ByteArray) (b : Bool) (n : Int) (f : Nat) (l : List V) (m : List (ByteArray × V))
mutual
def vD : V → List D
  | .mk k s b n f l m => [.v (.int .u8 k), .v (.string s), .v (.bool b), .v (.int .i64 n), .v (.float .f64 f), .rows 7 96 (vDs l), .rows 8 112 (pDs m)]
def vDs : List V → List (List D)
  | [] => []
  | x :: l => vD x :: vDs l
def pDs : List (ByteArray × V) → List (List D)
  | [] => []
  | (k, x) :: m => (.v (.string k) :: vD x) :: pDs m
end
def pD (p : ByteArray × V) : List D := .v (.string p.1) :: vD p.2
theorem vDs_map : ∀ l : List V, vDs l = l.map vD
  | [] => by simp only [vDs, List.map_nil]
  | x :: l => by simp only [vDs, List.map_cons, vDs_map l]
theorem pDs_map : ∀ l : List (ByteArray × V), pDs l = l.map pD
  | [] => by simp only [pDs, List.map_nil]
  | (k, x) :: l => by simp only [pDs, List.map_cons, pDs_map l, pD]
theorem vD_len : ∀ x : V, (vD x).length = 7
  | .mk .. => by simp only [vD, List.length_cons, List.length_nil]
theorem pD_len (p : ByteArray × V) : (pD p).length = 8 := by simp only [pD, List.length_cons, vD_len]
attribute [go_sem] vD_len
@[go_sem] theorem vD_take (x : V) : (vD x).take 7 = vD x := take_len (vD_len x)
@[go_sem] theorem vD_takeA (x : V) : ((vD x).map AV.d).take 7 = (vD x).map .d := take_len (by rw [List.length_map, vD_len])
def va (x : V) : AV := .agg ((vD x).map .d)
def pa (p : ByteArray × V) : AV := .agg ((pD p).map .d)
def rV (l : List V) : AV := .d (.rows 7 96 (l.map vD))
def rP (m : List (ByteArray × V)) : AV := .d (.rows 8 112 (m.map pD))

attribute [go_sem] va pa rV rP
end Go.Proofs.YtfbegbpipmgfiaaDoor.Lift
end
section
/- The lift: Same, SamePairs of values. No conditions but the sizes that memory has. -/
set_option linter.unusedVariables false
set_option linter.unusedSimpArgs false
namespace Go.Proofs.YtfbegbpipmgfiaaDoor.Lift
open Go Go.RowKit

theorem bne_false {a b : Nat} (h : a = b) : ((a : Int) != (b : Int)) = false := by simp [h]
theorem bne_true {a b : Nat} (h : a ≠ b) : ((a : Int) != (b : Int)) = true := by
  simp
  omega
set_option maxHeartbeats 4000000 in
set_option maxRecDepth 100000 in
theorem eqv {W0 : World} (g : FuncId) (hg : callable Tryd.prog g = true) (l l' : List (V)) (p : V → V → Bool) (hl : l.length * 96 ≤ 140737488355328)
    (hp : ∀ x ∈ l, ∀ y ∈ l', APure Tryd.prog W0 g [.agg ((vD x).map .d), .agg ((vD y).map .d)] (· = .ret (.d (.v (.bool (p x y)))))) :
    APure Tryd.prog W0 62 [.d (.rows 7 96 (l.map vD)), .d (.rows 7 96 (l'.map vD)), .fn g []] (· = .ret (.d (.v (.bool (eqL p l l'))))) := by
  refine A_body Tryd.func62 rfl (by simp [Tryd.ntmps62]) ?_
  simp only [Tryd.ntmps62, Tryd.results62, mkEnv, List.length_nil]
  repeat (first
      | refine A_seq ?_
      | refine A_block ?_
      | (refine A_region (A_run ?_); simp only [go_sem]; refine A_nil ?_; simp only [Thn, InB])
      | (refine A_condt ?_ ?_; focus (simp only [evo, lk, lk1, lk2, Nat.reduceDiv, Nat.reduceMod]; done))
      | (refine A_condf ?_ ?_; focus (simp only [evo, lk, lk1, lk2, Nat.reduceDiv, Nat.reduceMod]; done))
      | (refine A_skip ?_; simp only [Thn, InB])
      | (refine A_exit ?_; simp only [Thn, InB, reduceIte, Nat.reduceEqDiff])
      | refine A_ret ?_)
  refine A_cond rfl (fun h => ?_) (fun h => ?_)
  · have hlen : l.length ≠ l'.length := fun e => by rw [bne_false e] at h; cases h
    repeat (first
        | refine A_seq ?_
        | refine A_block ?_
        | (refine A_region (A_run ?_); simp only [go_sem]; refine A_nil ?_; simp only [Thn, InB])
        | (refine A_condt ?_ ?_; focus (simp only [evo, lk, lk1, lk2, Nat.reduceDiv, Nat.reduceMod]; done))
        | (refine A_condf ?_ ?_; focus (simp only [evo, lk, lk1, lk2, Nat.reduceDiv, Nat.reduceMod]; done))
        | (refine A_skip ?_; simp only [Thn, InB])
        | (refine A_exit ?_; simp only [Thn, InB, reduceIte, Nat.reduceEqDiff])
        | refine A_ret ?_)
    exact ⟨_, rfl, [], _, fin_pure rfl (Le.refl _), by rw [eqL_len p l l' hlen], rfl⟩
  · have hlen : l.length = l'.length := Decidable.byContradiction fun e => by rw [bne_true e] at h; cases h
    repeat (first
        | refine A_seq ?_
        | refine A_block ?_
        | (refine A_region (A_run ?_); simp only [go_sem]; refine A_nil ?_; simp only [Thn, InB])
        | (refine A_condt ?_ ?_; focus (simp only [evo, lk, lk1, lk2, Nat.reduceDiv, Nat.reduceMod]; done))
        | (refine A_condf ?_ ?_; focus (simp only [evo, lk, lk1, lk2, Nat.reduceDiv, Nat.reduceMod]; done))
        | (refine A_skip ?_; simp only [Thn, InB])
        | (refine A_exit ?_; simp only [Thn, InB, reduceIte, Nat.reduceEqDiff])
        | refine A_ret ?_)
    refine A_lp (σ := { i : Nat // i ≤ l.length ∧ eqL p (l.take i) (l'.take i) = true }) (fun s => ⟨32, ofL [(15, .d (.rows 7 96 (l.map vD))), (16, .d (.v (.int .i64 l.length))), (17, .d (.v (.int .i64 (s.1 : Nat)))), (1, .d (.rows 7 96 (l'.map vD))), (2, .fn g [])], []⟩) (fun s => l.length - s.1) ⟨0, Nat.zero_le _, rfl⟩ ?_ ?_
    · ((try dsimp only); refine Sb.mk ?_ ?_ ?_ ?_ ?_ ?_; (focus rfl); (focus (repeat (first | exact eSub_nil _ | refine eSub_cons rfl ?_))); (focus exact ⟨_, rfl⟩); (focus (first | exact Nat.zero_le _ | exact Nat.le_refl _)); (focus (first | rfl | simp only [envBelow, List.all_cons, List.all_nil, namesAll, AV.names, names_ds, go_sem])); (focus (first | rfl | simp only [List.all_cons, List.all_nil, boxBelow, namesAll, AV.names, names_ds, go_sem])))
    · rintro ⟨i, hi, hpre⟩ R hR
      simp only
      repeat (first
          | refine A_seq ?_
          | refine A_block ?_
          | (refine A_region (A_run ?_); simp only [go_sem]; refine A_nil ?_; simp only [Thn, InB])
          | (refine A_condt ?_ ?_; focus (simp only [evo, lk, lk1, lk2, Nat.reduceDiv, Nat.reduceMod]; done))
          | (refine A_condf ?_ ?_; focus (simp only [evo, lk, lk1, lk2, Nat.reduceDiv, Nat.reduceMod]; done))
          | (refine A_skip ?_; simp only [Thn, InB])
          | (refine A_exit ?_; simp only [Thn, InB, reduceIte, Nat.reduceEqDiff])
          | refine A_ret ?_)
      refine A_cond rfl (fun h => ?_) (fun h => ?_)
      · have hlt : i < l.length := by simpa using h
        have hlt' : i < l'.length := by omega
        have hx : (l.map vD)[i]? = some (vD l[i]) := by rw [List.getElem?_map, List.getElem?_eq_getElem hlt]; rfl
        have hy : (l'.map vD)[i]? = some (vD l'[i]) := by rw [List.getElem?_map, List.getElem?_eq_getElem hlt']; rfl
        have tx := take_len (l := (vD l[i]).map AV.d) (n := 7) (by rw [List.length_map, vD_len])
        have ty := take_len (l := (vD l'[i]).map AV.d) (n := 7) (by rw [List.length_map, vD_len])
        have lx := vD_len l[i]
        have ly := vD_len l'[i]
        repeat (first
            | refine A_seq ?_
            | refine A_block ?_
            | (refine A_region (A_run ?_); simp only [go_sem, hx, hy, tx, ty, lx, ly]; refine A_nil ?_; simp only [Thn, InB])
            | (refine A_condt ?_ ?_; focus (simp only [evo, lk, lk1, lk2, Nat.reduceDiv, Nat.reduceMod]; done))
            | (refine A_condf ?_ ?_; focus (simp only [evo, lk, lk1, lk2, Nat.reduceDiv, Nat.reduceMod]; done))
            | (refine A_skip ?_; simp only [Thn, InB])
            | (refine A_exit ?_; simp only [Thn, InB, reduceIte, Nat.reduceEqDiff])
            | refine A_ret ?_)
        refine A_region (A_run ?_)
        simp only [go_sem, hx, hy, tx, ty, lx, ly]
        (refine A_call (hp l[i] (List.getElem_mem hlt) l'[i] (List.getElem_mem hlt')) rfl rfl rfl rfl (by first | assumption | simp only [go_sem]) rfl (by first | rfl | simp only [noNames, namesAll, AV.names, names_ds, go_sem, List.append_nil, List.cons_append, List.nil_append, Bool.and_self]) ?_; rintro r rfl; refine ⟨(by first | rfl | simp only [noName, namesAll, AV.names, names_ds, go_sem, Bool.and_self]), A_run ?_⟩; simp only [go_sem])
        refine A_nil ?_
        simp only [Thn, InB]
        obtain ⟨h1, h2⟩ := eqL_take p l l' i l[i] l'[i] (List.getElem?_eq_getElem hlt) (List.getElem?_eq_getElem hlt') hpre
        repeat (first
            | refine A_seq ?_
            | refine A_block ?_
            | (refine A_region (A_run ?_); simp only [go_sem]; refine A_nil ?_; simp only [Thn, InB])
            | (refine A_condt ?_ ?_; focus (simp only [evo, lk, lk1, lk2, Nat.reduceDiv, Nat.reduceMod]; done))
            | (refine A_condf ?_ ?_; focus (simp only [evo, lk, lk1, lk2, Nat.reduceDiv, Nat.reduceMod]; done))
            | (refine A_skip ?_; simp only [Thn, InB])
            | (refine A_exit ?_; simp only [Thn, InB, reduceIte, Nat.reduceEqDiff])
            | refine A_ret ?_)
        refine A_cond rfl (fun h => ?_) (fun h => ?_)
        · have hb : p l[i] l'[i] = false := by simpa using h
          repeat (first
              | refine A_seq ?_
              | refine A_block ?_
              | (refine A_region (A_run ?_); simp only [go_sem]; refine A_nil ?_; simp only [Thn, InB])
              | (refine A_condt ?_ ?_; focus (simp only [evo, lk, lk1, lk2, Nat.reduceDiv, Nat.reduceMod]; done))
              | (refine A_condf ?_ ?_; focus (simp only [evo, lk, lk1, lk2, Nat.reduceDiv, Nat.reduceMod]; done))
              | (refine A_skip ?_; simp only [Thn, InB])
              | (refine A_exit ?_; simp only [Thn, InB, reduceIte, Nat.reduceEqDiff])
              | refine A_ret ?_)
          exact ⟨_, rfl, [], _, fin_pure rfl (Le.refl _), by rw [h2 hb], rfl⟩
        · have hb : p l[i] l'[i] = true := by simpa using h
          have hw := wrap_succ (i := i) (by omega)
          repeat (first
              | refine A_seq ?_
              | refine A_block ?_
              | (refine A_region (A_run ?_); simp only [go_sem, hw]; refine A_nil ?_; simp only [Thn, InB])
              | (refine A_condt ?_ ?_; focus (simp only [evo, lk, lk1, lk2, Nat.reduceDiv, Nat.reduceMod]; done))
              | (refine A_condf ?_ ?_; focus (simp only [evo, lk, lk1, lk2, Nat.reduceDiv, Nat.reduceMod]; done))
              | (refine A_skip ?_; simp only [Thn, InB])
              | (refine A_exit ?_; simp only [Thn, InB, reduceIte, Nat.reduceEqDiff])
              | refine A_ret ?_)
          refine hR _ ⟨⟨i + 1, by omega, by rw [h1, hb]⟩, by simp only; omega, ?_⟩
          ((try dsimp only); refine Sb.mk ?_ ?_ ?_ ?_ ?_ ?_; (focus rfl); (focus (repeat (first | exact eSub_nil _ | refine eSub_cons rfl ?_))); (focus exact ⟨_, rfl⟩); (focus (first | exact Nat.zero_le _ | exact Nat.le_refl _)); (focus (first | rfl | simp only [envBelow, List.all_cons, List.all_nil, namesAll, AV.names, names_ds, go_sem])); (focus (first | rfl | simp only [List.all_cons, List.all_nil, boxBelow, namesAll, AV.names, names_ds, go_sem])))
      · have hge : i = l.length := by simp at h; omega
        subst hge
        have he : eqL p l l' = true := by
          have := hpre
          rwa [List.take_of_length_le (Nat.le_refl _), List.take_of_length_le (by omega)] at this
        repeat (first
            | refine A_seq ?_
            | refine A_block ?_
            | (refine A_region (A_run ?_); simp only [go_sem]; refine A_nil ?_; simp only [Thn, InB])
            | (refine A_condt ?_ ?_; focus (simp only [evo, lk, lk1, lk2, Nat.reduceDiv, Nat.reduceMod]; done))
            | (refine A_condf ?_ ?_; focus (simp only [evo, lk, lk1, lk2, Nat.reduceDiv, Nat.reduceMod]; done))
            | (refine A_skip ?_; simp only [Thn, InB])
            | (refine A_exit ?_; simp only [Thn, InB, reduceIte, Nat.reduceEqDiff])
            | refine A_ret ?_)
        exact ⟨_, rfl, [], _, fin_pure rfl (Le.refl _), by rw [he], rfl⟩

set_option maxHeartbeats 4000000 in
set_option maxRecDepth 100000 in
theorem eqp {W0 : World} (g : FuncId) (hg : callable Tryd.prog g = true) (l l' : List (ByteArray × V)) (p : ByteArray × V → ByteArray × V → Bool) (hl : l.length * 112 ≤ 140737488355328)
    (hp : ∀ x ∈ l, ∀ y ∈ l', APure Tryd.prog W0 g [.agg ((pD x).map .d), .agg ((pD y).map .d)] (· = .ret (.d (.v (.bool (p x y)))))) :
    APure Tryd.prog W0 59 [.d (.rows 8 112 (l.map pD)), .d (.rows 8 112 (l'.map pD)), .fn g []] (· = .ret (.d (.v (.bool (eqL p l l'))))) := by
  refine A_body Tryd.func59 rfl (by simp [Tryd.ntmps59]) ?_
  simp only [Tryd.ntmps59, Tryd.results59, mkEnv, List.length_nil]
  repeat (first
      | refine A_seq ?_
      | refine A_block ?_
      | (refine A_region (A_run ?_); simp only [go_sem]; refine A_nil ?_; simp only [Thn, InB])
      | (refine A_condt ?_ ?_; focus (simp only [evo, lk, lk1, lk2, Nat.reduceDiv, Nat.reduceMod]; done))
      | (refine A_condf ?_ ?_; focus (simp only [evo, lk, lk1, lk2, Nat.reduceDiv, Nat.reduceMod]; done))
      | (refine A_skip ?_; simp only [Thn, InB])
      | (refine A_exit ?_; simp only [Thn, InB, reduceIte, Nat.reduceEqDiff])
      | refine A_ret ?_)
  refine A_cond rfl (fun h => ?_) (fun h => ?_)
  · have hlen : l.length ≠ l'.length := fun e => by rw [bne_false e] at h; cases h
    repeat (first
        | refine A_seq ?_
        | refine A_block ?_
        | (refine A_region (A_run ?_); simp only [go_sem]; refine A_nil ?_; simp only [Thn, InB])
        | (refine A_condt ?_ ?_; focus (simp only [evo, lk, lk1, lk2, Nat.reduceDiv, Nat.reduceMod]; done))
        | (refine A_condf ?_ ?_; focus (simp only [evo, lk, lk1, lk2, Nat.reduceDiv, Nat.reduceMod]; done))
        | (refine A_skip ?_; simp only [Thn, InB])
        | (refine A_exit ?_; simp only [Thn, InB, reduceIte, Nat.reduceEqDiff])
        | refine A_ret ?_)
    exact ⟨_, rfl, [], _, fin_pure rfl (Le.refl _), by rw [eqL_len p l l' hlen], rfl⟩
  · have hlen : l.length = l'.length := Decidable.byContradiction fun e => by rw [bne_true e] at h; cases h
    repeat (first
        | refine A_seq ?_
        | refine A_block ?_
        | (refine A_region (A_run ?_); simp only [go_sem]; refine A_nil ?_; simp only [Thn, InB])
        | (refine A_condt ?_ ?_; focus (simp only [evo, lk, lk1, lk2, Nat.reduceDiv, Nat.reduceMod]; done))
        | (refine A_condf ?_ ?_; focus (simp only [evo, lk, lk1, lk2, Nat.reduceDiv, Nat.reduceMod]; done))
        | (refine A_skip ?_; simp only [Thn, InB])
        | (refine A_exit ?_; simp only [Thn, InB, reduceIte, Nat.reduceEqDiff])
        | refine A_ret ?_)
    refine A_lp (σ := { i : Nat // i ≤ l.length ∧ eqL p (l.take i) (l'.take i) = true }) (fun s => ⟨32, ofL [(15, .d (.rows 8 112 (l.map pD))), (16, .d (.v (.int .i64 l.length))), (17, .d (.v (.int .i64 (s.1 : Nat)))), (1, .d (.rows 8 112 (l'.map pD))), (2, .fn g [])], []⟩) (fun s => l.length - s.1) ⟨0, Nat.zero_le _, rfl⟩ ?_ ?_
    · ((try dsimp only); refine Sb.mk ?_ ?_ ?_ ?_ ?_ ?_; (focus rfl); (focus (repeat (first | exact eSub_nil _ | refine eSub_cons rfl ?_))); (focus exact ⟨_, rfl⟩); (focus (first | exact Nat.zero_le _ | exact Nat.le_refl _)); (focus (first | rfl | simp only [envBelow, List.all_cons, List.all_nil, namesAll, AV.names, names_ds, go_sem])); (focus (first | rfl | simp only [List.all_cons, List.all_nil, boxBelow, namesAll, AV.names, names_ds, go_sem])))
    · rintro ⟨i, hi, hpre⟩ R hR
      simp only
      repeat (first
          | refine A_seq ?_
          | refine A_block ?_
          | (refine A_region (A_run ?_); simp only [go_sem]; refine A_nil ?_; simp only [Thn, InB])
          | (refine A_condt ?_ ?_; focus (simp only [evo, lk, lk1, lk2, Nat.reduceDiv, Nat.reduceMod]; done))
          | (refine A_condf ?_ ?_; focus (simp only [evo, lk, lk1, lk2, Nat.reduceDiv, Nat.reduceMod]; done))
          | (refine A_skip ?_; simp only [Thn, InB])
          | (refine A_exit ?_; simp only [Thn, InB, reduceIte, Nat.reduceEqDiff])
          | refine A_ret ?_)
      refine A_cond rfl (fun h => ?_) (fun h => ?_)
      · have hlt : i < l.length := by simpa using h
        have hlt' : i < l'.length := by omega
        have hx : (l.map pD)[i]? = some (pD l[i]) := by rw [List.getElem?_map, List.getElem?_eq_getElem hlt]; rfl
        have hy : (l'.map pD)[i]? = some (pD l'[i]) := by rw [List.getElem?_map, List.getElem?_eq_getElem hlt']; rfl
        have tx := take_len (l := (pD l[i]).map AV.d) (n := 8) (by rw [List.length_map, pD_len])
        have ty := take_len (l := (pD l'[i]).map AV.d) (n := 8) (by rw [List.length_map, pD_len])
        have lx := pD_len l[i]
        have ly := pD_len l'[i]
        repeat (first
            | refine A_seq ?_
            | refine A_block ?_
            | (refine A_region (A_run ?_); simp only [go_sem, hx, hy, tx, ty, lx, ly]; refine A_nil ?_; simp only [Thn, InB])
            | (refine A_condt ?_ ?_; focus (simp only [evo, lk, lk1, lk2, Nat.reduceDiv, Nat.reduceMod]; done))
            | (refine A_condf ?_ ?_; focus (simp only [evo, lk, lk1, lk2, Nat.reduceDiv, Nat.reduceMod]; done))
            | (refine A_skip ?_; simp only [Thn, InB])
            | (refine A_exit ?_; simp only [Thn, InB, reduceIte, Nat.reduceEqDiff])
            | refine A_ret ?_)
        refine A_region (A_run ?_)
        simp only [go_sem, hx, hy, tx, ty, lx, ly]
        (refine A_call (hp l[i] (List.getElem_mem hlt) l'[i] (List.getElem_mem hlt')) rfl rfl rfl rfl (by first | assumption | simp only [go_sem]) rfl (by first | rfl | simp only [noNames, namesAll, AV.names, names_ds, go_sem, List.append_nil, List.cons_append, List.nil_append, Bool.and_self]) ?_; rintro r rfl; refine ⟨(by first | rfl | simp only [noName, namesAll, AV.names, names_ds, go_sem, Bool.and_self]), A_run ?_⟩; simp only [go_sem])
        refine A_nil ?_
        simp only [Thn, InB]
        obtain ⟨h1, h2⟩ := eqL_take p l l' i l[i] l'[i] (List.getElem?_eq_getElem hlt) (List.getElem?_eq_getElem hlt') hpre
        repeat (first
            | refine A_seq ?_
            | refine A_block ?_
            | (refine A_region (A_run ?_); simp only [go_sem]; refine A_nil ?_; simp only [Thn, InB])
            | (refine A_condt ?_ ?_; focus (simp only [evo, lk, lk1, lk2, Nat.reduceDiv, Nat.reduceMod]; done))
            | (refine A_condf ?_ ?_; focus (simp only [evo, lk, lk1, lk2, Nat.reduceDiv, Nat.reduceMod]; done))
            | (refine A_skip ?_; simp only [Thn, InB])
            | (refine A_exit ?_; simp only [Thn, InB, reduceIte, Nat.reduceEqDiff])
            | refine A_ret ?_)
        refine A_cond rfl (fun h => ?_) (fun h => ?_)
        · have hb : p l[i] l'[i] = false := by simpa using h
          repeat (first
              | refine A_seq ?_
              | refine A_block ?_
              | (refine A_region (A_run ?_); simp only [go_sem]; refine A_nil ?_; simp only [Thn, InB])
              | (refine A_condt ?_ ?_; focus (simp only [evo, lk, lk1, lk2, Nat.reduceDiv, Nat.reduceMod]; done))
              | (refine A_condf ?_ ?_; focus (simp only [evo, lk, lk1, lk2, Nat.reduceDiv, Nat.reduceMod]; done))
              | (refine A_skip ?_; simp only [Thn, InB])
              | (refine A_exit ?_; simp only [Thn, InB, reduceIte, Nat.reduceEqDiff])
              | refine A_ret ?_)
          exact ⟨_, rfl, [], _, fin_pure rfl (Le.refl _), by rw [h2 hb], rfl⟩
        · have hb : p l[i] l'[i] = true := by simpa using h
          have hw := wrap_succ (i := i) (by omega)
          repeat (first
              | refine A_seq ?_
              | refine A_block ?_
              | (refine A_region (A_run ?_); simp only [go_sem, hw]; refine A_nil ?_; simp only [Thn, InB])
              | (refine A_condt ?_ ?_; focus (simp only [evo, lk, lk1, lk2, Nat.reduceDiv, Nat.reduceMod]; done))
              | (refine A_condf ?_ ?_; focus (simp only [evo, lk, lk1, lk2, Nat.reduceDiv, Nat.reduceMod]; done))
              | (refine A_skip ?_; simp only [Thn, InB])
              | (refine A_exit ?_; simp only [Thn, InB, reduceIte, Nat.reduceEqDiff])
              | refine A_ret ?_)
          refine hR _ ⟨⟨i + 1, by omega, by rw [h1, hb]⟩, by simp only; omega, ?_⟩
          ((try dsimp only); refine Sb.mk ?_ ?_ ?_ ?_ ?_ ?_; (focus rfl); (focus (repeat (first | exact eSub_nil _ | refine eSub_cons rfl ?_))); (focus exact ⟨_, rfl⟩); (focus (first | exact Nat.zero_le _ | exact Nat.le_refl _)); (focus (first | rfl | simp only [envBelow, List.all_cons, List.all_nil, namesAll, AV.names, names_ds, go_sem])); (focus (first | rfl | simp only [List.all_cons, List.all_nil, boxBelow, namesAll, AV.names, names_ds, go_sem])))
      · have hge : i = l.length := by simp at h; omega
        subst hge
        have he : eqL p l l' = true := by
          have := hpre
          rwa [List.take_of_length_le (Nat.le_refl _), List.take_of_length_le (by omega)] at this
        repeat (first
            | refine A_seq ?_
            | refine A_block ?_
            | (refine A_region (A_run ?_); simp only [go_sem]; refine A_nil ?_; simp only [Thn, InB])
            | (refine A_condt ?_ ?_; focus (simp only [evo, lk, lk1, lk2, Nat.reduceDiv, Nat.reduceMod]; done))
            | (refine A_condf ?_ ?_; focus (simp only [evo, lk, lk1, lk2, Nat.reduceDiv, Nat.reduceMod]; done))
            | (refine A_skip ?_; simp only [Thn, InB])
            | (refine A_exit ?_; simp only [Thn, InB, reduceIte, Nat.reduceEqDiff])
            | refine A_ret ?_)
        exact ⟨_, rfl, [], _, fin_pure rfl (Le.refl _), by rw [he], rfl⟩

/-- Two values but for what their lists have. -/
def flat : V → V → Bool
  | .mk k s b n f l m, .mk k' s' b' n' f' l' m' => (((((((k : Int) == (k' : Int)) && (s.toList == s'.toList)) && (b == b')) && (n == n')) && ((f : Int) == (f' : Int))) && ((l.length : Int) == (l'.length : Int))) && ((m.length : Int) == (m'.length : Int))
set_option maxHeartbeats 4000000 in
set_option maxRecDepth 100000 in
theorem flat_c {W0 : World} (x y : V) : APure Tryd.prog W0 61 [va x, va y] (· = .ret (.d (.v (.bool (flat x y))))) := by
  obtain ⟨k, s, b, n, f, l, m⟩ := x
  obtain ⟨k', s', b', n', f', l', m'⟩ := y
  refine A_body Tryd.func61 rfl (by simp [Tryd.ntmps61]) ?_
  simp only [Tryd.ntmps61, Tryd.results61, mkEnv, List.length_nil, va, vD, vDs_map, pDs_map, List.map_cons, List.map_nil]
  repeat (first
      | refine A_seq ?_
      | refine A_block ?_
      | (refine A_region (A_run ?_); simp only [go_sem]; refine A_nil ?_; simp only [Thn, InB])
      | (refine A_condt ?_ ?_; focus (simp only [evo, lk, lk1, lk2, Nat.reduceDiv, Nat.reduceMod]; done))
      | (refine A_condf ?_ ?_; focus (simp only [evo, lk, lk1, lk2, Nat.reduceDiv, Nat.reduceMod]; done))
      | (refine A_skip ?_; simp only [Thn, InB])
      | (refine A_exit ?_; simp only [Thn, InB, reduceIte, Nat.reduceEqDiff])
      | refine A_ret ?_)
  (repeat (first | refine A_seq ?_ | refine A_block ?_))
  (first | refine A_quietG (gs := [none, none, none, none, none, none, some (some 10, true), some (some 10, true), some (some 10, true), some (some 10, true), some (some 10, true), none, none, some (some 17, true), some (some 17, true), some (some 17, true), some (some 17, true), some (some 17, true), none, none, some (some 24, true), some (some 24, true), some (some 24, true), some (some 24, true), some (some 24, true), none, none, some (some 31, true), some (some 31, true), some (some 31, true), some (some 31, true), some (some 31, true), some (some 31, true), some (some 31, true), none, none, some (some 40, true), some (some 40, true), some (some 40, true), some (some 40, true), some (some 40, true), some (some 40, true), some (some 40, true), none, none, some (some 49, true), some (some 49, true), some (some 49, true), some (some 49, true), some (some 49, true), some (some 49, true), some (some 49, true), none, none]) mixedO (by kernel_rfl) (by kernel_rfl) rfl (aqg_run ?_) | refine A_calmG (gs := [none, none, none, none, none, none, some (some 10, true), some (some 10, true), some (some 10, true), some (some 10, true), some (some 10, true), none, none, some (some 17, true), some (some 17, true), some (some 17, true), some (some 17, true), some (some 17, true), none, none, some (some 24, true), some (some 24, true), some (some 24, true), some (some 24, true), some (some 24, true), none, none, some (some 31, true), some (some 31, true), some (some 31, true), some (some 31, true), some (some 31, true), some (some 31, true), some (some 31, true), none, none, some (some 40, true), some (some 40, true), some (some 40, true), some (some 40, true), some (some 40, true), some (some 40, true), some (some 40, true), none, none, some (some 49, true), some (some 49, true), some (some 49, true), some (some 49, true), some (some 49, true), some (some 49, true), some (some 49, true), none, none]) (by kernel_rfl) rfl (aqg_run ?_)); simp only [runG, go_sem]
  (try (refine aqg_nil ?_; (try simp only [Thn, InB])))
  repeat (first
      | refine A_seq ?_
      | refine A_block ?_
      | (refine A_region (A_run ?_); simp only [go_sem]; refine A_nil ?_; simp only [Thn, InB])
      | (refine A_condt ?_ ?_; focus (simp only [evo, lk, lk1, lk2, Nat.reduceDiv, Nat.reduceMod]; done))
      | (refine A_condf ?_ ?_; focus (simp only [evo, lk, lk1, lk2, Nat.reduceDiv, Nat.reduceMod]; done))
      | (refine A_skip ?_; simp only [Thn, InB])
      | (refine A_exit ?_; simp only [Thn, InB, reduceIte, Nat.reduceEqDiff])
      | refine A_ret ?_)
  exact ⟨_, rfl, [], _, fin_pure rfl (Le.refl _), rfl, rfl⟩
end Go.Proofs.YtfbegbpipmgfiaaDoor.Lift
end
section
/- The lift: Same, SamePairs. No conditions. -/
set_option linter.unusedVariables false
set_option linter.unusedSimpArgs false
namespace Go.Proofs.YtfbegbpipmgfiaaDoor.Lift
open Go Go.RowKit

/-- For every value, if it is so for what is in it. -/
theorem V.ind {p : V → Prop} (h : ∀ k s b n f l m, (∀ x ∈ l, p x) → (∀ x ∈ m, p x.2) → p (.mk k s b n f l m)) : ∀ x, p x
  | .mk k s b n f l m => h k s b n f l m (fun x hx => V.ind h x) (fun x hx => V.ind h x.2)
termination_by x => SizeOf.sizeOf x
decreasing_by
  · have := List.sizeOf_lt_of_mem hx
    simp only [V.mk.sizeOf_spec]
    omega
  · have := List.sizeOf_lt_of_mem hx
    obtain ⟨a, b⟩ := x
    simp only [V.mk.sizeOf_spec, Prod.mk.sizeOf_spec] at this ⊢
    omega
theorem ab_rV {l : List V} (h : AB (rV l)) : l.length * 96 ≤ 140737488355328 := by
  simp only [AB, rV] at h
  cases h with
  | rows _ _ _ h _ => simpa using h
theorem ab_rP {m : List (ByteArray × V)} (h : AB (rP m)) : m.length * 112 ≤ 140737488355328 := by
  simp only [AB, rP] at h
  cases h with
  | rows _ _ _ h _ => simpa using h
theorem ab_va {k : Nat} {s : ByteArray} {b : Bool} {n : Int} {f : Nat} {l : List V} {m : List (ByteArray × V)} (h : AB (va (.mk k s b n f l m))) : l.length * 96 ≤ 140737488355328 ∧ m.length * 112 ≤ 140737488355328 := by
  simp only [AB, va, vD, vDs_map, pDs_map] at h
  exact ⟨ab_rV (h (.rows 7 96 (l.map vD)) (by simp)), ab_rP (h (.rows 8 112 (m.map pD)) (by simp))⟩

mutual
def same : V → V → Bool
  | .mk k s b n f l m, .mk k' s' b' n' f' l' m' => flat (.mk k s b n f l m) (.mk k' s' b' n' f' l' m') && sames l l' && sameP m m'
def sames : List V → List V → Bool
  | [], [] => true
  | x :: l, y :: l' => same x y && sames l l'
  | _, _ => false
def sameP : List (ByteArray × V) → List (ByteArray × V) → Bool
  | [], [] => true
  | (k, x) :: l, (k', y) :: l' => ((k.toList == k'.toList) && same x y) && sameP l l'
  | _, _ => false
end
def sameK (p q : ByteArray × V) : Bool := (p.1.toList == q.1.toList) && same p.2 q.2
theorem sames_eqL : ∀ l l' : List V, sames l l' = eqL same l l'
  | [], [] => by simp only [sames, eqL]
  | x :: l, y :: l' => by simp only [sames, eqL, sames_eqL l l']
  | [], _ :: _ => by simp only [sames, eqL]
  | _ :: _, [] => by simp only [sames, eqL]
theorem sameP_eqL : ∀ l l' : List (ByteArray × V), sameP l l' = eqL sameK l l'
  | [], [] => by simp only [sameP, eqL]
  | (k, x) :: l, (k', y) :: l' => by simp only [sameP, eqL, sameK, sameP_eqL l l']
  | [], _ :: _ => by simp only [sameP, eqL]
  | _ :: _, [] => by simp only [sameP, eqL]

set_option maxHeartbeats 4000000 in
set_option maxRecDepth 100000 in
theorem same1_c {W0 : World} (p q : ByteArray × V) (h : APure Tryd.prog W0 42 [va p.2, va q.2] (· = .ret (.d (.v (.bool (same p.2 q.2)))))) : APure Tryd.prog W0 60 [pa p, pa q] (· = .ret (.d (.v (.bool (sameK p q))))) := by
  have tx := take_len (l := (vD p.2).map AV.d) (n := 7) (by rw [List.length_map, vD_len])
  have ty := take_len (l := (vD q.2).map AV.d) (n := 7) (by rw [List.length_map, vD_len])
  have lx := vD_len p.2
  have ly := vD_len q.2
  refine A_body Tryd.func60 rfl (by simp [Tryd.ntmps60]) ?_
  simp only [Tryd.ntmps60, Tryd.results60, mkEnv, List.length_nil, pa, pD, List.map_cons]
  repeat (first
      | refine A_seq ?_
      | refine A_block ?_
      | (refine A_region (A_run ?_); simp only [go_sem, tx, ty, lx, ly]; refine A_nil ?_; simp only [Thn, InB])
      | (refine A_condt ?_ ?_; focus (simp only [evo, lk, lk1, lk2, Nat.reduceDiv, Nat.reduceMod]; done))
      | (refine A_condf ?_ ?_; focus (simp only [evo, lk, lk1, lk2, Nat.reduceDiv, Nat.reduceMod]; done))
      | (refine A_skip ?_; simp only [Thn, InB])
      | (refine A_exit ?_; simp only [Thn, InB, reduceIte, Nat.reduceEqDiff])
      | refine A_ret ?_)
  (repeat (first | refine A_seq ?_ | refine A_block ?_))
  (first | refine A_quietG (gs := [none, none, none, none, none, none, some (some 10, true), some (some 10, true), some (some 10, true), some (some 10, true), some (some 10, true), none, none]) mixedO (by kernel_rfl) (by kernel_rfl) rfl (aqg_run ?_) | refine A_calmG (gs := [none, none, none, none, none, none, some (some 10, true), some (some 10, true), some (some 10, true), some (some 10, true), some (some 10, true), none, none]) (by kernel_rfl) rfl (aqg_run ?_)); simp only [runG, go_sem, tx, ty, lx, ly]
  (try (refine aqg_nil ?_; (try simp only [Thn, InB])))
  (refine aqg_callg0 (fun hh => h) rfl rfl (fun hh => ?_) (by first | assumption | simp only [go_sem]) (by first | rfl | simp only [noNames, namesAll, AV.names, names_ds, go_sem, List.append_nil, List.cons_append, List.nil_append, Bool.and_self]) (by first | rfl | simp only [noName, namesAll, AV.names, names_ds, go_sem, Bool.and_self]) ?_; focus (simp only [reduceIte, Bool.false_eq_true, Bool.not_eq_true'] at hh; constructor <;> simp only [go_sem, resE_ap, resA, hh]))
  (refine aqg_run ?_; simp only [runG, go_sem])
  (try (refine aqg_nil ?_; (try simp only [Thn, InB])))
  repeat (first
      | refine A_seq ?_
      | refine A_block ?_
      | (refine A_region (A_run ?_); simp only [go_sem]; refine A_nil ?_; simp only [Thn, InB])
      | (refine A_condt ?_ ?_; focus (simp only [evo, lk, lk1, lk2, Nat.reduceDiv, Nat.reduceMod]; done))
      | (refine A_condf ?_ ?_; focus (simp only [evo, lk, lk1, lk2, Nat.reduceDiv, Nat.reduceMod]; done))
      | (refine A_skip ?_; simp only [Thn, InB])
      | (refine A_exit ?_; simp only [Thn, InB, reduceIte, Nat.reduceEqDiff])
      | refine A_ret ?_)
  exact ⟨_, rfl, [], _, fin_pure rfl (Le.refl _), rfl, rfl⟩
set_option maxHeartbeats 4000000 in
set_option maxRecDepth 100000 in
theorem sameP_of {W0 : World} (m m' : List (ByteArray × V)) (h : ∀ p ∈ m, ∀ y, APure Tryd.prog W0 42 [va p.2, va y] (· = .ret (.d (.v (.bool (same p.2 y)))))) : APure Tryd.prog W0 41 [rP m, rP m'] (· = .ret (.d (.v (.bool (sameP m m'))))) := by
  refine APure.known fun hk => ?_
  have hb := ab_rP (hk (rP m) (by simp))
  refine A_body Tryd.func41 rfl (by simp [Tryd.ntmps41]) ?_
  simp only [Tryd.ntmps41, Tryd.results41, mkEnv, List.length_nil, rP]
  repeat (first
      | refine A_seq ?_
      | refine A_block ?_
      | (refine A_region (A_run ?_); simp only [go_sem]; refine A_nil ?_; simp only [Thn, InB])
      | (refine A_condt ?_ ?_; focus (simp only [evo, lk, lk1, lk2, Nat.reduceDiv, Nat.reduceMod]; done))
      | (refine A_condf ?_ ?_; focus (simp only [evo, lk, lk1, lk2, Nat.reduceDiv, Nat.reduceMod]; done))
      | (refine A_skip ?_; simp only [Thn, InB])
      | (refine A_exit ?_; simp only [Thn, InB, reduceIte, Nat.reduceEqDiff])
      | refine A_ret ?_)
  refine A_region (A_run ?_)
  simp only [go_sem]
  (refine A_call (eqp 60 (by simp only [go_sem]) m m' sameK hb (fun x hx y _ => same1_c x y (h x hx y.2))) rfl rfl rfl rfl (by first | assumption | simp only [go_sem]) rfl (by first | rfl | simp only [noNames, namesAll, AV.names, names_ds, go_sem, List.append_nil, List.cons_append, List.nil_append, Bool.and_self]) ?_; rintro r rfl; refine ⟨(by first | rfl | simp only [noName, namesAll, AV.names, names_ds, go_sem, Bool.and_self]), A_run ?_⟩; simp only [go_sem])
  refine A_nil ?_
  simp only [Thn, InB]
  repeat (first
      | refine A_seq ?_
      | refine A_block ?_
      | (refine A_region (A_run ?_); simp only [go_sem]; refine A_nil ?_; simp only [Thn, InB])
      | (refine A_condt ?_ ?_; focus (simp only [evo, lk, lk1, lk2, Nat.reduceDiv, Nat.reduceMod]; done))
      | (refine A_condf ?_ ?_; focus (simp only [evo, lk, lk1, lk2, Nat.reduceDiv, Nat.reduceMod]; done))
      | (refine A_skip ?_; simp only [Thn, InB])
      | (refine A_exit ?_; simp only [Thn, InB, reduceIte, Nat.reduceEqDiff])
      | refine A_ret ?_)
  exact ⟨_, rfl, [], _, fin_pure rfl (Le.refl _), by rw [sameP_eqL], rfl⟩
set_option maxHeartbeats 4000000 in
set_option maxRecDepth 100000 in
theorem same_c {W0 : World} : ∀ x y : V, APure Tryd.prog W0 42 [va x, va y] (· = .ret (.d (.v (.bool (same x y))))) := by
  intro x
  refine V.ind (p := fun x => ∀ y : V, APure Tryd.prog W0 42 [va x, va y] (· = .ret (.d (.v (.bool (same x y)))))) ?_ x
  rintro k s b n f l m hl hm ⟨k', s', b', n', f', l', m'⟩
  refine APure.known fun hk => ?_
  obtain ⟨hb1, hb2⟩ := ab_va (hk (va (.mk k s b n f l m)) (by simp))
  have hflat := flat_c (W0 := W0) (.mk k s b n f l m) (.mk k' s' b' n' f' l' m')
  refine A_body Tryd.func42 rfl (by simp [Tryd.ntmps42]) ?_
  simp only [va, vD, vDs_map, pDs_map, List.map_cons, List.map_nil] at hflat
  simp only [Tryd.ntmps42, Tryd.results42, mkEnv, List.length_nil, va, vD, vDs_map, pDs_map, List.map_cons, List.map_nil]
  repeat (first
      | refine A_seq ?_
      | refine A_block ?_
      | (refine A_region (A_run ?_); simp only [go_sem]; refine A_nil ?_; simp only [Thn, InB])
      | (refine A_condt ?_ ?_; focus (simp only [evo, lk, lk1, lk2, Nat.reduceDiv, Nat.reduceMod]; done))
      | (refine A_condf ?_ ?_; focus (simp only [evo, lk, lk1, lk2, Nat.reduceDiv, Nat.reduceMod]; done))
      | (refine A_skip ?_; simp only [Thn, InB])
      | (refine A_exit ?_; simp only [Thn, InB, reduceIte, Nat.reduceEqDiff])
      | refine A_ret ?_)
  (repeat (first | refine A_seq ?_ | refine A_block ?_))
  (first | refine A_quietG (gs := [none, none, none, none, some (some 8, true), some (some 8, true), some (some 8, true), some (some 8, true), some (some 8, true), none, none, some (some 15, true), some (some 15, true), some (some 15, true), some (some 15, true), some (some 15, true), none, none]) mixedO (by kernel_rfl) (by kernel_rfl) rfl (aqg_run ?_) | refine A_calmG (gs := [none, none, none, none, some (some 8, true), some (some 8, true), some (some 8, true), some (some 8, true), some (some 8, true), none, none, some (some 15, true), some (some 15, true), some (some 15, true), some (some 15, true), some (some 15, true), none, none]) (by kernel_rfl) rfl (aqg_run ?_)); simp only [runG, go_sem]
  (try (refine aqg_nil ?_; (try simp only [Thn, InB])))
  (refine aqg_call (caps := []) (hflat) rfl rfl rfl (by first | assumption | simp only [go_sem]) (by first | rfl | simp only [noNames, namesAll, AV.names, names_ds, go_sem, List.append_nil, List.cons_append, List.nil_append, Bool.and_self]) (by first | rfl | simp only [noName, namesAll, AV.names, names_ds, go_sem, Bool.and_self]) ?_)
  (refine aqg_run ?_; simp only [runG, go_sem])
  (try (refine aqg_nil ?_; (try simp only [Thn, InB])))
  (refine aqg_callg0 (fun hh => eqv 42 (by simp only [go_sem]) l l' same hb1 (fun x hx y _ => hl x hx y)) rfl rfl (fun hh => ?_) (by first | assumption | simp only [go_sem]) (by first | rfl | simp only [noNames, namesAll, AV.names, names_ds, go_sem, List.append_nil, List.cons_append, List.nil_append, Bool.and_self]) (by first | rfl | simp only [noName, namesAll, AV.names, names_ds, go_sem, Bool.and_self]) ?_; focus (simp only [reduceIte, Bool.false_eq_true, Bool.not_eq_true'] at hh; constructor <;> simp only [go_sem, resE_ap, resA, hh]))
  (refine aqg_run ?_; simp only [runG, go_sem])
  (try (refine aqg_nil ?_; (try simp only [Thn, InB])))
  (refine aqg_callg0 (fun hh => sameP_of m m' hm) rfl rfl (fun hh => ?_) (by first | assumption | simp only [go_sem]) (by first | rfl | simp only [noNames, namesAll, AV.names, names_ds, go_sem, List.append_nil, List.cons_append, List.nil_append, Bool.and_self]) (by first | rfl | simp only [noName, namesAll, AV.names, names_ds, go_sem, Bool.and_self]) ?_; focus (simp only [reduceIte, Bool.false_eq_true, Bool.not_eq_true'] at hh; constructor <;> simp only [go_sem, resE_ap, resA, hh]))
  (refine aqg_run ?_; simp only [runG, go_sem])
  (try (refine aqg_nil ?_; (try simp only [Thn, InB])))
  repeat (first
      | refine A_seq ?_
      | refine A_block ?_
      | (refine A_region (A_run ?_); simp only [go_sem]; refine A_nil ?_; simp only [Thn, InB])
      | (refine A_condt ?_ ?_; focus (simp only [evo, lk, lk1, lk2, Nat.reduceDiv, Nat.reduceMod]; done))
      | (refine A_condf ?_ ?_; focus (simp only [evo, lk, lk1, lk2, Nat.reduceDiv, Nat.reduceMod]; done))
      | (refine A_skip ?_; simp only [Thn, InB])
      | (refine A_exit ?_; simp only [Thn, InB, reduceIte, Nat.reduceEqDiff])
      | refine A_ret ?_)
  exact ⟨_, rfl, [], _, fin_pure rfl (Le.refl _), by simp only [same, sames_eqL], rfl⟩
theorem samePairs_c {W0 : World} (m m' : List (ByteArray × V)) : APure Tryd.prog W0 41 [rP m, rP m'] (· = .ret (.d (.v (.bool (sameP m m'))))) := sameP_of m m' fun p _ y => same_c p.2 y
end Go.Proofs.YtfbegbpipmgfiaaDoor.Lift
end
section
/- The lift: a function that does something, and answers the error's number with which it panics (penstock/value.caught). No conditions: words and their laws. -/
set_option linter.unusedVariables false
set_option linter.unusedSimpArgs false
namespace Go.Proofs.YtfbegbpipmgfiaaDoor.Lift
open Go Go.RowKit

namespace Val
theorem assert_errno (c : Int) (w : World) : (Instr.typeAssert (.iface 27 (.int .i64 c)) 20 27 false).run Tryd.prog w = .ok (.int .i64 c) w := by kernel_rfl
theorem make_func (P : Program) : ∀ (fn : Fn) (first cap : Array Value) (w : World), (Instr.makeFunc fn first cap).run P w = .ok (.func fn first cap) w := fun _ _ _ _ => rfl
theorem caught_dies (p : Addr) (x : Int) (c : Int) (older : List PanicEntry) (w : World) (hc : w.cell? p = some (.int .i64 x)) (hz : w.frozen? p = false) :
    CallsD Tryd.prog 83 #[.pointer (some p)] (.panicking ({ v := .iface 27 (.int .i64 c), recovered := false } :: older)) w fun e u' w' =>
      e = .returned (.tuple #[]) ∧ u' = .panicking ({ v := .iface 27 (.int .i64 c), recovered := true } :: older) ∧ w' = w.setCell p (.int .i64 c) := by
  have hta := assert_errno c
  refine callsD_of_wpS Tryd.func83 rfl fun c₀ cs hu => ?_
  apply wpS_seq
  apply wpS_region
  simp [wpOpsS, go_sem, recoverD, hu, Tryd.ntmps83, Exit.thenS]
  refine wpS_of_wp ?_
  show Code.wp _ _ _ { tmps := #[.pointer (some p), .iface 27 (.int .i64 c), .iface 27 (.int .i64 c), undef, undef, undef, undef], defers := [] } _
  go_wp2
  simp [bodyPostS, results, Tryd.results83]
theorem caught_idle (p : Addr) (w : World) :
    CallsD Tryd.prog 83 #[.pointer (some p)] .returning w fun e u' w' => e = .returned (.tuple #[]) ∧ u' = .returning ∧ w' = w := by
  refine callsD_of_wpS Tryd.func83 rfl fun c₀ cs hu => ?_
  apply wpS_seq
  apply wpS_region
  simp [wpOpsS, go_sem, recoverD, hu, Tryd.ntmps83, Exit.thenS]
  refine wpS_of_wp ?_
  show Code.wp _ _ _ { tmps := #[.pointer (some p), .nilIface, .nilIface, undef, undef, undef, undef], defers := [] } _
  go_wp2
  cases c₀
  simp at hu
  simp [bodyPostS, results, Tryd.results83, hu]
set_option maxHeartbeats 1000000 in
set_option maxRecDepth 100000 in
theorem caught_calls (F : FuncId) (caps : Array Value) (w : World) (ok : World → Prop) (bad : Int → World → Prop)
    (hF : ∀ w : World, (callFunc F caps).run Tryd.prog w = .ok (.enter F caps) w)
    (h : Calls Tryd.prog F caps (w.alloc (.cells #[.int .i64 0] 27)) fun e w' =>
      (e = .returned (.tuple #[]) ∧ w'.cell? ⟨w.heap.size, 0, none⟩ = some (.int .i64 0) ∧ w'.frozen? ⟨w.heap.size, 0, none⟩ = false ∧ ok w') ∨ ∃ c, e = .panicked [{ v := .iface 27 (.int .i64 c), recovered := false }] ∧ w'.cell? ⟨w.heap.size, 0, none⟩ = some (.int .i64 0) ∧ w'.frozen? ⟨w.heap.size, 0, none⟩ = false ∧ bad c w') :
    Calls Tryd.prog 69 #[.func (.func F) #[] caps] w fun e w' =>
      (e = .returned (.int .i64 0) ∧ ∃ w1, ok w1 ∧ w' = w1.setCell ⟨w.heap.size, 0, none⟩ (.int .i64 0)) ∨ (∃ c, e = .returned (.int .i64 c) ∧ ∃ w1, bad c w1 ∧ w' = w1.setCell ⟨w.heap.size, 0, none⟩ (.int .i64 c)) := by
  have hmf := make_func Tryd.prog
  have HF := Lib.hid hF
  clear hF
  go_enter_defers Tryd.func69, Tryd.ntmps69
  go_wp2_with fail
  rw [HF.out, Oper.upon_enter]
  refine h.mono ?_
  rintro e w1 (⟨rfl, h0, z0, hk⟩ | ⟨c, rfl, h0, z0, hk⟩)
  · go_wp2
    refine leaves_cons (f := 83) (args := #[.pointer (some ⟨w.heap.size, 0, none⟩)]) (by simp) (by simp [go_sem]) ?_
    refine (caught_idle _ _).mono ?_
    rintro e u' w'' ⟨rfl, rfl, rfl⟩
    have hh := World.cell?_setCell_same (w := w1) (a := ⟨w.heap.size, 0, none⟩) (v := .int .i64 0) h0
    exact ⟨.int .i64 0, by simp [results, Tryd.results69, go_sem, hh], .inl ⟨rfl, _, hk, rfl⟩⟩
  · go_wp2
    refine leaves_cons (f := 83) (args := #[.pointer (some ⟨w.heap.size, 0, none⟩)]) (by simp) (by simp [go_sem]) ?_
    refine (caught_dies _ 0 c [] _ h0 z0).mono ?_
    rintro e u' w'' ⟨rfl, rfl, rfl⟩
    have hh := World.cell?_setCell_same (w := w1) (a := ⟨w.heap.size, 0, none⟩) (v := .int .i64 c) h0
    exact ⟨.int .i64 c, by simp [results, Tryd.results69, go_sem, hh], .inr ⟨c, rfl, _, hk, rfl⟩⟩

/-- What it comes to, by what the function that it was handed does. -/
theorem A_caught {W0 : World} {g : FuncId} {caps : List AV} {L : List Box} {R R' : Res → List Box → Prop} (hg : callable Tryd.prog g = true) (h : ACalls Tryd.prog W0 g caps L R)
    (hR : ∀ r L', R r L' → (r = .ret (.tup []) ∧ R' (.ret (.d (.v (.int .i64 0)))) L') ∨ ∃ c, r = .panic (.d (.v (.iface 27 (.int .i64 c)))) ∧ R' (.ret (.d (.v (.int .i64 c)))) L') :
    ACalls Tryd.prog W0 69 [.fn g caps] L R' := by
  intro M m w us hC ha
  obtain ⟨u, rfl⟩ : ∃ u, us = #[u] := by
    have hl := ha.length
    simp only [List.length_cons, List.length_nil, Array.length_toList] at hl
    exact ⟨us[0], by apply Array.ext'; simp; cases us with | mk l => cases l with | nil => simp at hl | cons x l => cases l with | nil => rfl | cons => simp at hl⟩
  simp only [RAs, RA, and_true] at ha
  obtain ⟨cs, rfl, ha⟩ := ha
  have hlow : W0.heap.size ≤ w.heap.size := hC.base.size
  have hf1 : Fr (fun _ => False) w (w.alloc (.cells #[.int .i64 0] 27)) := Fr.alloc w _
  have hM1 : ∀ k, k < w.heap.size → (M k ∨ k = w.heap.size) → M k := fun k hk hx => hx.resolve_right (by omega)
  have hC1 : C W0 ⟨w.alloc (.cells #[.int .i64 0] 27), fun k => M k ∨ k = w.heap.size, m, L.length, []⟩ (fun k => M k ∨ k = w.heap.size) m ⟨0, [], L⟩ nobody (w.alloc (.cells #[.int .i64 0] 27)) := by
    have mLt : ∀ k, (M k ∨ k = w.heap.size) → k < (w.alloc (.cells #[.int .i64 0] 27)).heap.size := by
      rintro k (hk | rfl)
      · have := hC.mLt k hk
        simp
        omega
      · simp
    exact {
      base := hC.base.trans hf1
      fr := Fr.refl _ _
      eLt := mLt
      mLow := by
        rintro k (hk | rfl)
        · exact hC.mLow k hk
        · exact hlow
      mUp := fun _ x => x
      mNew := fun _ x => .inl x
      mLt := mLt
      mNo := hC.mNo
      mIn := fun b k hb => .inl (hC.mIn b k hb)
      inj := hC.inj
      oldv := fun _ _ _ _ => rfl
      oldr := fun _ _ _ hk => .inl hk
      new := fun b k hb hk => by
        have := hC.mNo b hb
        rw [this] at hk
        cases hk
      len := Nat.le_refl _
      box := fun b x hb => (hC.box b x hb).mono hf1 (fun _ _ x => x.elim) hM1 (fun _ _ x => x)
      env := fun t x hx => by simp [lk_nil] at hx
      wide := rfl
      defers := rfl }
  have ha1 := RAs.mono (M' := fun k => M k ∨ k = w.heap.size) hf1 (fun _ _ x => x.elim) hM1 _ _ ha
  refine (caught_calls g cs w (fun w' => ∃ L' M' m', R' (.ret (.d (.v (.int .i64 0)))) L' ∧ C W0 ⟨w.alloc (.cells #[.int .i64 0] 27), fun k => M k ∨ k = w.heap.size, m, L.length, []⟩ M' m' ⟨0, [], L'⟩ nobody w')
    (fun c w' => ∃ L' M' m', R' (.ret (.d (.v (.int .i64 c)))) L' ∧ C W0 ⟨w.alloc (.cells #[.int .i64 0] 27), fun k => M k ∨ k = w.heap.size, m, L.length, []⟩ M' m' ⟨0, [], L'⟩ nobody w')
    (fun w => run_callFunc hg _ w) ((h _ m _ cs hC1 ha1).mono ?_)).mono ?_
  · rintro e w' ⟨r, L', M', m', hr, hres, hC2⟩
    have hblk : w'.heap[w.heap.size]? = (w.alloc (.cells #[.int .i64 0] 27)).heap[w.heap.size]? := hC2.fr.block _ (by simp) (fun ⟨b, _, hb⟩ => by
      have := hC.mLt _ (hC.mIn b _ hb)
      omega)
    have h0 : w'.cell? ⟨w.heap.size, 0, none⟩ = some (.int .i64 0) := (World.cell?_of_block (w := w.alloc (.cells #[.int .i64 0] 27)) (a := ⟨w.heap.size, 0, none⟩) hblk).trans (by simp)
    have z0 : w'.frozen? ⟨w.heap.size, 0, none⟩ = false := (World.frozen?_of_block (w := w.alloc (.cells #[.int .i64 0] 27)) (a := ⟨w.heap.size, 0, none⟩) hblk).trans (by simp)
    rcases hR r L' hr with ⟨rfl, h1⟩ | ⟨c, rfl, h1⟩
    · cases e with
      | returned u =>
        simp only [ResR, RA] at hres
        obtain ⟨us, rfl, hu⟩ := hres
        have : us = #[] := by
          have := hu.length
          simp at this
          exact Array.eq_empty_of_size_eq_zero this.symm
        subst this
        exact .inl ⟨rfl, h0, z0, L', M', m', h1, hC2⟩
      | panicked c => exact hres.elim
      | outgrown => exact hres.elim
    · cases e with
      | returned u => exact hres.elim
      | panicked ch =>
        obtain ⟨u, rfl, hu⟩ := hres
        obtain rfl := hu.v_inv.1
        exact .inr ⟨c, rfl, h0, z0, L', M', m', h1, hC2⟩
      | outgrown => exact hres.elim
  · have fin : ∀ (c : Int) (w1 : World), (∃ L' M' m', R' (.ret (.d (.v (.int .i64 c)))) L' ∧ C W0 ⟨w.alloc (.cells #[.int .i64 0] 27), fun k => M k ∨ k = w.heap.size, m, L.length, []⟩ M' m' ⟨0, [], L'⟩ nobody w1) →
        ∃ r L' M' m', R' r L' ∧ ResR M' m' (w1.setCell ⟨w.heap.size, 0, none⟩ (.int .i64 c)) r (.returned (.int .i64 c)) ∧ C W0 ⟨w, M, m, L.length, []⟩ M' m' ⟨0, [], L'⟩ nobody (w1.setCell ⟨w.heap.size, 0, none⟩ (.int .i64 c)) := by
      rintro c w1 ⟨L', M', m', h1, h2⟩
      have hk : M' w.heap.size := h2.mUp _ (.inr rfl)
      have hblk : w1.heap[w.heap.size]? = (w.alloc (.cells #[.int .i64 0] 27)).heap[w.heap.size]? := h2.fr.block _ (by simp) (fun ⟨b, _, hb⟩ => by
        have := hC.mLt _ (hC.mIn b _ hb)
        omega)
      have hcell : w1.heap[w.heap.size]? = some (Obj.cells #[.int .i64 0] 27 (0, 0)) := hblk.trans (heap_alloc_new w _)
      have hset : w1.setCell ⟨w.heap.size, 0, none⟩ (.int .i64 c) = w1.setRow w.heap.size #[.int .i64 c] := by
        rw [setCell_eq_setRow w1 w.heap.size 0 _ _ (0, 0) _ hcell]
        rfl
      have hf : Fr (fun i => i = w.heap.size) w1 (w1.setCell ⟨w.heap.size, 0, none⟩ (.int .i64 c)) := by
        rw [hset]
        exact Fr.setRow w1 _ _ _ _ hcell rfl rfl
      have hE : ∀ i, i < w1.heap.size → i = w.heap.size → M' i := fun i _ e => e ▸ hk
      have nob : ∀ b, m' b ≠ .at_ w.heap.size := fun b hb => by
        by_cases hbl : b < L.length
        · rcases h2.oldr b _ hbl hb with h3 | h3
          · have := hC.mLt _ (hC.mIn b _ h3)
            omega
          · simp at h3
            omega
        · have h3 := h2.new b _ (by simpa using hbl) hb
          simp at h3
          omega
      refine ⟨_, L', M', m', h1, RA.v_mk (M := M') (m := m') (w := w1.setCell ⟨w.heap.size, 0, none⟩ (.int .i64 c)) (x := .int .i64 c) rfl, { h2 with base := ?_, fr := ?_, eLt := hC.mLt, mUp := fun k hk => h2.mUp k (.inl hk), mNew := ?_, mLt := ?_, oldv := h2.oldv, oldr := ?_, new := ?_, box := ?_, env := ?_ }⟩
      · exact ⟨hf.os.trans h2.base.os, hf.tape.trans h2.base.tape, hf.output.trans h2.base.output, Nat.le_trans h2.base.size hf.size, fun i hi he => (hf.block i (Nat.lt_of_lt_of_le hi h2.base.size) (by omega)).trans (h2.base.block i hi he),
          fun i D t hi => by
            obtain ⟨D', h3, h4⟩ := h2.base.keep i D t hi
            obtain ⟨D'', h5, h6⟩ := hf.keep i D' t h3
            exact ⟨D'', h5, h6.trans h4⟩⟩
      · have h3 : Fr (fun k => ∃ b, b < L.length ∧ m b = .at_ k) w w1 := (Fr.weak hf1 fun _ _ x => x.elim).trans h2.fr
        refine ⟨hf.os.trans h3.os, hf.tape.trans h3.tape, hf.output.trans h3.output, Nat.le_trans h3.size hf.size, fun i hi he => (hf.block i (Nat.lt_of_lt_of_le hi h3.size) (by simp only at hi; omega)).trans (h3.block i hi he), fun i D t hi => ?_⟩
        obtain ⟨D', h3, h4⟩ := h3.keep i D t hi
        obtain ⟨D'', h5, h6⟩ := hf.keep i D' t h3
        exact ⟨D'', h5, h6.trans h4⟩
      · intro k hk
        rcases h2.mNew k hk with (h3 | rfl) | h3
        · exact .inl h3
        · exact .inr (Nat.le_refl _)
        · simp at h3
          exact .inr (by simp only; omega)
      · intro k hk
        exact Nat.lt_of_lt_of_le (h2.mLt k hk) hf.size
      · intro b k hb hk
        rcases h2.oldr b k hb hk with h3 | h3
        · exact .inl h3
        · simp at h3
          exact .inr (by simp only; omega)
      · intro b k hb hk
        have h3 := h2.new b k hb hk
        simp at h3
        simp only
        omega
      · intro b x hb
        exact (h2.box b x hb).mono hf hE (fun _ _ x => x) fun k hbk e => nob b (e ▸ hbk)
      · intro t x hx
        simp [lk_nil] at hx
    rintro e w' (⟨rfl, w1, hw1, rfl⟩ | ⟨c, rfl, w1, hw1, rfl⟩)
    · exact fin 0 w1 hw1
    · exact fin c w1 hw1
end Val
end Go.Proofs.YtfbegbpipmgfiaaDoor.Lift
end
section
/- The lift: what a row is handed, opened by its type. No conditions: words and their laws. -/
set_option linter.unusedVariables false
set_option linter.unusedSimpArgs false
namespace Go.Proofs.YtfbegbpipmgfiaaDoor.Lift
open Go Go.RowKit Go.WideShapes

/-- Cells that are data, as a type says. -/
inductive TyD (P : Program) : TypeId → List D → Prop
  | int (t : TypeId) (k : IntKind) (a : Int) (hu : P.underlying t = some (.int k)) (h : (Lit.int k a).wf = true) : TyD P t [.v (.int k a)]
  | str (t : TypeId) (s : ByteArray) (hu : P.underlying t = some .string) (h : s.size ≤ 140737488351232) : TyD P t [.v (.string s)]
  | bool (t : TypeId) (b : Bool) (hu : P.underlying t = some .bool) : TyD P t [.v (.bool b)]
  | float (t : TypeId) (k : FloatKind) (b : Nat) (hu : P.underlying t = some (.float k)) (h : (Lit.float k b).wf = true) : TyD P t [.v (.float k b)]
  | slice (t e sz bt : Nat) (l : List (List D)) (hu : P.underlying t = some (.slice e)) (hs : P.cellsOf e = sz) (hb : P.bytesOf e = bt) (hl : l.length * bt ≤ 140737488351232) (h : ∀ row ∈ l, TyD P e row) : TyD P t [.rows sz bt l]
  | struct (t : TypeId) (fs : Array Field) (dss : List (List D)) (hu : P.underlying t = some (.struct fs)) (hl : dss.length = fs.size) (h : ∀ (i : Nat) (f : Field) (ds : List D), fs[i]? = some f → dss[i]? = some ds → TyD P f.type ds) : TyD P t dss.flatten

/-- Cells that are data. -/
def Dts (w : World) (ds : List D) (us : List Value) : Prop := ds.length = us.length ∧ ∀ (i : Nat) (d : D) (u : Value), ds[i]? = some d → us[i]? = some u → RD (fun _ => False) w d u
theorem Dts.append {w : World} {a b : List D} {x y : List Value} (h : Dts w a x) (h' : Dts w b y) : Dts w (a ++ b) (x ++ y) := by
  refine ⟨by rw [List.length_append, List.length_append, h.1, h'.1], fun i d u hd hu => ?_⟩
  by_cases hi : i < a.length
  · rw [List.getElem?_append_left hi] at hd
    rw [List.getElem?_append_left (by rw [← h.1]; exact hi)] at hu
    exact h.2 i d u hd hu
  · rw [List.getElem?_append_right (by omega)] at hd
    rw [List.getElem?_append_right (by rw [← h.1]; omega), ← h.1] at hu
    exact h'.2 _ d u hd hu
theorem Dts.one {w : World} {d : D} {u : Value} (h : RD (fun _ => False) w d u) : Dts w [d] [u] :=
  ⟨rfl, fun i d' u' hd hu => match i, hd, hu with | 0, hd, hu => by cases hd; cases hu; exact h⟩
theorem Dts.ras {w : World} {ds : List D} {us : List Value} (h : Dts w ds us) : RAs (fun _ => False) (fun _ => .no) w (ds.map .d) us :=
  RAs.mk (by simpa using h.1) fun i x u hx hu => by
    rw [List.getElem?_map, Option.map_eq_some_iff] at hx
    obtain ⟨d, hd, rfl⟩ := hx
    simp only [RA]
    exact h.2 i d u hd hu
theorem spot_none {w : World} {a : Addr} {v : Value} (h : w.cell? a = some v) : a = ⟨a.block, a.off, none⟩ := by
  obtain ⟨b, o, s⟩ := a
  cases s with
  | none => rfl
  | some k =>
    unfold World.cell? at h
    split at h
    · simp at h
    · cases h
theorem rows_rd {w : World} {A : Option Addr} {sz bt c : Nat} {l : List (List D)} (hsz : 0 < sz) (hbt : 0 < bt) (hb : l.length * bt ≤ 140737488355328) (hc : l.length ≤ c) (Us : Nat → List Value)
    (hrow : ∀ i row, l[i]? = some row → row.length = sz ∧ Dts w row (Us i)) (hA : ∀ i, i < l.length → ∃ a, A = some a ∧ ∀ j u, (Us i)[j]? = some u → w.cell? ((a.add (i * sz)).add j) = some u) : RD (fun _ => False) w (.rows sz bt l) (.slice A l.length c) := by
  refine .rows sz bt l A c (fun i j => (Us i).getD j default) hbt hb hc (fun i row hi => ?_) (fun i row j d hi hj => ?_)
  · have hil : i < l.length := (List.getElem?_eq_some_iff.1 hi).1
    obtain ⟨h1, h2, h3⟩ := hrow i row hi
    refine ⟨h1, ?_⟩
    have h0 : 0 < l.length := by omega
    obtain ⟨a, rfl, hcell⟩ := hA 0 h0
    have hr0 := hrow 0 l[0] (List.getElem?_eq_getElem h0)
    have hu0 : 0 < (Us 0).length := by rw [← hr0.2.1, hr0.1]; exact hsz
    have e0 := hcell 0 _ (List.getElem?_eq_getElem hu0)
    rw [Nat.zero_mul] at e0
    have ea : a = ⟨a.block, a.off, none⟩ := by
      have := spot_none e0
      simpa [Addr.add] using this
    refine ⟨a.block, a.off, by rw [← ea], fun j hj => ⟨fun h => h, ?_⟩⟩
    obtain ⟨a', ha', hcell'⟩ := hA i hil
    cases ha'
    have huj : j < (Us i).length := by rw [← h2, h1]; exact hj
    have := hcell' j _ (List.getElem?_eq_getElem huj)
    rw [ea, Addr.add_lit, Addr.add_lit] at this
    rw [this]
    simp [List.getD, huj]
  · obtain ⟨h1, h2, h3⟩ := hrow i row hi
    have hjl : j < (Us i).length := by rw [← h2]; exact (List.getElem?_eq_some_iff.1 hj).1
    have := h3 j d _ hj (List.getElem?_eq_getElem hjl)
    simpa [List.getD, hjl] using this

/-- Fields that lie one behind another. -/
def contig (P : Program) : List Field → Nat → Nat → Bool
  | [], o, n => o == n
  | f :: fs, o, n => f.offset == o && contig P fs (o + P.cellsOf f.type) n
def tyOk1 (P : Program) (S : List TypeId) (t : TypeId) : Bool := match P.underlying t with
  | some (.int _) | some .string | some .bool | some (.float _) => true
  | some (.slice e) => S.contains e && decide (0 < P.bytesOf e) && decide (0 < P.cellsOf e)
  | some (.struct fs) => fs.toList.all (fun f => S.contains f.type) && contig P fs.toList 0 (P.cellsOf t)
  | _ => false
/-- Types that are made of one another, and of nothing but numbers, texts, slices and structs. -/
def tyOk (P : Program) (S : List TypeId) : Bool := S.all (tyOk1 P S)

section
variable {P : Program} {H : Type} {enc : TypeId × Value → H} {w : World} {base : Nat} {spare : Nat → Bool} {held : Bool}
/-- No more than a machine holds. -/
def Fits (P : Program) (t : TypeId) (d : DataW H) : Prop := ∀ n ∈ DataW.weights P t d, n ≤ 140737488351232
theorem fits_field {t : TypeId} {fs : Array Field} {parts : List (DataW H)} (hu : P.underlying t = some (.struct fs)) (h : Fits P t (.agg parts)) {j : Nat} {u : TypeId} {d : DataW H} (ht : (fs.toList.map (·.type))[j]? = some u) (hd : parts[j]? = some d) : Fits P u d := fun n hn => by
  refine h n ?_
  unfold DataW.weights
  rw [hu]
  exact DataW.weights_mem_each ht hd n hn
theorem fits_all {e : TypeId} : ∀ {l : List (DataW H)} {i : Nat} {d : DataW H}, l[i]? = some d → ∀ n ∈ DataW.weights P e d, n ∈ DataW.weightsAll P e l
  | d0 :: l, 0, d, hd, n, hn => by
    simp only [List.getElem?_cons_zero, Option.some.injEq] at hd
    subst hd
    simp only [DataW.weightsAll, List.mem_append]
    exact .inl hn
  | d0 :: l, i + 1, d, hd, n, hn => by
    simp only [List.getElem?_cons_succ] at hd
    simp only [DataW.weightsAll, List.mem_append]
    exact .inr (fits_all hd n hn)
  | [], _, _, hd, _, _ => by simp at hd
theorem fits_elem {t e : TypeId} {elems sp : List (DataW H)} (hu : P.underlying t = some (.slice e)) (h : Fits P t (.slice elems sp)) {i : Nat} {d : DataW H} (hd : elems[i]? = some d) : Fits P e d := fun n hn => by
  refine h n ?_
  unfold DataW.weights
  rw [hu]
  simp only [List.mem_cons, List.mem_append]
  exact .inr (.inl (fits_all hd n hn))
theorem fits_len {t e : TypeId} {elems sp : List (DataW H)} (hu : P.underlying t = some (.slice e)) (h : Fits P t (.slice elems sp)) : elems.length * P.bytesOf e ≤ 140737488351232 := by
  have := h ((elems.length + sp.length) * P.bytesOf e) (by unfold DataW.weights; rw [hu]; simp)
  exact Nat.le_trans (Nat.mul_le_mul_right _ (Nat.le_add_right _ _)) this
theorem fits_of {ts : List TypeId} {ds : List (DataW H)} (h : (DataW.weightsEach P ts ds).all (· ≤ reachBytes) = true) {j : Nat} {t : TypeId} {d : DataW H} (ht : ts[j]? = some t) (hd : ds[j]? = some d) : Fits P t d := fun n hn => by
  have h9 := List.all_eq_true.1 h n (DataW.weights_mem_each ht hd n hn)
  exact of_decide_eq_true h9
theorem dts_flat {cs : List Value} : ∀ (fs : List Field) (o : Nat) (F : List (List D)), contig P fs o cs.length = true → F.length = fs.length → (∀ (i : Nat) (f : Field) (ds : List D), fs[i]? = some f → F[i]? = some ds → Dts w ds ((cs.drop f.offset).take (P.cellsOf f.type))) → Dts w F.flatten (cs.drop o)
  | [], o, F, h, hl, _ => by
    have h1 : F = [] := List.eq_nil_of_length_eq_zero hl
    have h2 : o = cs.length := by simpa [contig] using h
    subst h1 h2
    rw [List.drop_length]
    exact ⟨rfl, fun i d u hd => by simp at hd⟩
  | f :: fs, o, [], h, hl, _ => by simp at hl
  | f :: fs, o, d :: F, h, hl, hF => by
    simp only [contig, Bool.and_eq_true, beq_iff_eq] at h
    have h1 := hF 0 f d rfl rfl
    have h2 := dts_flat fs _ F h.2 (by simpa using hl) fun i f' ds hf hd => hF (i + 1) f' ds (by simpa using hf) (by simpa using hd)
    have := h1.append h2
    rw [h.1] at this
    rw [List.flatten_cons]
    have e : cs.drop o = (cs.drop o).take (P.cellsOf f.type) ++ cs.drop (o + P.cellsOf f.type) := by rw [← List.drop_drop, List.take_append_drop]
    rw [e]
    exact this
theorem trod_floatG {t : TypeId} {k : FloatKind} {m : Nat} {cs : List Value} {y : DataW H × List MemPlace} (ht : P.underlying t = some (.float k)) (h : DataW.trod enc P w base spare held m t cs = some y) :
    ∃ b, cs = [.float k b] ∧ y = (.lit (.float k b), []) ∧ (Lit.float k b).wf = true := by
  cases m with
  | zero => simp [DataW.trod] at h
  | succ n =>
    unfold DataW.trod at h
    rw [ht] at h
    split at h <;> simp_all
theorem open_ty {S : List TypeId} (hS : tyOk P S = true) : ∀ (fuel : Nat) (t : TypeId) (cs : List Value) (y : DataW H × List MemPlace), t ∈ S → DataW.trod enc P w base spare held fuel t cs = some y → Fits P t y.1 → ∃ ds, TyD P t ds ∧ Dts w ds cs
  | 0, t, cs, y, _, h, _ => by simp [DataW.trod] at h
  | fuel + 1, t, cs, y, ht, h, hf => by
    have h1 := List.all_eq_true.1 hS t ht
    unfold tyOk1 at h1
    cases hu : P.underlying t with
    | none => rw [hu] at h1; cases h1
    | some u =>
      rw [hu] at h1
      cases u with
      | int k =>
        obtain ⟨n, rfl, _, hw⟩ := DataW.trod_int hu h
        exact ⟨_, .int t k n hu hw, Dts.one (.v _ rfl)⟩
      | string =>
        obtain ⟨s, rfl, rfl, _⟩ := DataW.trod_string hu h
        refine ⟨_, .str t s hu ?_, Dts.one (.v _ rfl)⟩
        have := hf s.data.toList.length (by unfold DataW.weights; simp)
        rwa [Array.length_toList] at this
      | bool =>
        obtain ⟨b, rfl, _⟩ := DataW.trod_bool hu h
        exact ⟨_, .bool t b hu, Dts.one (.v _ rfl)⟩
      | float k =>
        obtain ⟨b, rfl, _, hw⟩ := trod_floatG hu h
        exact ⟨_, .float t k b hu hw, Dts.one (.v _ rfl)⟩
      | slice e =>
        simp only [Bool.and_eq_true, decide_eq_true_eq, List.contains_iff_mem] at h1
        obtain ⟨⟨he, hbt⟩, hsz⟩ := h1
        rcases DataW.trod_slice hu h with ⟨rfl, _⟩ | ⟨a, len, cap, elems, rest, n, hn, rfl, rfl, hb, hle, hcap, hlen, hel, _, _⟩
        · exact ⟨_, .slice t e _ _ [] hu rfl rfl (by simp) (fun row hr => by cases hr), Dts.one (RD.nil (.e none) _ _ hbt)⟩
        · have hl := fits_len hu hf
          rw [List.length_map, hlen] at hl
          have each : ∀ i, ∃ p : List Value × List D, i < len → TyD P e p.2 ∧ Dts w p.2 p.1 ∧ p.1.length = P.cellsOf e ∧ ∀ j u, p.1[j]? = some u → w.cell? ((a.add (i * P.cellsOf e)).add j) = some u := fun i => by
            by_cases hi : i < len
            · have h7 := hel i hi
              have hie : i < elems.length := by omega
              rw [List.getElem?_eq_getElem hie, Option.bind_eq_some_iff] at h7
              obtain ⟨cs', h8, h9⟩ := h7
              obtain rfl : fuel = n := by omega
              obtain ⟨ds, hd1, hd2⟩ := open_ty hS fuel e cs' _ he h9 (fits_elem hu hf (i := i) (by rw [List.getElem?_map, List.getElem?_eq_getElem hie]; rfl))
              obtain ⟨_, hlc, hc⟩ := World.cells?_some h8
              refine ⟨(cs', ds), fun _ => ⟨hd1, hd2, hlc, fun j u hj => ?_⟩⟩
              have hlt : j < cs'.length := (List.getElem?_eq_some_iff.1 hj).1
              rw [hc j (by omega), hj]
            · exact ⟨([], []), fun h => absurd h hi⟩
          obtain ⟨F, hF⟩ := Classical.skolem.1 each
          have hlr : ((List.range len).map fun i => (F i).2).length = len := by simp
          have hget : ∀ i row, ((List.range len).map fun i => (F i).2)[i]? = some row → i < len ∧ row = (F i).2 := fun i row hr => by
            have hi : i < len := by
              have := (List.getElem?_eq_some_iff.1 hr).1
              simpa using this
            rw [List.getElem?_map, List.getElem?_range hi] at hr
            exact ⟨hi, by simpa using hr.symm⟩
          refine ⟨[.rows (P.cellsOf e) (P.bytesOf e) ((List.range len).map fun i => (F i).2)], .slice t e _ _ _ hu rfl rfl (by rw [hlr]; exact hl) (fun row hr => ?_), Dts.one ?_⟩
          · obtain ⟨i, hi⟩ := List.getElem?_of_mem hr
            obtain ⟨h3, rfl⟩ := hget i row hi
            exact (hF i h3).1
          · have := rows_rd (w := w) (A := some a) (sz := P.cellsOf e) (bt := P.bytesOf e) (c := cap) (l := (List.range len).map fun i => (F i).2) hsz hbt (by rw [hlr]; omega) (by rw [hlr]; exact hle) (fun i => (F i).1) (fun i row hi => ?_) (fun i hi => ⟨a, rfl, (hF i (by rw [hlr] at hi; exact hi)).2.2.2⟩)
            · rw [hlr] at this
              exact this
            · obtain ⟨h3, rfl⟩ := hget i row hi
              obtain ⟨_, g2, g3, _⟩ := hF i h3
              exact ⟨g2.1.trans g3, g2⟩
      | struct fs =>
        simp only [Bool.and_eq_true] at h1
        obtain ⟨h1, h2⟩ := h1
        obtain ⟨xs, n, hn, rfl, hl, hlen, hfd⟩ := DataW.trod_struct hu h
        obtain rfl : fuel = n := by omega
        have each : ∀ i : Nat, ∃ ds : List D, ∀ f : Field, fs[i]? = some f → TyD P f.type ds ∧ Dts w ds ((cs.drop f.offset).take (P.cellsOf f.type)) := fun i => by
          cases hfi : fs[i]? with
          | none => exact ⟨[], fun f hf => by cases hf⟩
          | some f =>
            have hi : i < fs.size := (Array.getElem?_eq_some_iff.1 hfi).1
            have h3 := hfd i f hfi
            rw [List.getElem?_eq_getElem (by omega)] at h3
            have hmem : f ∈ fs.toList := List.mem_of_getElem? (by simpa using hfi)
            have h4 := List.all_eq_true.1 h1 f hmem
            obtain ⟨ds, g1, g2⟩ := open_ty hS fuel f.type _ _ (by simpa using h4) h3 (fits_field hu hf (j := i) (by simp [hfi]) (by rw [List.getElem?_map, List.getElem?_eq_getElem (by omega)]; rfl))
            exact ⟨ds, fun f' hf' => by cases hf'; exact ⟨g1, g2⟩⟩
        obtain ⟨F, hF⟩ := Classical.skolem.1 each
        have hget : ∀ i ds, ((List.range fs.size).map F)[i]? = some ds → ds = F i := fun i ds hr => by
          have hi : i < fs.size := by
            have := (List.getElem?_eq_some_iff.1 hr).1
            simpa using this
          rw [List.getElem?_map, List.getElem?_range hi] at hr
          simpa using hr.symm
        refine ⟨((List.range fs.size).map F).flatten, .struct t fs _ hu (by simp) (fun i f ds hfi hd => ?_), ?_⟩
        · rw [hget i ds hd]
          exact (hF i f hfi).1
        · have := dts_flat (w := w) (P := P) (cs := cs) fs.toList 0 ((List.range fs.size).map F) (by rw [hl]; exact h2) (by simp) fun i f ds hfi hd => by
            rw [hget i ds hd]
            exact (hF i f (by simpa using hfi)).2
          simpa using this
      | _ => cases h1
end

/-- Cells that are data, one type behind another. -/
inductive TyDs (P : Program) : List TypeId → List D → Prop
  | nil : TyDs P [] []
  | cons (t : TypeId) (ts : List TypeId) (ds r : List D) (h : TyD P t ds) (h' : TyDs P ts r) : TyDs P (t :: ts) (ds ++ r)
theorem TyDs.cons_inv {P : Program} {t : TypeId} {ts : List TypeId} {l : List D} (h : TyDs P (t :: ts) l) : ∃ ds r, l = ds ++ r ∧ TyD P t ds ∧ TyDs P ts r := by
  cases h with
  | cons _ _ ds r h h' => exact ⟨ds, r, rfl, h, h'⟩
theorem TyDs.nil_inv {P : Program} {l : List D} (h : TyDs P [] l) : l = [] := by
  cases h
  rfl
theorem TyDs.mk {P : Program} : ∀ (fs : List Field) (dss : List (List D)), dss.length = fs.length → (∀ (i : Nat) (f : Field) (ds : List D), fs[i]? = some f → dss[i]? = some ds → TyD P f.type ds) → TyDs P (fs.map (·.type)) dss.flatten
  | [], [], _, _ => .nil
  | f :: fs, d :: dss, hl, h => .cons _ _ _ _ (h 0 f d rfl rfl) (TyDs.mk fs dss (by simpa using hl) fun i f' ds hf hd => h (i + 1) f' ds (by simpa using hf) (by simpa using hd))
  | [], _ :: _, hl, _ => by simp at hl
  | _ :: _, [], hl, _ => by simp at hl
theorem TyD.struct_inv {P : Program} {t : TypeId} {fs : Array Field} {ds : List D} (hu : P.underlying t = some (.struct fs)) (h : TyD P t ds) : TyDs P (fs.toList.map (·.type)) ds := by
  cases h with
  | struct _ fs' dss hu' hl h =>
    rw [hu] at hu'
    cases hu'
    exact TyDs.mk fs.toList dss (by simpa using hl) fun i f ds hf hd => h i f ds (by simpa using hf) hd
  | int _ _ _ hu' => rw [hu] at hu'; cases hu'
  | str _ _ hu' => rw [hu] at hu'; cases hu'
  | bool _ _ hu' => rw [hu] at hu'; cases hu'
  | float _ _ _ hu' => rw [hu] at hu'; cases hu'
  | slice _ _ _ _ _ hu' => rw [hu] at hu'; cases hu'
theorem TyD.slice_inv {P : Program} {t e : TypeId} {ds : List D} (hu : P.underlying t = some (.slice e)) (h : TyD P t ds) : ∃ l, ds = [.rows (P.cellsOf e) (P.bytesOf e) l] ∧ l.length * P.bytesOf e ≤ 140737488351232 ∧ ∀ row ∈ l, TyD P e row := by
  cases h with
  | slice _ _ _ _ l hu' hs hb hl h =>
    rw [hu] at hu'
    cases hu'
    subst hs hb
    exact ⟨l, rfl, hl, h⟩
  | int _ _ _ hu' => rw [hu] at hu'; cases hu'
  | str _ _ hu' => rw [hu] at hu'; cases hu'
  | bool _ _ hu' => rw [hu] at hu'; cases hu'
  | float _ _ _ hu' => rw [hu] at hu'; cases hu'
  | struct _ _ _ hu' => rw [hu] at hu'; cases hu'
theorem TyD.int_inv {P : Program} {t : TypeId} {k : IntKind} {ds : List D} (hu : P.underlying t = some (.int k)) (h : TyD P t ds) : ∃ a, ds = [.v (.int k a)] ∧ k.min ≤ a ∧ a ≤ k.max := by
  cases h with
  | int _ k' a hu' h =>
    rw [hu] at hu'
    cases hu'
    exact ⟨a, rfl, by simpa [Lit.wf] using h⟩
  | slice _ _ _ _ _ hu' => rw [hu] at hu'; cases hu'
  | str _ _ hu' => rw [hu] at hu'; cases hu'
  | bool _ _ hu' => rw [hu] at hu'; cases hu'
  | float _ _ _ hu' => rw [hu] at hu'; cases hu'
  | struct _ _ _ hu' => rw [hu] at hu'; cases hu'
theorem TyD.str_inv {P : Program} {t : TypeId} {ds : List D} (hu : P.underlying t = some .string) (h : TyD P t ds) : ∃ s : ByteArray, ds = [.v (.string s)] ∧ s.size ≤ 140737488351232 := by
  cases h with
  | str _ s hu' h => exact ⟨s, rfl, h⟩
  | int _ _ _ hu' => rw [hu] at hu'; cases hu'
  | slice _ _ _ _ _ hu' => rw [hu] at hu'; cases hu'
  | bool _ _ hu' => rw [hu] at hu'; cases hu'
  | float _ _ _ hu' => rw [hu] at hu'; cases hu'
  | struct _ _ _ hu' => rw [hu] at hu'; cases hu'
theorem TyD.bool_inv {P : Program} {t : TypeId} {ds : List D} (hu : P.underlying t = some .bool) (h : TyD P t ds) : ∃ b, ds = [.v (.bool b)] := by
  cases h with
  | bool _ b hu' => exact ⟨b, rfl⟩
  | int _ _ _ hu' => rw [hu] at hu'; cases hu'
  | slice _ _ _ _ _ hu' => rw [hu] at hu'; cases hu'
  | str _ _ hu' => rw [hu] at hu'; cases hu'
  | float _ _ _ hu' => rw [hu] at hu'; cases hu'
  | struct _ _ _ hu' => rw [hu] at hu'; cases hu'
theorem TyD.float_inv {P : Program} {t : TypeId} {k : FloatKind} {ds : List D} (hu : P.underlying t = some (.float k)) (h : TyD P t ds) : ∃ b, ds = [.v (.float k b)] ∧ (Lit.float k b).wf = true := by
  cases h with
  | float _ k' b hu' h =>
    rw [hu] at hu'
    cases hu'
    exact ⟨b, rfl, h⟩
  | int _ _ _ hu' => rw [hu] at hu'; cases hu'
  | slice _ _ _ _ _ hu' => rw [hu] at hu'; cases hu'
  | str _ _ hu' => rw [hu] at hu'; cases hu'
  | bool _ _ hu' => rw [hu] at hu'; cases hu'
  | struct _ _ _ hu' => rw [hu] at hu'; cases hu'
theorem range_i64 {a : Int} (h : IntKind.i64.min ≤ a ∧ a ≤ IntKind.i64.max) : -9223372036854775808 ≤ a ∧ a ≤ 9223372036854775807 := by
  have e1 : IntKind.i64.min = -9223372036854775808 := by decide
  have e2 : IntKind.i64.max = 9223372036854775807 := by decide
  rwa [e1, e2] at h
theorem range_u8 {a : Int} (h : IntKind.u8.min ≤ a ∧ a ≤ IntKind.u8.max) : ∃ m : Nat, a = m ∧ m < 256 := by
  have e1 : IntKind.u8.min = 0 := by decide
  have e2 : IntKind.u8.max = 255 := by decide
  rw [e1, e2] at h
  exact ⟨a.toNat, by omega, by omega⟩
theorem okWide_float {P : Program} {w : World} {r : Reach} {base : Nat} {t : TypeId} {v : Value} {k : FloatKind} (ht : P.underlying t = some (.float k)) (h : Value.okWide P w r base t v) : ∃ b, v = .float k b := by
  simp only [Value.okWide, ht, Cell.okWide] at h
  cases v <;> simp_all [Cell.ok]

section
variable {P : Program} {H : Type} {enc : TypeId × Value → H} {w : World} {base : Nat} {spare : Nat → Bool} {held : Bool} {r : Reach} {b0 : Nat} {t : TypeId} {v : Value} {d : DataW H} {p : List MemPlace} {S : List TypeId}
theorem arg_cells (hS : tyOk P S = true) (ht : t ∈ S) (h : DataW.Trod enc P w base spare held t v d p) (hf : Fits P t d) : ∃ ds, TyD P t ds ∧ Dts w ds v.cells.toList :=
  let ⟨fuel, h⟩ := h
  open_ty hS fuel t _ _ ht h hf
theorem arg_int {k : IntKind} (hS : tyOk P S = true) (ht : t ∈ S) (hu : P.underlying t = some (.int k)) (hv : Value.okWide P w r b0 t v) (h : DataW.Trod enc P w base spare held t v d p) (hf : Fits P t d) : ∃ a, v = .int k a ∧ k.min ≤ a ∧ a ≤ k.max := by
  obtain ⟨a, rfl⟩ := okWide_int hu hv
  obtain ⟨ds, h1, h2, h3⟩ := arg_cells hS ht h hf
  obtain ⟨a', rfl, h4⟩ := h1.int_inv hu
  have := h3 0 _ _ rfl rfl
  cases this
  exact ⟨a, rfl, h4⟩
theorem arg_float {k : FloatKind} (hS : tyOk P S = true) (ht : t ∈ S) (hu : P.underlying t = some (.float k)) (hv : Value.okWide P w r b0 t v) (h : DataW.Trod enc P w base spare held t v d p) (hf : Fits P t d) : ∃ b, v = .float k b ∧ (Lit.float k b).wf = true := by
  obtain ⟨a, rfl⟩ := okWide_float hu hv
  obtain ⟨ds, h1, h2, h3⟩ := arg_cells hS ht h hf
  obtain ⟨a', rfl, h4⟩ := h1.float_inv hu
  have := h3 0 _ _ rfl rfl
  cases this
  exact ⟨a, rfl, h4⟩
theorem arg_slice {e : TypeId} (hS : tyOk P S = true) (ht : t ∈ S) (hu : P.underlying t = some (.slice e)) (hv : Value.okWide P w r b0 t v) (h : DataW.Trod enc P w base spare held t v d p) (hf : Fits P t d) :
    ∃ l, RD (fun _ => False) w (.rows (P.cellsOf e) (P.bytesOf e) l) v ∧ l.length * P.bytesOf e ≤ 140737488351232 ∧ ∀ row ∈ l, TyD P e row := by
  obtain ⟨A, n, c, rfl⟩ := okWide_slice hu hv
  obtain ⟨ds, h1, h2, h3⟩ := arg_cells hS ht h hf
  obtain ⟨l, rfl, h4⟩ := h1.slice_inv hu
  exact ⟨l, h3 0 _ _ rfl rfl, h4⟩
theorem arg_struct {fs : Array Field} (hS : tyOk P S = true) (ht : t ∈ S) (hu : P.underlying t = some (.struct fs)) (hv : Value.okWide P w r b0 t v) (h : DataW.Trod enc P w base spare held t v d p) (hf : Fits P t d) :
    ∃ ds us, v = .agg us ∧ TyD P t ds ∧ Dts w ds us.toList := by
  obtain ⟨cs, rfl, _⟩ := okWide_struct hu hv
  obtain ⟨ds, h1, h2⟩ := arg_cells hS ht h hf
  exact ⟨ds, cs, rfl, h1, by simpa only [Value.cells] using h2⟩
end
theorem ra_agg {w : World} {ds : List D} {us : Array Value} (h : Dts w ds us.toList) : RA (fun _ => False) (fun _ => .no) w (.agg (ds.map .d)) (.agg us) := by
  simp only [RA]
  exact ⟨us, rfl, h.ras⟩
theorem ra_d {w : World} {d : D} {v : Value} (h : RD (fun _ => False) w d v) : RA (fun _ => False) (fun _ => .no) w (.d d) v := by
  simp only [RA]
  exact h

/-- A call that starts in some world. -/
theorem C.start (w : World) : C w ⟨w, fun _ => False, fun _ => .no, 0, []⟩ (fun _ => False) (fun _ => .no) ⟨0, [], []⟩ nobody w where
  base := Fr.refl _ _
  fr := Fr.refl _ _
  eLt := fun k h => h.elim
  mLow := fun k h => h.elim
  mUp := fun _ h => h
  mNew := fun _ h => h.elim
  mLt := fun k h => h.elim
  mNo := fun _ _ => rfl
  mIn := fun b k hb => by cases hb
  inj := fun b b' k hb => by cases hb
  oldv := fun b cs hb => absurd hb (Nat.not_lt_zero _)
  oldr := fun b k hb => absurd hb (Nat.not_lt_zero _)
  new := fun b k _ hb => by cases hb
  len := Nat.le_refl _
  box := fun b x hb => by simp at hb
  env := fun t x hx => by simp [lk_nil] at hx
  wide := rfl
  defers := rfl
/-- A pure contract that answers a plain value, of a call that starts in some world. -/
theorem APure.calls {P : Program} {w : World} {f : FuncId} {args : List AV} {us : Array Value} {v : Value} (h : APure P w f args (· = .ret (.d (.v v)))) (ha : RAs (fun _ => False) (fun _ => .no) w args us.toList) : Calls P f us w fun e w' => e = .returned v ∧ Below w.heap.size w w' := by
  refine (h _ _ w us (C.start w) ha).mono ?_
  rintro e w' ⟨r, L', M', m', ⟨rfl, rfl⟩, hres, hc⟩
  cases e with
  | returned u => exact ⟨by rw [(RA.v_inv (M := M') (m := m') (w := w') hres).1], hc.base.toBelow fun _ _ h => h⟩
  | panicked c => exact hres.elim
  | outgrown => exact hres.elim
end Go.Proofs.YtfbegbpipmgfiaaDoor.Lift
end
section
/- The lift: values and pairs that a row is handed. No conditions. -/
set_option linter.unusedVariables false
set_option linter.unusedSimpArgs false
set_option maxHeartbeats 4000000
set_option maxRecDepth 100000
namespace Go.Proofs.YtfbegbpipmgfiaaDoor.Lift
open Go Go.RowKit

/-- What a value's types and memory allow. -/
inductive okV : V → Prop
  | mk (k : Nat) (s : ByteArray) (b : Bool) (n : Int) (f : Nat) (l : List V) (m : List (ByteArray × V)) (hk : k < 256) (hs : s.size ≤ 140737488351232) (hn : -9223372036854775808 ≤ n ∧ n ≤ 9223372036854775807) (hf : f < 2 ^ 64) (hl : l.length * 96 ≤ 140737488351232) (hm : m.length * 112 ≤ 140737488351232)
      (hL : ∀ x ∈ l, okV x) (hM : ∀ p ∈ m, p.1.size ≤ 140737488351232) (hM' : ∀ p ∈ m, okV p.2) : okV (.mk k s b n f l m)
def okP (m : List (ByteArray × V)) : Prop := m.length * 112 ≤ 140737488351232 ∧ ∀ p ∈ m, p.1.size ≤ 140737488351232 ∧ okV p.2
theorem rows_of {α : Type} {p : List D → α → Prop} : ∀ {l : List (List D)}, (∀ row ∈ l, ∃ x, p row x) → ∃ xs : List α, xs.length = l.length ∧ ∀ (i : Nat) (row : List D) (x : α), l[i]? = some row → xs[i]? = some x → p row x
  | [], _ => ⟨[], rfl, fun i row x h => by simp at h⟩
  | r :: l, h => by
    obtain ⟨x, hx⟩ := h r (List.mem_cons_self ..)
    obtain ⟨xs, h1, h2⟩ := rows_of fun row hr => h row (List.mem_cons_of_mem _ hr)
    refine ⟨x :: xs, by simp [h1], fun i row y hr hy => ?_⟩
    cases i with
    | zero =>
      cases hr
      cases hy
      exact hx
    | succ i => exact h2 i row y (by simpa using hr) (by simpa using hy)
theorem rows_map {α : Type} {f : α → List D} {q : α → Prop} {l : List (List D)} (h : ∀ row ∈ l, ∃ x, row = f x ∧ q x) : ∃ xs : List α, l = xs.map f ∧ ∀ x ∈ xs, q x := by
  obtain ⟨xs, h1, h2⟩ := rows_of h
  refine ⟨xs, List.ext_getElem? fun i => ?_, fun x hx => ?_⟩
  · rw [List.getElem?_map]
    by_cases hi : i < l.length
    · rw [List.getElem?_eq_getElem hi, List.getElem?_eq_getElem (by omega)]
      exact congrArg some (h2 i _ _ (List.getElem?_eq_getElem hi) (List.getElem?_eq_getElem (by omega))).1
    · rw [List.getElem?_eq_none (by omega), List.getElem?_eq_none (by omega)]
      rfl
  · obtain ⟨i, hi⟩ := List.getElem?_of_mem hx
    have : i < l.length := by rw [← h1]; exact (List.getElem?_eq_some_iff.1 hi).1
    exact (h2 i _ x (List.getElem?_eq_getElem this) hi).2

theorem cellsV : Tryd.prog.cellsOf 47 = 7 := by kernel_rfl
theorem cellsP : Tryd.prog.cellsOf 61 = 8 := by kernel_rfl
theorem bytesV : Tryd.prog.bytesOf 47 = 96 := by kernel_rfl
theorem bytesP : Tryd.prog.bytesOf 61 = 112 := by kernel_rfl

theorem ty_all {t : TypeId} {ds : List D} (h : TyD Tryd.prog t ds) :
    (t = 47 → ∃ x, ds = vD x ∧ okV x) ∧ (t = 61 → ∃ p, ds = pD p ∧ p.1.size ≤ 140737488351232 ∧ okV p.2) ∧
    (t = 45 → ∃ l : List V, ds = [.rows 7 96 (l.map vD)] ∧ l.length * 96 ≤ 140737488351232 ∧ ∀ x ∈ l, okV x) ∧ (t = 34 → ∃ m, ds = [.rows 8 112 (m.map pD)] ∧ okP m) := by
  have hu1 := Tryd.underlying47
  have hu2 := Tryd.underlying61
  have hu3 := Tryd.underlying45
  have hu4 := Tryd.underlying34
  induction h with
  | int t k a hu _ => exact ⟨(by rintro rfl; rw [hu1] at hu; cases hu), (by rintro rfl; rw [hu2] at hu; cases hu), (by rintro rfl; rw [hu3] at hu; cases hu), (by rintro rfl; rw [hu4] at hu; cases hu)⟩
  | str t s hu _ => exact ⟨(by rintro rfl; rw [hu1] at hu; cases hu), (by rintro rfl; rw [hu2] at hu; cases hu), (by rintro rfl; rw [hu3] at hu; cases hu), (by rintro rfl; rw [hu4] at hu; cases hu)⟩
  | bool t b hu => exact ⟨(by rintro rfl; rw [hu1] at hu; cases hu), (by rintro rfl; rw [hu2] at hu; cases hu), (by rintro rfl; rw [hu3] at hu; cases hu), (by rintro rfl; rw [hu4] at hu; cases hu)⟩
  | float t k b hu _ => exact ⟨(by rintro rfl; rw [hu1] at hu; cases hu), (by rintro rfl; rw [hu2] at hu; cases hu), (by rintro rfl; rw [hu3] at hu; cases hu), (by rintro rfl; rw [hu4] at hu; cases hu)⟩
  | slice t e sz bt l hu hs hb hl h ih =>
    refine ⟨(by rintro rfl; rw [hu1] at hu; cases hu), (by rintro rfl; rw [hu2] at hu; cases hu), ?_, ?_⟩
    · rintro rfl
      rw [hu3] at hu
      cases hu
      rw [cellsV] at hs
      rw [bytesV] at hb
      subst hs hb
      obtain ⟨xs, rfl, h2⟩ := rows_map (f := vD) (q := okV) fun row hr => (ih row hr).1 rfl
      exact ⟨xs, rfl, by simpa using hl, h2⟩
    · rintro rfl
      rw [hu4] at hu
      cases hu
      rw [cellsP] at hs
      rw [bytesP] at hb
      subst hs hb
      obtain ⟨xs, rfl, h2⟩ := rows_map (f := pD) (q := fun p => p.1.size ≤ 140737488351232 ∧ okV p.2) fun row hr => (ih row hr).2.1 rfl
      exact ⟨xs, rfl, by simpa using hl, h2⟩
  | struct t fs dss hu hl h ih =>
    refine ⟨?_, ?_, (by rintro rfl; rw [hu3] at hu; cases hu), (by rintro rfl; rw [hu4] at hu; cases hu)⟩
    · rintro rfl
      rw [hu1] at hu
      cases hu
      match dss, hl with
      | [d0, d1, d2, d3, d4, d5, d6], _ =>
      obtain ⟨a0, rfl, w0⟩ := (h 0 _ d0 rfl rfl).int_inv Tryd.underlying43
      obtain ⟨a1, rfl, w1⟩ := (h 1 _ d1 rfl rfl).str_inv Tryd.underlying9
      obtain ⟨a2, rfl⟩ := (h 2 _ d2 rfl rfl).bool_inv Tryd.underlying4
      obtain ⟨a3, rfl, w3⟩ := (h 3 _ d3 rfl rfl).int_inv Tryd.underlying2
      obtain ⟨a4, rfl, w4⟩ := (h 4 _ d4 rfl rfl).float_inv Tryd.underlying44
      obtain ⟨l, rfl, w5, w5'⟩ := (ih 5 _ d5 rfl rfl).2.2.1 rfl
      obtain ⟨m, rfl, w6, w6'⟩ := (ih 6 _ d6 rfl rfl).2.2.2 rfl
      obtain ⟨k, rfl, hk⟩ := range_u8 w0
      refine ⟨.mk k a1 a2 a3 a4 l m, ?_, .mk _ _ _ _ _ _ _ hk w1 (range_i64 w3) (by simpa [Lit.wf] using w4) w5 w6 w5' (fun p hp => (w6' p hp).1) (fun p hp => (w6' p hp).2)⟩
      simp only [vD, vDs_map, pDs_map, List.flatten_cons, List.flatten_nil, List.cons_append, List.nil_append]
    · rintro rfl
      rw [hu2] at hu
      cases hu
      match dss, hl with
      | [d0, d1], _ =>
      obtain ⟨a0, rfl, w0⟩ := (h 0 _ d0 rfl rfl).str_inv Tryd.underlying9
      obtain ⟨x, rfl, w1⟩ := (ih 1 _ d1 rfl rfl).1 rfl
      exact ⟨(a0, x), by simp only [pD, List.flatten_cons, List.flatten_nil, List.cons_append, List.nil_append, List.append_nil], w0, w1⟩
theorem ty_V {ds : List D} (h : TyD Tryd.prog 47 ds) : ∃ x, ds = vD x ∧ okV x := (ty_all h).1 rfl
theorem ty_Ps {ds : List D} (h : TyD Tryd.prog 34 ds) : ∃ m, ds = [.rows 8 112 (m.map pD)] ∧ okP m := (ty_all h).2.2.2 rfl
end Go.Proofs.YtfbegbpipmgfiaaDoor.Lift
end
section
/- The lift: whether a value is right: must, fine, bare, key. No conditions but that utf8's tables lie as they are laid. -/
set_option linter.unusedVariables false
set_option linter.unusedSimpArgs false
set_option maxHeartbeats 4000000
set_option maxRecDepth 100000
namespace Go.Proofs.YtfbegbpipmgfiaaDoor.Lift
open Go Go.RowKit

def err (c : Int) : AV := .d (.v (.iface 27 (.int .i64 c)))
attribute [go_sem] err
def ends (c : Nat) : Res := if c = 0 then .ret (.tup []) else .panic (err c)
theorem ends0 : ends 0 = .ret (.tup []) := rfl
theorem ends1 {c : Nat} (h : c ≠ 0) : ends c = .panic (err c) := if_neg h
theorem must_ok {W0 : World} (c : Int) : APure Tryd.prog W0 71 [.d (.v (.bool true)), .d (.v (.int .i64 c))] (· = .ret (.tup [])) := by
  refine A_body Tryd.func71 rfl (Nat.le_of_ble_eq_true rfl) ?_
  simp only [go_sem, Tryd.ntmps71, Tryd.results71, mkEnv]
  repeat (first | refine wS ?_ | refine wB ?_ | (refine wR ?_; simp only [go_sem]) | (refine wT ?_ ?_; focus (simp only [go_sem]; done)) | (refine wF ?_ ?_; focus (simp only [go_sem]; done)) | (refine wK ?_; try simp only [go_sem]) | (refine wE ?_; try simp only [go_sem]) | refine wX ?_)
  exact wNq
theorem must_no {W0 : World} (c : Int) : APure Tryd.prog W0 71 [.d (.v (.bool false)), .d (.v (.int .i64 c))] (· = .panic (err c)) := by
  refine A_body Tryd.func71 rfl (Nat.le_of_ble_eq_true rfl) ?_
  simp only [go_sem, Tryd.ntmps71, Tryd.results71, mkEnv]
  repeat (first | refine wS ?_ | refine wB ?_ | (refine wR ?_; simp only [go_sem]) | (refine wT ?_ ?_; focus (simp only [go_sem]; done)) | (refine wF ?_ ?_; focus (simp only [go_sem]; done)) | (refine wK ?_; try simp only [go_sem]) | (refine wE ?_; try simp only [go_sem]) | refine wX ?_)
  refine wPanic ?_
  exact wPan ⟨rfl, rfl⟩
/-- What a kind has. -/
def bareV : V → V
  | .mk k s b n f l m => .mk k (if k = 1 ∨ k = 7 then s else ByteArray.empty) (if k = 2 then b else false) (if k = 3 then n else 0) (if k = 4 then f else 0) (if k = 5 then l else []) (if k = 6 then m else [])
theorem kEq (k x : Nat) : ((k : Int) == (x : Int)) = decide (k = x) := by
  by_cases h : k = x
  · subst h; simp
  · rw [decide_eq_false h, beq_eq_false_iff_ne]
    omega
theorem Le_va {k : Nat} {s : ByteArray} {b : Bool} {n : Int} {f : Nat} {x5 x6 : AV} {l : List V} {m : List (ByteArray × V)} (h5 : Le x5 (rV l)) (h6 : Le x6 (rP m)) : Le (.agg [.d (.v (.int .u8 k)), .d (.v (.string s)), .d (.v (.bool b)), .d (.v (.int .i64 n)), .d (.v (.float .f64 f)), x5, x6]) (va (.mk k s b n f l m)) := by
  simp only [va, vD, vDs_map, pDs_map, List.map_cons, List.map_nil]
  exact Le.agg (.cons (Le.refl _) (.cons (Le.refl _) (.cons (Le.refl _) (.cons (Le.refl _) (.cons (Le.refl _) (.cons h5 (.cons h6 .nil)))))))
theorem Le_e5 : Le (.d .e) (rV []) := Le.nil (by decide)
theorem Le_e6 : Le (.d .e) (rP []) := Le.nil (by decide)
theorem bare_c {W0 : World} (x : V) : APure Tryd.prog W0 96 [va x] (· = .ret (va (bareV x))) := by
  obtain ⟨k, s, b, n, f, l, m⟩ := x
  by_cases h1 : k = 1
  · subst h1
    refine A_body Tryd.func96 rfl (Nat.le_of_ble_eq_true rfl) ?_
    simp only [go_sem, Tryd.ntmps96, Tryd.results96, mkEnv, va, vD, vDs_map, pDs_map]
    repeat (first | refine wS ?_ | refine wB ?_ | (refine wR ?_; simp only [go_sem, va, vD, vDs_map, pDs_map]) | (refine wT ?_ ?_; focus (simp only [go_sem]; done)) | (refine wF ?_ ?_; focus (simp only [go_sem]; done)) | (refine wK ?_; try simp only [go_sem, va, vD, vDs_map, pDs_map]) | (refine wE ?_; try simp only [go_sem, va, vD, vDs_map, pDs_map]) | refine wX ?_)
    exact wRet ⟨rfl, rfl⟩ (hle := Le_va Le_e5 Le_e6)
  by_cases h7 : k = 7
  · subst h7
    refine A_body Tryd.func96 rfl (Nat.le_of_ble_eq_true rfl) ?_
    simp only [go_sem, Tryd.ntmps96, Tryd.results96, mkEnv, va, vD, vDs_map, pDs_map]
    repeat (first | refine wS ?_ | refine wB ?_ | (refine wR ?_; simp only [go_sem, va, vD, vDs_map, pDs_map]) | (refine wT ?_ ?_; focus (simp only [go_sem]; done)) | (refine wF ?_ ?_; focus (simp only [go_sem]; done)) | (refine wK ?_; try simp only [go_sem, va, vD, vDs_map, pDs_map]) | (refine wE ?_; try simp only [go_sem, va, vD, vDs_map, pDs_map]) | refine wX ?_)
    exact wRet ⟨rfl, rfl⟩ (hle := Le_va Le_e5 Le_e6)
  by_cases h2 : k = 2
  · subst h2
    refine A_body Tryd.func96 rfl (Nat.le_of_ble_eq_true rfl) ?_
    simp only [go_sem, Tryd.ntmps96, Tryd.results96, mkEnv, va, vD, vDs_map, pDs_map]
    repeat (first | refine wS ?_ | refine wB ?_ | (refine wR ?_; simp only [go_sem, va, vD, vDs_map, pDs_map]) | (refine wT ?_ ?_; focus (simp only [go_sem]; done)) | (refine wF ?_ ?_; focus (simp only [go_sem]; done)) | (refine wK ?_; try simp only [go_sem, va, vD, vDs_map, pDs_map]) | (refine wE ?_; try simp only [go_sem, va, vD, vDs_map, pDs_map]) | refine wX ?_)
    exact wRet ⟨rfl, rfl⟩ (hle := Le_va Le_e5 Le_e6)
  by_cases h3 : k = 3
  · subst h3
    refine A_body Tryd.func96 rfl (Nat.le_of_ble_eq_true rfl) ?_
    simp only [go_sem, Tryd.ntmps96, Tryd.results96, mkEnv, va, vD, vDs_map, pDs_map]
    repeat (first | refine wS ?_ | refine wB ?_ | (refine wR ?_; simp only [go_sem, va, vD, vDs_map, pDs_map]) | (refine wT ?_ ?_; focus (simp only [go_sem]; done)) | (refine wF ?_ ?_; focus (simp only [go_sem]; done)) | (refine wK ?_; try simp only [go_sem, va, vD, vDs_map, pDs_map]) | (refine wE ?_; try simp only [go_sem, va, vD, vDs_map, pDs_map]) | refine wX ?_)
    exact wRet ⟨rfl, rfl⟩ (hle := Le_va Le_e5 Le_e6)
  by_cases h4 : k = 4
  · subst h4
    refine A_body Tryd.func96 rfl (Nat.le_of_ble_eq_true rfl) ?_
    simp only [go_sem, Tryd.ntmps96, Tryd.results96, mkEnv, va, vD, vDs_map, pDs_map]
    repeat (first | refine wS ?_ | refine wB ?_ | (refine wR ?_; simp only [go_sem, va, vD, vDs_map, pDs_map]) | (refine wT ?_ ?_; focus (simp only [go_sem]; done)) | (refine wF ?_ ?_; focus (simp only [go_sem]; done)) | (refine wK ?_; try simp only [go_sem, va, vD, vDs_map, pDs_map]) | (refine wE ?_; try simp only [go_sem, va, vD, vDs_map, pDs_map]) | refine wX ?_)
    exact wRet ⟨rfl, rfl⟩ (hle := Le_va Le_e5 Le_e6)
  by_cases h5 : k = 5
  · subst h5
    refine A_body Tryd.func96 rfl (Nat.le_of_ble_eq_true rfl) ?_
    simp only [go_sem, Tryd.ntmps96, Tryd.results96, mkEnv, va, vD, vDs_map, pDs_map]
    repeat (first | refine wS ?_ | refine wB ?_ | (refine wR ?_; simp only [go_sem, va, vD, vDs_map, pDs_map]) | (refine wT ?_ ?_; focus (simp only [go_sem]; done)) | (refine wF ?_ ?_; focus (simp only [go_sem]; done)) | (refine wK ?_; try simp only [go_sem, va, vD, vDs_map, pDs_map]) | (refine wE ?_; try simp only [go_sem, va, vD, vDs_map, pDs_map]) | refine wX ?_)
    exact wRet ⟨rfl, rfl⟩ (hle := Le_va (Le.refl _) Le_e6)
  by_cases h6 : k = 6
  · subst h6
    refine A_body Tryd.func96 rfl (Nat.le_of_ble_eq_true rfl) ?_
    simp only [go_sem, Tryd.ntmps96, Tryd.results96, mkEnv, va, vD, vDs_map, pDs_map]
    repeat (first | refine wS ?_ | refine wB ?_ | (refine wR ?_; simp only [go_sem, va, vD, vDs_map, pDs_map]) | (refine wT ?_ ?_; focus (simp only [go_sem]; done)) | (refine wF ?_ ?_; focus (simp only [go_sem]; done)) | (refine wK ?_; try simp only [go_sem, va, vD, vDs_map, pDs_map]) | (refine wE ?_; try simp only [go_sem, va, vD, vDs_map, pDs_map]) | refine wX ?_)
    exact wRet ⟨rfl, rfl⟩ (hle := Le_va Le_e5 (Le.refl _))
  have e1 := kEq k 1
  have e2 := kEq k 2
  have e3 := kEq k 3
  have e4 := kEq k 4
  have e5 := kEq k 5
  have e6 := kEq k 6
  have e7 := kEq k 7
  simp only [show ((1 : Nat) : Int) = 1 from rfl, show ((2 : Nat) : Int) = 2 from rfl, show ((3 : Nat) : Int) = 3 from rfl, show ((4 : Nat) : Int) = 4 from rfl, show ((5 : Nat) : Int) = 5 from rfl, show ((6 : Nat) : Int) = 6 from rfl, show ((7 : Nat) : Int) = 7 from rfl, h1, h2, h3, h4, h5, h6, h7, decide_false] at e1 e2 e3 e4 e5 e6 e7
  refine A_body Tryd.func96 rfl (Nat.le_of_ble_eq_true rfl) ?_
  simp only [go_sem, Tryd.ntmps96, Tryd.results96, mkEnv, va, vD, vDs_map, pDs_map, e1, e2, e3, e4, e5, e6, e7]
  repeat (first | refine wS ?_ | refine wB ?_ | (refine wR ?_; simp only [go_sem, va, vD, vDs_map, pDs_map, e1, e2, e3, e4, e5, e6, e7]) | (refine wT ?_ ?_; focus (simp only [go_sem]; done)) | (refine wF ?_ ?_; focus (simp only [go_sem]; done)) | (refine wK ?_; try simp only [go_sem, va, vD, vDs_map, pDs_map, e1, e2, e3, e4, e5, e6, e7]) | (refine wE ?_; try simp only [go_sem, va, vD, vDs_map, pDs_map, e1, e2, e3, e4, e5, e6, e7]) | refine wX ?_)
  refine wRet ⟨rfl, rfl⟩ (hle := ?_)
  simp only [bareV, h1, h2, h3, h4, h5, h6, h7, or_self, if_false]
  exact Le_va Le_e5 Le_e6
/-- utf8. -/
def Tabs (w : World) : Prop := Lib.Utf8Tabs (Tryd.lays196_ren.g 3) (Tryd.lays196_ren.g 4) w
theorem Tabs.below {w w' : World} (h : Tabs w) (hb : Below w.heap.size w w') : Tabs w' := Utf8Tabs_below h hb
theorem valid_c {W0 : World} (hT : Tabs W0) (s : ByteArray) (hs : s.size ≤ 140737488355328) : APure Tryd.prog W0 95 [.d (.v (.string s))] (· = .ret (.d (.v (.bool (Lib.validD s.data.toList))))) := by
  refine pure_old rfl fun M m w us hf ha => ?_
  rw [us1 ha]
  exact Tryd.utf8_ValidString s w (by omega) (hT.below (hf.toBelow fun _ _ h => h))
def keyE (s : ByteArray) : Nat := if 4096 < s.size then 4 else if Lib.validD s.data.toList = true then 0 else 12
theorem key_c {W0 : World} (hT : Tabs W0) (s : ByteArray) (hs : s.size ≤ 140737488355328) : APure Tryd.prog W0 84 [.d (.v (.string s))] (· = ends (keyE s)) := by
  have hv := valid_c hT s hs
  unfold keyE
  by_cases h : 4096 < s.size
  · have h1 : ((s.size : Int) ≤ 4096) = False := eq_false (by omega)
    rw [if_pos h]
    refine A_body Tryd.func84 rfl (Nat.le_of_ble_eq_true rfl) ?_
    simp only [go_sem, Tryd.ntmps84, Tryd.results84, mkEnv, h1]
    repeat (first | refine wS ?_ | refine wB ?_ | (refine wR ?_; simp only [go_sem, h1]) | (refine wT ?_ ?_; focus (simp only [go_sem]; done)) | (refine wF ?_ ?_; focus (simp only [go_sem]; done)) | (refine wK ?_; try simp only [go_sem, h1]) | (refine wE ?_; try simp only [go_sem, h1]) | refine wX ?_)
    refine wP (must_no 4) ?_
    try simp only [go_sem]
    exact wPan ⟨rfl, rfl⟩
  have h1 : ((s.size : Int) ≤ 4096) = True := eq_true (by omega)
  rw [if_neg h]
  cases hb : Lib.validD s.data.toList with
  | false =>
    rw [hb] at hv
    refine A_body Tryd.func84 rfl (Nat.le_of_ble_eq_true rfl) ?_
    simp only [go_sem, Tryd.ntmps84, Tryd.results84, mkEnv, h1]
    repeat (first | refine wS ?_ | refine wB ?_ | (refine wR ?_; simp only [go_sem, h1]) | (refine wT ?_ ?_; focus (simp only [go_sem]; done)) | (refine wF ?_ ?_; focus (simp only [go_sem]; done)) | (refine wK ?_; try simp only [go_sem, h1]) | (refine wE ?_; try simp only [go_sem, h1]) | refine wX ?_)
    refine wC (must_ok 4) ?_
    simp only [go_sem]
    repeat (first | refine wS ?_ | refine wB ?_ | (refine wR ?_; simp only [go_sem]) | (refine wT ?_ ?_; focus (simp only [go_sem]; done)) | (refine wF ?_ ?_; focus (simp only [go_sem]; done)) | (refine wK ?_; try simp only [go_sem]) | (refine wE ?_; try simp only [go_sem]) | refine wX ?_)
    refine wC (hv) ?_
    simp only [go_sem]
    repeat (first | refine wS ?_ | refine wB ?_ | (refine wR ?_; simp only [go_sem]) | (refine wT ?_ ?_; focus (simp only [go_sem]; done)) | (refine wF ?_ ?_; focus (simp only [go_sem]; done)) | (refine wK ?_; try simp only [go_sem]) | (refine wE ?_; try simp only [go_sem]) | refine wX ?_)
    refine wP (must_no 12) ?_
    try simp only [go_sem]
    exact wPan ⟨rfl, rfl⟩
  | true =>
    rw [hb] at hv
    refine A_body Tryd.func84 rfl (Nat.le_of_ble_eq_true rfl) ?_
    simp only [go_sem, Tryd.ntmps84, Tryd.results84, mkEnv, h1]
    repeat (first | refine wS ?_ | refine wB ?_ | (refine wR ?_; simp only [go_sem, h1]) | (refine wT ?_ ?_; focus (simp only [go_sem]; done)) | (refine wF ?_ ?_; focus (simp only [go_sem]; done)) | (refine wK ?_; try simp only [go_sem, h1]) | (refine wE ?_; try simp only [go_sem, h1]) | refine wX ?_)
    refine wC (must_ok 4) ?_
    simp only [go_sem]
    repeat (first | refine wS ?_ | refine wB ?_ | (refine wR ?_; simp only [go_sem]) | (refine wT ?_ ?_; focus (simp only [go_sem]; done)) | (refine wF ?_ ?_; focus (simp only [go_sem]; done)) | (refine wK ?_; try simp only [go_sem]) | (refine wE ?_; try simp only [go_sem]) | refine wX ?_)
    refine wC (hv) ?_
    simp only [go_sem]
    repeat (first | refine wS ?_ | refine wB ?_ | (refine wR ?_; simp only [go_sem]) | (refine wT ?_ ?_; focus (simp only [go_sem]; done)) | (refine wF ?_ ?_; focus (simp only [go_sem]; done)) | (refine wK ?_; try simp only [go_sem]) | (refine wE ?_; try simp only [go_sem]) | refine wX ?_)
    refine wC (must_ok 12) ?_
    simp only [go_sem]
    repeat (first | refine wS ?_ | refine wB ?_ | (refine wR ?_; simp only [go_sem]) | (refine wT ?_ ?_; focus (simp only [go_sem]; done)) | (refine wF ?_ ?_; focus (simp only [go_sem]; done)) | (refine wK ?_; try simp only [go_sem]) | (refine wE ?_; try simp only [go_sem]) | refine wX ?_)
    exact wNq
end Go.Proofs.YtfbegbpipmgfiaaDoor.Lift
end
section
/- The lift: whether a value is right: check, checkPairs, Check, CheckPairs. No conditions but that utf8's tables lie as they are laid. -/
set_option linter.unusedVariables false
set_option linter.unusedSimpArgs false
set_option maxHeartbeats 4000000
set_option maxRecDepth 100000
namespace Go.Proofs.YtfbegbpipmgfiaaDoor.Lift
open Go Go.RowKit

/-- The first that is not 0. -/
def fst0 : List Nat → Nat
  | [] => 0
  | c :: l => if c = 0 then fst0 l else c
theorem fst0_app (l l' : List Nat) : fst0 (l ++ l') = if fst0 l = 0 then fst0 l' else fst0 l := by
  induction l with
  | nil => simp [fst0]
  | cons c l ih =>
    simp only [List.cons_append, fst0, ih]
    by_cases h : c = 0 <;> simp [h]
theorem fst0_take {l : List Nat} {i c : Nat} (h : l[i]? = some c) (h0 : fst0 (l.take i) = 0) : (c = 0 → fst0 (l.take (i + 1)) = 0) ∧ (c ≠ 0 → fst0 l = c) := by
  have e : l.take (i + 1) = l.take i ++ [c] := by
    rw [List.take_add_one, h]
    rfl
  refine ⟨fun hc => by rw [e, fst0_app, if_pos h0]; simp [fst0, hc], fun hc => ?_⟩
  have : l = l.take (i + 1) ++ l.drop (i + 1) := (List.take_append_drop _ _).symm
  rw [this, e, fst0_app, fst0_app, if_pos h0]
  simp [fst0, hc]
def twice : List ByteArray → Bool
  | [] => false
  | k :: l => l.any (· == k) || twice l
theorem twice_snoc (l : List ByteArray) (k : ByteArray) : twice (l ++ [k]) = (twice l || l.any (· == k)) := by
  induction l with
  | nil => simp [twice]
  | cons x l ih =>
    simp only [List.cons_append, twice, ih, List.any_append, List.any_cons, List.any_nil, Bool.or_false]
    have : (k == x) = (x == k) := by simp [bytes_beq, eq_comm]
    rw [this]
    cases l.any (· == x) <;> cases (x == k) <;> cases twice l <;> cases l.any (· == k) <;> rfl
def okK (k : Nat) (x : V) : Bool := decide (k < 8) && flat x (bareV x)
mutual
def chk : V → Nat → Nat
  | .mk k s b n f l m, d => if okK k (.mk k s b n f l m) = false then 5 else if 4096 < s.size then 4 else if k = 1 ∧ Lib.validD s.data.toList = false then 12 else if 256 < l.length ∨ 256 < m.length then 3 else
      if (k = 5 ∨ k = 6) ∧ 8 ≤ d then 11 else if chkL l (d + 1) ≠ 0 then chkL l (d + 1) else if chkP m (d + 1) ≠ 0 then chkP m (d + 1) else if twice (m.map (·.1)) = true then 6 else 0
def chkL : List V → Nat → Nat
  | [], _ => 0
  | x :: l, d => if chk x d = 0 then chkL l d else chk x d
def chkP : List (ByteArray × V) → Nat → Nat
  | [], _ => 0
  | (k, x) :: m, d => if keyE k = 0 then (if chk x d = 0 then chkP m d else chk x d) else keyE k
end
theorem chkL_fst (d : Nat) : ∀ l : List V, chkL l d = fst0 (l.map (fun x => chk x d))
  | [] => by simp only [chkL, List.map_nil, fst0]
  | x :: l => by simp only [chkL, List.map_cons, fst0, chkL_fst d l]
def chk1 (d : Nat) (p : ByteArray × V) : Nat := if keyE p.1 = 0 then chk p.2 d else keyE p.1
theorem chkP_fst (d : Nat) : ∀ m : List (ByteArray × V), chkP m d = fst0 (m.map (chk1 d))
  | [] => by simp only [chkP, List.map_nil, fst0]
  | (k, x) :: m => by
    simp only [chkP, List.map_cons, fst0, chkP_fst d m, chk1]
    by_cases h : keyE k = 0 <;> simp [h]
def chkPs (m : List (ByteArray × V)) (d : Nat) : Nat := if chkP m d ≠ 0 then chkP m d else if twice (m.map (·.1)) = true then 6 else 0

/-- What has been seen, how often. -/
def cN (es : List (Value × Value)) (k : ByteArray) : Int := match mget es (.string k) with | some (.int _ n) => n | _ => 0
def cStep (es : List (Value × Value)) (k : ByteArray) : List (Value × Value) := mset es (.string k) (.int .i64 (cN es k + 1))
def cnt (ks : List ByteArray) : List (Value × Value) := ks.foldl cStep []
theorem cnt_snoc (ks : List ByteArray) (k : ByteArray) : cnt (ks ++ [k]) = cStep (cnt ks) k := by simp [cnt]
theorem mget_set {es : List (Value × Value)} {k u : Value} (hk : plK k = true) (s : Value) (hs : plK s = true) : mget (mset es k u) s = if keq s k = true then some u else mget es s := by
  induction es with
  | nil => rfl
  | cons p es ih =>
    obtain ⟨x, v⟩ := p
    simp only [mset]
    by_cases hx : keq k x = true
    · have := (keq_iff hk).1 hx
      subst this
      rw [if_pos hx]
      simp only [mget]
      by_cases h : keq s k = true
      · simp only [h, if_true]
      · simp only [h, if_false, Bool.false_eq_true]
    · rw [if_neg hx]
      simp only [mget, ih]
      by_cases h : keq s k = true
      · have := (keq_iff hs).1 h
        subst this
        simp only [h, if_true, hx, if_false, Bool.false_eq_true]
      · simp only [h, if_false, Bool.false_eq_true]
theorem snoc_ind {α : Type} {p : List α → Prop} (h0 : p []) (h1 : ∀ l x, p l → p (l ++ [x])) : ∀ l, p l := by
  have : ∀ r : List α, p r.reverse := fun r => by
    induction r with
    | nil => exact h0
    | cons x r ih => rw [List.reverse_cons]; exact h1 _ _ ih
  intro l
  have := this l.reverse
  rwa [List.reverse_reverse] at this
theorem cnt_get (ks : List ByteArray) (s : ByteArray) : mget (cnt ks) (.string s) = if ks.countP (· == s) = 0 then none else some (.int .i64 (ks.countP (· == s) : Nat)) := by
  revert s
  refine snoc_ind (p := fun ks => ∀ s, mget (cnt ks) (.string s) = if ks.countP (· == s) = 0 then none else some (.int .i64 (ks.countP (· == s) : Nat))) (fun s => rfl) (fun ks k ih s => ?_) ks
  rw [cnt_snoc, cStep, mget_set rfl _ rfl, List.countP_append]
  have hc : cN (cnt ks) k = (ks.countP (· == k) : Nat) := by
    unfold cN
    rw [ih k]
    by_cases h : ks.countP (· == k) = 0
    · rw [if_pos h, h]; rfl
    · rw [if_neg h]
  by_cases h : s = k
  · subst h
    have e : keq (.string s) (.string s) = true := (keq_iff rfl).2 rfl
    have : ([s].countP (· == s)) = 1 := by simp [bytes_beq]
    rw [if_pos e, hc, this, if_neg (by omega)]
    rfl
  · have e : keq (.string s) (.string k) ≠ true := fun e => h (by have := (keq_iff (a := .string s) rfl).1 e; cases this; rfl)
    have : ([k].countP (· == s)) = 0 := by
      rw [List.countP_cons, List.countP_nil, if_neg (by simp [bytes_beq]; exact fun e => h e.symm)]
    rw [if_neg e, ih s, this, Nat.add_zero]
theorem mset_keys {es : List (Value × Value)} {k u : Value} : ∀ p ∈ mset es k u, p.1 = k ∨ ∃ q ∈ es, q.1 = p.1 := by
  induction es with
  | nil =>
    intro p hp
    simp only [mset, List.mem_singleton] at hp
    exact .inl (by rw [hp])
  | cons q es ih =>
    obtain ⟨x, v⟩ := q
    intro p hp
    simp only [mset] at hp
    split at hp
    · rcases List.mem_cons.1 hp with rfl | hp
      · exact .inl rfl
      · exact .inr ⟨p, List.mem_cons_of_mem _ hp, rfl⟩
    · rcases List.mem_cons.1 hp with rfl | hp
      · exact .inr ⟨(x, v), List.mem_cons_self .., rfl⟩
      · rcases ih p hp with h | ⟨q, hq, h⟩
        · exact .inl h
        · exact .inr ⟨q, List.mem_cons_of_mem _ hq, h⟩
theorem cnt_keys (ks : List ByteArray) : ∀ p ∈ cnt ks, ∃ k ∈ ks, p.1 = .string k := by
  refine snoc_ind (p := fun ks => ∀ p ∈ cnt ks, ∃ k ∈ ks, p.1 = .string k) (fun p hp => by simp [cnt] at hp) (fun ks k ih p hp => ?_) ks
  rw [cnt_snoc, cStep] at hp
  rcases mset_keys p hp with h | ⟨q, hq, h⟩
  · exact ⟨k, by simp, h⟩
  · obtain ⟨k', hk, h2⟩ := ih q hq
    exact ⟨k', by simp [hk], h ▸ h2⟩
theorem cnt_ok {ks : List ByteArray} (h : ∀ k ∈ ks, k.size ≤ 140737488355328) : (cnt ks).all (fun p => keyB Tryd.prog 117 p.1) = true := by
  rw [List.all_eq_true]
  intro p hp
  obtain ⟨k, hk, e⟩ := cnt_keys ks p hp
  rw [e]
  exact keyB_str (kt := 9) (et := 3) (by kernel_rfl) (by kernel_rfl) (h k hk)
theorem any_count (ks : List ByteArray) (s : ByteArray) : ks.any (· == s) = decide (0 < ks.countP (· == s)) := by
  rw [Bool.eq_iff_iff, List.any_eq_true, decide_eq_true_eq, List.countP_pos_iff]
end Go.Proofs.YtfbegbpipmgfiaaDoor.Lift
end
section
/- The lift: the walks of check, checkPairs, Check, CheckPairs. No conditions but that utf8's tables lie as they are laid, and what memory holds. -/
set_option linter.unusedVariables false
set_option linter.unusedSimpArgs false
set_option maxHeartbeats 4000000
set_option maxRecDepth 100000
namespace Go.Proofs.YtfbegbpipmgfiaaDoor.Lift
open Go Go.RowKit

theorem checkPairs_of {W0 : World} (hT : Tabs W0) (m : List (ByteArray × V)) (d : Nat) (hm : okP m) (hp : ∀ p ∈ m, APure Tryd.prog W0 85 [va p.2, .d (.v (.int .i64 d))] (· = ends (chk p.2 d))) :
    APure Tryd.prog W0 72 [rP m, .d (.v (.int .i64 d))] (· = ends (chkPs m d)) := by
  have hm1 := hm.1
  refine A_body Tryd.func72 rfl (Nat.le_of_ble_eq_true rfl) ?_
  simp only [go_sem, Tryd.ntmps72, Tryd.results72, mkEnv, rP]
  repeat (first | refine wS ?_ | refine wB ?_ | (refine wR ?_; simp only [go_sem, rP]) | (refine wT ?_ ?_; focus (simp only [go_sem]; done)) | (refine wF ?_ ?_; focus (simp only [go_sem]; done)) | (refine wK ?_; try simp only [go_sem, rP]) | (refine wE ?_; try simp only [go_sem, rP]) | refine wX ?_)
  refine wL (fun i => ⟨39, ofL [(1, .d (.v (.int .i64 d))), (4, .mref 0), (5, .d (.v (.bool (twice ((m.take i).map (·.1)))))), (9, rP m), (10, .d (.v (.int .i64 m.length))), (11, .d (.v (.int .i64 i)))], [.mp (cnt ((m.take i).map (·.1)))]⟩) (m.length) (fun i => chkP (m.take i) d = 0) wSb (rfl) ?_
  intro i hi hinv R hR
  simp only [go_sem]
  repeat (first | refine wS ?_ | refine wB ?_ | (refine wR ?_; simp only [go_sem]) | (refine wT ?_ ?_; focus (simp only [go_sem]; done)) | (refine wF ?_ ?_; focus (simp only [go_sem]; done)) | (refine wK ?_; try simp only [go_sem]) | (refine wE ?_; try simp only [go_sem]) | refine wX ?_)
  refine wI (fun h => ?_) (fun h => ?_)
  · have hlt : i < m.length := by simpa using h
    have hlt2 : ((i : Int) < ((m.length : Nat) : Int)) = True := eq_true (by omega)
    have hw := wrap_succ (i := i) (by omega)
    have hx : (m.map pD)[i]? = some (pD m[i]) := by rw [List.getElem?_map, List.getElem?_eq_getElem hlt]; rfl
    have hin : m[i] ∈ m := List.getElem_mem hlt
    have hks := (hm.2 _ hin).1
    have hkey := key_c hT m[i].1 (by omega)
    have hchk := hp _ hin
    have hval : (m.map (chk1 d))[i]? = some (chk1 d m[i]) := by rw [List.getElem?_map, List.getElem?_eq_getElem hlt]; rfl
    rw [chkP_fst, List.map_take] at hinv
    obtain ⟨hz, hnz⟩ := fst0_take hval hinv
    rw [← List.map_take, ← chkP_fst] at hz
    rw [← chkP_fst] at hnz
    have hks2 : (m.take (i + 1)).map (·.1) = (m.take i).map (·.1) ++ [m[i].1] := by
      rw [List.take_add_one, List.getElem?_eq_getElem hlt, List.map_append]
      rfl
    obtain ⟨ks, hksd⟩ : ∃ ks, ks = (m.take i).map (·.1) := ⟨_, rfl⟩
    have hkall : ∀ k ∈ ks, k.size ≤ 140737488355328 := by
      intro k hk
      rw [hksd] at hk
      obtain ⟨p, hp', rfl⟩ := List.mem_map.1 hk
      have := (hm.2 p (List.mem_of_mem_take hp')).1
      omega
    rw [← hksd] at hks2 ⊢
    have hall := cnt_ok hkall
    have hall2 := cnt_ok (ks := ks ++ [m[i].1]) (by
      intro k hk
      rcases List.mem_append.1 hk with hk | hk
      · exact hkall k hk
      · rw [List.mem_singleton] at hk
        subst hk
        omega)
    have hky := ky_117 (s := m[i].1) (by omega)
    have hlen : ks.length ≤ m.length := by rw [hksd]; simp; omega
    have htw := twice_snoc ks m[i].1
    generalize m[i] = p at hx hks hkey hchk hnz hz hks2 hall2 hky htw
    obtain ⟨k, x⟩ := p
    simp only at hkey hchk hks2 hall2 hky htw
    simp only [chk1] at hnz hz
    have hcl := List.countP_le_length (p := (· == k)) (l := ks)
    have hg : (mget (cnt ks) (.string k)).getD (.int .i64 0) = .int .i64 (ks.countP (· == k) : Nat) := by
      rw [cnt_get]
      by_cases h0 : ks.countP (· == k) = 0
      · rw [if_pos h0, h0]; rfl
      · rw [if_neg h0]; rfl
    have hg2 : (mget (cnt (ks ++ [k])) (.string k)).getD (.int .i64 0) = .int .i64 (ks.countP (· == k) + 1 : Nat) := by
      rw [cnt_get, List.countP_append, show ([k].countP (· == k)) = 1 from by simp [bytes_beq], if_neg (by omega)]
      rfl
    have hadd : IntKind.i64.wrap ((ks.countP (· == k) : Nat) + 1 : Int) = ((ks.countP (· == k) + 1 : Nat) : Int) := wrap_succ (by omega)
    have hset : mset (cnt ks) (.string k) (.int .i64 (ks.countP (· == k) + 1 : Nat)) = cnt (ks ++ [k]) := by
      rw [cnt_snoc, cStep]
      congr 2
      unfold cN
      rw [cnt_get]
      by_cases h0 : ks.countP (· == k) = 0
      · rw [if_pos h0, h0]; rfl
      · rw [if_neg h0]; rfl
    have hgt : decide (1 < ((ks.countP (· == k) + 1 : Nat) : Int)) = ks.any (· == k) := by
      rw [any_count]
      exact decide_eq_decide.2 (by omega)
    repeat (first | refine wS ?_ | refine wB ?_ | (refine wR ?_; simp only [go_sem, hx, pD]) | (refine wT ?_ ?_; focus (simp only [go_sem]; done)) | (refine wF ?_ ?_; focus (simp only [go_sem]; done)) | (refine wK ?_; try simp only [go_sem, hx, pD]) | (refine wE ?_; try simp only [go_sem, hx, pD]) | refine wX ?_)
    by_cases hk0 : keyE k = 0
    · rw [hk0, ends0] at hkey
      rw [if_pos hk0] at hnz hz
      refine wC (hkey) ?_
      simp only [go_sem]
      repeat (first | refine wS ?_ | refine wB ?_ | (refine wR ?_; simp only [go_sem]) | (refine wT ?_ ?_; focus (simp only [go_sem]; done)) | (refine wF ?_ ?_; focus (simp only [go_sem]; done)) | (refine wK ?_; try simp only [go_sem]) | (refine wE ?_; try simp only [go_sem]) | refine wX ?_)
      by_cases hc0 : chk x d = 0
      · rw [hc0, ends0] at hchk
        refine wC (hchk) ?_
        simp only [go_sem, hky, hall, hall2, hg, hg2, hadd, hset, hgt, hw]
        repeat (first | refine wS ?_ | refine wB ?_ | (refine wR ?_; simp only [go_sem, hky, hall, hall2, hg, hg2, hadd, hset, hgt, hw]) | (refine wT ?_ ?_; focus (simp only [go_sem]; done)) | (refine wF ?_ ?_; focus (simp only [go_sem]; done)) | (refine wK ?_; try simp only [go_sem, hky, hall, hall2, hg, hg2, hadd, hset, hgt, hw]) | (refine wE ?_; try simp only [go_sem, hky, hall, hall2, hg, hg2, hadd, hset, hgt, hw]) | refine wX ?_)
        rw [← htw, ← hks2]
        exact hR hlt (hz hc0) _ wSb
      · rw [ends1 hc0] at hchk
        refine wP (hchk) ?_
        try simp only [go_sem]
        refine wPan ⟨?_, rfl⟩
        have := hnz hc0
        rw [chkPs, this, if_pos hc0, ends1 hc0]
        rfl
    · rw [ends1 hk0] at hkey
      rw [if_neg hk0] at hnz hz
      refine wP (hkey) ?_
      try simp only [go_sem]
      refine wPan ⟨?_, rfl⟩
      have := hnz hk0
      rw [chkPs, this, if_pos hk0, ends1 hk0]
      rfl
  · obtain rfl : i = m.length := by simp at h; omega
    repeat (first | refine wS ?_ | refine wB ?_ | (refine wR ?_; simp only [go_sem, List.take_length]) | (refine wT ?_ ?_; focus (simp only [go_sem]; done)) | (refine wF ?_ ?_; focus (simp only [go_sem]; done)) | (refine wK ?_; try simp only [go_sem, List.take_length]) | (refine wE ?_; try simp only [go_sem, List.take_length]) | refine wX ?_)
    rw [List.take_length] at hinv
    cases ht : twice (m.map (·.1)) with
    | true =>
      simp only [go_sem]
      refine wP (must_no 6) ?_
      try simp only [go_sem]
      exact wPan ⟨by rw [chkPs, if_neg (by simp [hinv]), if_pos ht]; rfl, rfl⟩
    | false =>
      have he : ends (chkPs m d) = .ret (.tup []) := by rw [chkPs, if_neg (by simp [hinv]), if_neg (by simp [ht])]; rfl
      rw [he]
      simp only [go_sem]
      refine wC (must_ok 6) ?_
      simp only [go_sem]
      repeat (first | refine wS ?_ | refine wB ?_ | (refine wR ?_; simp only [go_sem]) | (refine wT ?_ ?_; focus (simp only [go_sem]; done)) | (refine wF ?_ ?_; focus (simp only [go_sem]; done)) | (refine wK ?_; try simp only [go_sem]) | (refine wE ?_; try simp only [go_sem]) | refine wX ?_)
      exact wNq
theorem okP_in {l : List V} {m : List (ByteArray × V)} {k : Nat} {s : ByteArray} {b : Bool} {n : Int} {f : Nat} (h : okV (.mk k s b n f l m)) : s.size ≤ 140737488351232 ∧ l.length * 96 ≤ 140737488351232 ∧ (∀ x ∈ l, okV x) ∧ okP m := by
  cases h with
  | mk _ _ _ _ _ _ _ hk hs hn hf hl hm hL hM hM' => exact ⟨hs, hl, hL, hm, fun p hp => ⟨hM p hp, hM' p hp⟩⟩
theorem okK_parts {k : Nat} {s : ByteArray} {b : Bool} {n : Int} {f : Nat} {l : List V} {m : List (ByteArray × V)} (h : okK k (.mk k s b n f l m) = true) : (k ≠ 5 → l = []) ∧ (k ≠ 6 → m = []) := by
  unfold okK at h
  simp only [flat, bareV, Bool.and_eq_true, beq_iff_eq] at h
  obtain ⟨_, ⟨_, h5⟩, h6⟩ := h
  refine ⟨fun e => ?_, fun e => ?_⟩
  · rw [if_neg e] at h5
    exact List.eq_nil_of_length_eq_zero (by simpa using h5)
  · rw [if_neg e] at h6
    exact List.eq_nil_of_length_eq_zero (by simpa using h6)
theorem check_c {W0 : World} (hT : Tabs W0) : ∀ x : V, okV x → ∀ d : Nat, d ≤ 8 → APure Tryd.prog W0 85 [va x, .d (.v (.int .i64 d))] (· = ends (chk x d)) := by
  refine V.ind (p := fun x => okV x → ∀ d : Nat, d ≤ 8 → APure Tryd.prog W0 85 [va x, .d (.v (.int .i64 d))] (· = ends (chk x d))) ?_
  intro k s b n f l m hl hm hok d hd
  obtain ⟨hs, hll, hL, hP⟩ := okP_in hok
  have hflat := flat_c (W0 := W0) (.mk k s b n f l m) (bareV (.mk k s b n f l m))
  have hbare := bare_c (W0 := W0) (.mk k s b n f l m)
  have hk8 : (decide ((k : Int) < 8) && flat (.mk k s b n f l m) (bareV (.mk k s b n f l m))) = okK k (.mk k s b n f l m) := by
    unfold okK
    congr 1
    exact decide_eq_decide.2 (by omega)
  rw [chk]
  simp only [va, vD, vDs_map, pDs_map, List.map_cons, List.map_nil] at hflat hbare
  refine A_body Tryd.func85 rfl (Nat.le_of_ble_eq_true rfl) ?_
  simp only [go_sem, Tryd.ntmps85, Tryd.results85, mkEnv, va, vD, vDs_map, pDs_map]
  repeat (first | refine wS ?_ | refine wB ?_ | (refine wR ?_; simp only [go_sem, va, vD, vDs_map, pDs_map]) | (refine wT ?_ ?_; focus (simp only [go_sem]; done)) | (refine wF ?_ ?_; focus (simp only [go_sem]; done)) | (refine wK ?_; try simp only [go_sem, va, vD, vDs_map, pDs_map]) | (refine wE ?_; try simp only [go_sem, va, vD, vDs_map, pDs_map]) | refine wX ?_)
  refine wD 9 ?_ mixedO (by kernel_rfl)
  simp only [go_sem]
  repeat (first | refine wS ?_ | refine wB ?_ | (refine wR ?_; simp only [go_sem]) | (refine wT ?_ ?_; focus (simp only [go_sem]; done)) | (refine wF ?_ ?_; focus (simp only [go_sem]; done)) | (refine wK ?_; try simp only [go_sem]) | (refine wE ?_; try simp only [go_sem]) | refine wX ?_)
  refine wQG (fun hh => hbare) ?_
  simp only [go_sem, hk8]
  repeat (first | refine wS ?_ | refine wB ?_ | (refine wR ?_; simp only [go_sem, hk8]) | (refine wT ?_ ?_; focus (simp only [go_sem]; done)) | (refine wF ?_ ?_; focus (simp only [go_sem]; done)) | (refine wK ?_; try simp only [go_sem, hk8]) | (refine wE ?_; try simp only [go_sem, hk8]) | refine wX ?_)
  refine wQG (fun hh => hflat) ?_
  simp only [go_sem, hk8]
  repeat (first | refine wS ?_ | refine wB ?_ | (refine wR ?_; simp only [go_sem, hk8]) | (refine wT ?_ ?_; focus (simp only [go_sem]; done)) | (refine wF ?_ ?_; focus (simp only [go_sem]; done)) | (refine wK ?_; try simp only [go_sem, hk8]) | (refine wE ?_; try simp only [go_sem, hk8]) | refine wX ?_)
  have hkk : k < 8 ∨ True := .inr trivial
  cases hb1 : okK k (.mk k s b n f l m) with
  | false =>
    rw [hb1] at hk8
    rw [if_pos rfl]
    refine wD1 9 ?_ (by kernel_rfl)
    simp only [go_sem, hk8]
    refine wP (must_no 5) ?_
    try simp only [go_sem, hk8]
    exact wPan ⟨rfl, rfl⟩
  | true =>
    rw [hb1] at hk8
    rw [if_neg (by simp)]
    have hv := valid_c hT s (by omega)
    obtain ⟨c4, e4⟩ : ∃ c, decide ((s.size : Int) ≤ 4096) = c := ⟨_, rfl⟩
    obtain ⟨g, e1⟩ : ∃ c, ((k : Int) != 1 || Lib.validD s.data.toList) = c := ⟨_, rfl⟩
    obtain ⟨c3, e3⟩ : ∃ c, decide ((if (l.length : Int) < (m.length : Int) then (m.length : Int) else (l.length : Int)) ≤ 256) = c := ⟨_, rfl⟩
    obtain ⟨c11, e11⟩ : ∃ c, ((k : Int) != 5 && (k : Int) != 6 || decide ((d : Int) < 8)) = c := ⟨_, rfl⟩
    refine wD1 9 ?_ (by kernel_rfl)
    simp only [go_sem, hk8]
    refine wC (must_ok 5) ?_
    simp only [go_sem, hk8]
    repeat (first | refine wS ?_ | refine wB ?_ | (refine wR ?_; simp only [go_sem, hk8]) | (refine wT ?_ ?_; focus (simp only [go_sem]; done)) | (refine wF ?_ ?_; focus (simp only [go_sem]; done)) | (refine wK ?_; try simp only [go_sem, hk8]) | (refine wE ?_; try simp only [go_sem, hk8]) | refine wX ?_)
    refine wD0 ?_ (by kernel_rfl)
    try simp only [go_sem, e4]
    repeat (first | refine wS ?_ | refine wB ?_ | (refine wR ?_; simp only [go_sem, e4]) | (refine wT ?_ ?_; focus (simp only [go_sem]; done)) | (refine wF ?_ ?_; focus (simp only [go_sem]; done)) | (refine wK ?_; try simp only [go_sem, e4]) | (refine wE ?_; try simp only [go_sem, e4]) | refine wX ?_)
    cases c4 with
    | false =>
      have h4 : 4096 < s.size := by simp at e4; omega
      rw [if_pos h4]
      refine wP (must_no 4) ?_
      try simp only [go_sem]
      exact wPan ⟨rfl, rfl⟩
    | true =>
    have h4 : ¬ 4096 < s.size := by simp at e4; omega
    rw [if_neg h4]
    refine wC (must_ok 4) ?_
    simp only [go_sem, e1]
    repeat (first | refine wS ?_ | refine wB ?_ | (refine wR ?_; simp only [go_sem, e1]) | (refine wT ?_ ?_; focus (simp only [go_sem]; done)) | (refine wF ?_ ?_; focus (simp only [go_sem]; done)) | (refine wK ?_; try simp only [go_sem, e1]) | (refine wE ?_; try simp only [go_sem, e1]) | refine wX ?_)
    refine wCG (fun hh => hv) ?_
    simp only [go_sem, e1]
    repeat (first | refine wS ?_ | refine wB ?_ | (refine wR ?_; simp only [go_sem, e1]) | (refine wT ?_ ?_; focus (simp only [go_sem]; done)) | (refine wF ?_ ?_; focus (simp only [go_sem]; done)) | (refine wK ?_; try simp only [go_sem, e1]) | (refine wE ?_; try simp only [go_sem, e1]) | refine wX ?_)
    cases g with
    | false =>
      have h12 : k = 1 ∧ Lib.validD s.data.toList = false := by
        simp only [Bool.or_eq_false_iff, bne_eq_false_iff_eq] at e1
        exact ⟨by omega, e1.2⟩
      rw [if_pos h12]
      refine wP (must_no 12) ?_
      try simp only [go_sem]
      exact wPan ⟨rfl, rfl⟩
    | true =>
    have h12 : ¬ (k = 1 ∧ Lib.validD s.data.toList = false) := by
      rintro ⟨rfl, h⟩
      rw [h] at e1
      cases e1
    rw [if_neg h12]
    refine wC (must_ok 12) ?_
    simp only [go_sem, e3]
    repeat (first | refine wS ?_ | refine wB ?_ | (refine wR ?_; simp only [go_sem, e3]) | (refine wT ?_ ?_; focus (simp only [go_sem]; done)) | (refine wF ?_ ?_; focus (simp only [go_sem]; done)) | (refine wK ?_; try simp only [go_sem, e3]) | (refine wE ?_; try simp only [go_sem, e3]) | refine wX ?_)
    cases c3 with
    | false =>
      have h3 : 256 < l.length ∨ 256 < m.length := by
        simp only [decide_eq_false_iff_not] at e3
        split at e3 <;> omega
      rw [if_pos h3]
      refine wP (must_no 3) ?_
      try simp only [go_sem]
      exact wPan ⟨rfl, rfl⟩
    | true =>
    have h3 : ¬ (256 < l.length ∨ 256 < m.length) := by
      simp only [decide_eq_true_eq] at e3
      split at e3 <;> omega
    rw [if_neg h3]
    refine wC (must_ok 3) ?_
    simp only [go_sem, e11]
    repeat (first | refine wS ?_ | refine wB ?_ | (refine wR ?_; simp only [go_sem, e11]) | (refine wT ?_ ?_; focus (simp only [go_sem]; done)) | (refine wF ?_ ?_; focus (simp only [go_sem]; done)) | (refine wK ?_; try simp only [go_sem, e11]) | (refine wE ?_; try simp only [go_sem, e11]) | refine wX ?_)
    cases c11 with
    | false =>
      have h11 : (k = 5 ∨ k = 6) ∧ 8 ≤ d := by
        simp only [Bool.or_eq_false_iff, Bool.and_eq_false_iff, bne_eq_false_iff_eq, decide_eq_false_iff_not] at e11
        omega
      rw [if_pos h11]
      refine wP (must_no 11) ?_
      try simp only [go_sem]
      exact wPan ⟨rfl, rfl⟩
    | true =>
    have h11 : ¬ ((k = 5 ∨ k = 6) ∧ 8 ≤ d) := by
      rintro ⟨h, h2⟩
      simp only [Bool.or_eq_true, Bool.and_eq_true, bne_iff_ne, decide_eq_true_eq] at e11
      omega
    rw [if_neg h11]
    obtain ⟨f5, f6⟩ := okK_parts hb1
    have hd8 : (l ≠ [] ∨ m ≠ []) → d < 8 := by
      rintro (h | h)
      · have : k = 5 := Decidable.byContradiction fun e => h (f5 e)
        omega
      · have : k = 6 := Decidable.byContradiction fun e => h (f6 e)
        omega
    have hwd : IntKind.i64.wrap ((d : Int) + 1) = ((d + 1 : Nat) : Int) := wrap_succ (by omega)
    refine wC (must_ok 11) ?_
    simp only [go_sem]
    repeat (first | refine wS ?_ | refine wB ?_ | (refine wR ?_; simp only [go_sem]) | (refine wT ?_ ?_; focus (simp only [go_sem]; done)) | (refine wF ?_ ?_; focus (simp only [go_sem]; done)) | (refine wK ?_; try simp only [go_sem]) | (refine wE ?_; try simp only [go_sem]) | refine wX ?_)
    refine wL (fun i => ⟨69, ofL [(1, .d (.v (.int .i64 d))), (2, .ptr 0 0), (53, rV l), (54, .d (.v (.int .i64 l.length))), (55, .d (.v (.int .i64 i)))], [.var [.d (.v (.int .u8 k)), .d (.v (.string s)), .d (.v (.bool b)), .d (.v (.int .i64 n)), .d (.v (.float .f64 f)), .d (.rows 7 96 (l.map vD)), .d (.rows 8 112 (m.map pD))]]⟩) (l.length) (fun i => chkL (l.take i) (d + 1) = 0) wSb (rfl) ?_
    intro i hi hinv R hR
    simp only [go_sem]
    repeat (first | refine wS ?_ | refine wB ?_ | (refine wR ?_; simp only [go_sem]) | (refine wT ?_ ?_; focus (simp only [go_sem]; done)) | (refine wF ?_ ?_; focus (simp only [go_sem]; done)) | (refine wK ?_; try simp only [go_sem]) | (refine wE ?_; try simp only [go_sem]) | refine wX ?_)
    refine wI (fun h => ?_) (fun h => ?_)
    · have hlt : i < l.length := by simpa using h
      have hlt2 : ((i : Int) < ((l.length : Nat) : Int)) = True := eq_true (by omega)
      have hw := wrap_succ (i := i) (by omega)
      have hx : (l.map vD)[i]? = some (vD l[i]) := by rw [List.getElem?_map, List.getElem?_eq_getElem hlt]; rfl
      have hin : l[i] ∈ l := List.getElem_mem hlt
      have hd8' := hd8 (.inl fun e => by subst e; simp at hlt)
      have hchk := hl _ hin (hL _ hin) (d + 1) (by omega)
      have hval : (l.map fun x => chk x (d + 1))[i]? = some (chk l[i] (d + 1)) := by rw [List.getElem?_map, List.getElem?_eq_getElem hlt]; rfl
      rw [chkL_fst, List.map_take] at hinv
      obtain ⟨hz, hnz⟩ := fst0_take hval hinv
      rw [← List.map_take, ← chkL_fst] at hz
      rw [← chkL_fst] at hnz
      generalize l[i] = x at hx hchk hz hnz
      repeat (first | refine wS ?_ | refine wB ?_ | (refine wR ?_; simp only [go_sem, hx, hwd]) | (refine wT ?_ ?_; focus (simp only [go_sem]; done)) | (refine wF ?_ ?_; focus (simp only [go_sem]; done)) | (refine wK ?_; try simp only [go_sem, hx, hwd]) | (refine wE ?_; try simp only [go_sem, hx, hwd]) | refine wX ?_)
      by_cases hc0 : chk x (d + 1) = 0
      · rw [hc0, ends0] at hchk
        refine wC (hchk) ?_
        simp only [go_sem, hw]
        repeat (first | refine wS ?_ | refine wB ?_ | (refine wR ?_; simp only [go_sem, hw]) | (refine wT ?_ ?_; focus (simp only [go_sem]; done)) | (refine wF ?_ ?_; focus (simp only [go_sem]; done)) | (refine wK ?_; try simp only [go_sem, hw]) | (refine wE ?_; try simp only [go_sem, hw]) | refine wX ?_)
        exact hR hlt (hz hc0) _ wSb
      · rw [ends1 hc0] at hchk
        refine wP (hchk) ?_
        try simp only [go_sem]
        refine wPan ⟨?_, rfl⟩
        have := hnz hc0
        rw [this, if_pos hc0, ends1 hc0]
        rfl
    · obtain rfl : i = l.length := by simp at h; omega
      repeat (first | refine wS ?_ | refine wB ?_ | (refine wR ?_; simp only [go_sem, hwd]) | (refine wT ?_ ?_; focus (simp only [go_sem]; done)) | (refine wF ?_ ?_; focus (simp only [go_sem]; done)) | (refine wK ?_; try simp only [go_sem, hwd]) | (refine wE ?_; try simp only [go_sem, hwd]) | refine wX ?_)
      rw [List.take_length] at hinv
      rw [if_neg (by simp [hinv])]
      have hcp := checkPairs_of hT m (d + 1) hP fun p hp => hm p hp (hP.2 p hp).2 (d + 1) (by have := hd8 (.inr fun e => by subst e; simp at hp); omega)
      have he : (if chkP m (d + 1) ≠ 0 then chkP m (d + 1) else if twice (m.map (·.1)) = true then 6 else 0) = chkPs m (d + 1) := rfl
      rw [he]
      by_cases hc0 : chkPs m (d + 1) = 0
      · rw [hc0, ends0] at hcp ⊢
        refine wC (hcp) ?_
        simp only [go_sem]
        repeat (first | refine wS ?_ | refine wB ?_ | (refine wR ?_; simp only [go_sem]) | (refine wT ?_ ?_; focus (simp only [go_sem]; done)) | (refine wF ?_ ?_; focus (simp only [go_sem]; done)) | (refine wK ?_; try simp only [go_sem]) | (refine wE ?_; try simp only [go_sem]) | refine wX ?_)
        exact wNq
      · rw [ends1 hc0] at hcp ⊢
        refine wP (hcp) ?_
        try simp only [go_sem]
        exact wPan ⟨rfl, rfl⟩
theorem checkPairs_c {W0 : World} (hT : Tabs W0) (m : List (ByteArray × V)) (d : Nat) (hm : okP m) (hd : d ≤ 8) : APure Tryd.prog W0 72 [rP m, .d (.v (.int .i64 d))] (· = ends (chkPs m d)) :=
  checkPairs_of hT m d hm fun p hp => check_c hT p.2 (hm.2 p hp).2 d hd
/-- Check, CheckPairs. -/
theorem check1_c {W0 : World} (hT : Tabs W0) (x : V) (hx : okV x) : ACalls Tryd.prog W0 86 [.ptr 0 0] [.var ((vD x).map .d)] (fun r L' => r = ends (chk x 0) ∧ L' = [.var ((vD x).map .d)]) := by
  have hc := check_c hT x hx 0 (by omega)
  refine A_body Tryd.func86 rfl (Nat.le_of_ble_eq_true rfl) ?_
  simp only [go_sem, Tryd.ntmps86, Tryd.results86, mkEnv]
  repeat (first | refine wS ?_ | refine wB ?_ | (refine wR ?_; simp only [go_sem]) | (refine wT ?_ ?_; focus (simp only [go_sem]; done)) | (refine wF ?_ ?_; focus (simp only [go_sem]; done)) | (refine wK ?_; try simp only [go_sem]) | (refine wE ?_; try simp only [go_sem]) | refine wX ?_)
  by_cases hc0 : chk x 0 = 0
  · rw [hc0, ends0] at hc ⊢
    refine wC (hc) ?_
    simp only [go_sem]
    repeat (first | refine wS ?_ | refine wB ?_ | (refine wR ?_; simp only [go_sem]) | (refine wT ?_ ?_; focus (simp only [go_sem]; done)) | (refine wF ?_ ?_; focus (simp only [go_sem]; done)) | (refine wK ?_; try simp only [go_sem]) | (refine wE ?_; try simp only [go_sem]) | refine wX ?_)
    exact wRetBN [.var ((vD x).map .d)] ⟨rfl, rfl⟩
  · rw [ends1 hc0] at hc ⊢
    refine wP (hc) ?_
    try simp only [go_sem]
    exact wPanB [.var ((vD x).map .d)] ⟨rfl, rfl⟩
def chkAll (m : List (ByteArray × V)) : Nat := if 256 < m.length then 3 else chkPs m 0
theorem checkp1_c {W0 : World} (hT : Tabs W0) (m : List (ByteArray × V)) (hm : okP m) : ACalls Tryd.prog W0 70 [.ptr 0 0] [.var [rP m]] (fun r L' => r = ends (chkAll m) ∧ L' = [.var [rP m]]) := by
  have hc := checkPairs_c hT m 0 hm (by omega)
  have hm1 := hm.1
  unfold chkAll
  obtain ⟨c3, e3⟩ : ∃ c, decide ((m.length : Int) ≤ 256) = c := ⟨_, rfl⟩
  refine A_body Tryd.func70 rfl (Nat.le_of_ble_eq_true rfl) ?_
  simp only [go_sem, Tryd.ntmps70, Tryd.results70, mkEnv, e3]
  repeat (first | refine wS ?_ | refine wB ?_ | (refine wR ?_; simp only [go_sem, e3]) | (refine wT ?_ ?_; focus (simp only [go_sem]; done)) | (refine wF ?_ ?_; focus (simp only [go_sem]; done)) | (refine wK ?_; try simp only [go_sem, e3]) | (refine wE ?_; try simp only [go_sem, e3]) | refine wX ?_)
  cases c3 with
  | false =>
    have h3 : 256 < m.length := by simp at e3; omega
    rw [if_pos h3]
    refine wP (must_no 3) ?_
    try simp only [go_sem]
    exact wPanB [.var [rP m]] ⟨rfl, rfl⟩
  | true =>
  have h3 : ¬ 256 < m.length := by simp at e3; omega
  rw [if_neg h3]
  refine wC (must_ok 3) ?_
  simp only [go_sem]
  repeat (first | refine wS ?_ | refine wB ?_ | (refine wR ?_; simp only [go_sem]) | (refine wT ?_ ?_; focus (simp only [go_sem]; done)) | (refine wF ?_ ?_; focus (simp only [go_sem]; done)) | (refine wK ?_; try simp only [go_sem]) | (refine wE ?_; try simp only [go_sem]) | refine wX ?_)
  by_cases hc0 : chkPs m 0 = 0
  · rw [hc0, ends0] at hc ⊢
    refine wC (hc) ?_
    simp only [go_sem]
    repeat (first | refine wS ?_ | refine wB ?_ | (refine wR ?_; simp only [go_sem]) | (refine wT ?_ ?_; focus (simp only [go_sem]; done)) | (refine wF ?_ ?_; focus (simp only [go_sem]; done)) | (refine wK ?_; try simp only [go_sem]) | (refine wE ?_; try simp only [go_sem]) | refine wX ?_)
    exact wRetBN [.var [rP m]] ⟨rfl, rfl⟩
  · rw [ends1 hc0] at hc ⊢
    refine wP (hc) ?_
    try simp only [go_sem]
    exact wPanB [.var [rP m]] ⟨rfl, rfl⟩
end Go.Proofs.YtfbegbpipmgfiaaDoor.Lift
end
section
/- The lift: Check, CheckPairs. No conditions but that utf8's tables lie as they are laid, and what memory holds. -/
set_option linter.unusedVariables false
set_option linter.unusedSimpArgs false
set_option maxHeartbeats 4000000
set_option maxRecDepth 100000
namespace Go.Proofs.YtfbegbpipmgfiaaDoor.Lift
open Go Go.RowKit

/-- What is answered of a function that ends so. -/
theorem caught_ends {W0 : World} {g : FuncId} {caps : List AV} {L L2 : List Box} {c : Nat} (hg : callable Tryd.prog g = true) (h : ACalls Tryd.prog W0 g caps L (fun r L' => r = ends c ∧ L' = L2)) :
    ACalls Tryd.prog W0 69 [.fn g caps] L (fun r L' => r = .ret (.d (.v (.int .i64 c))) ∧ L' = L2) :=
  Val.A_caught hg h (by
    rintro r L' ⟨rfl, rfl⟩
    by_cases hc : c = 0
    · subst hc
      exact .inl ⟨rfl, rfl, rfl⟩
    · exact .inr ⟨c, ends1 hc, rfl, rfl⟩)
theorem Check_c {W0 : World} (hT : Tabs W0) (x : V) (hx : okV x) : APure Tryd.prog W0 74 [va x] (· = .ret (.d (.v (.int .i64 (chk x 0 : Nat))))) := by
  have hc := caught_ends (by simp only [go_sem]) (check1_c hT x hx)
  obtain ⟨k, s, b, n, f, l, m⟩ := x
  simp only [vD, vDs_map, pDs_map, List.map_cons, List.map_nil] at hc
  refine A_body Tryd.func74 rfl (Nat.le_of_ble_eq_true rfl) ?_
  simp only [go_sem, Tryd.ntmps74, Tryd.results74, mkEnv, vD, vDs_map, pDs_map]
  repeat (first | refine wS ?_ | refine wB ?_ | (refine wR ?_; simp only [go_sem, vD, vDs_map, pDs_map]) | (refine wT ?_ ?_; focus (simp only [go_sem]; done)) | (refine wF ?_ ?_; focus (simp only [go_sem]; done)) | (refine wK ?_; try simp only [go_sem, vD, vDs_map, pDs_map]) | (refine wE ?_; try simp only [go_sem, vD, vDs_map, pDs_map]) | refine wX ?_)
  refine wCB [0] (hc) ?_
  simp only [go_sem]
  repeat (first | refine wS ?_ | refine wB ?_ | (refine wR ?_; simp only [go_sem]) | (refine wT ?_ ?_; focus (simp only [go_sem]; done)) | (refine wF ?_ ?_; focus (simp only [go_sem]; done)) | (refine wK ?_; try simp only [go_sem]) | (refine wE ?_; try simp only [go_sem]) | refine wX ?_)
  exact wRq
theorem CheckPairs_c {W0 : World} (hT : Tabs W0) (m : List (ByteArray × V)) (hm : okP m) : APure Tryd.prog W0 49 [rP m] (· = .ret (.d (.v (.int .i64 (chkAll m : Nat))))) := by
  have hc := caught_ends (by simp only [go_sem]) (checkp1_c hT m hm)
  refine A_body Tryd.func49 rfl (Nat.le_of_ble_eq_true rfl) ?_
  simp only [go_sem, Tryd.ntmps49, Tryd.results49, mkEnv]
  repeat (first | refine wS ?_ | refine wB ?_ | (refine wR ?_; simp only [go_sem]) | (refine wT ?_ ?_; focus (simp only [go_sem]; done)) | (refine wF ?_ ?_; focus (simp only [go_sem]; done)) | (refine wK ?_; try simp only [go_sem]) | (refine wE ?_; try simp only [go_sem]) | refine wX ?_)
  refine wCB [0] (hc) ?_
  simp only [go_sem]
  repeat (first | refine wS ?_ | refine wB ?_ | (refine wR ?_; simp only [go_sem]) | (refine wT ?_ ?_; focus (simp only [go_sem]; done)) | (refine wF ?_ ?_; focus (simp only [go_sem]; done)) | (refine wK ?_; try simp only [go_sem]) | (refine wE ?_; try simp only [go_sem]) | refine wX ?_)
  exact wRq
end Go.Proofs.YtfbegbpipmgfiaaDoor.Lift
end
section
/- pdata: must, fine. No conditions. -/
set_option linter.unusedVariables false
set_option linter.unusedSimpArgs false
set_option maxHeartbeats 4000000
set_option maxRecDepth 100000
namespace Go.Proofs.YtfbegbpipmgfiaaDoor.Lift
open Go Go.RowKit

theorem pmust_ok {W0 : World} (c : Int) : APure Tryd.prog W0 28 [.d (.v (.bool true)), .d (.v (.int .i64 c))] (· = .ret (.tup [])) := by
  refine A_body Tryd.func28 rfl (Nat.le_of_ble_eq_true rfl) ?_
  simp only [go_sem, Tryd.ntmps28, Tryd.results28, mkEnv]
  repeat (first | refine wS ?_ | refine wB ?_ | (refine wR ?_; simp only [go_sem]) | (refine wT ?_ ?_; focus (simp only [go_sem]; done)) | (refine wF ?_ ?_; focus (simp only [go_sem]; done)) | (refine wK ?_; try simp only [go_sem]) | (refine wE ?_; try simp only [go_sem]) | refine wX ?_)
  exact wNq
theorem pmust_no {W0 : World} (c : Int) : APure Tryd.prog W0 28 [.d (.v (.bool false)), .d (.v (.int .i64 c))] (· = .panic (err c)) := by
  refine A_body Tryd.func28 rfl (Nat.le_of_ble_eq_true rfl) ?_
  simp only [go_sem, Tryd.ntmps28, Tryd.results28, mkEnv]
  repeat (first | refine wS ?_ | refine wB ?_ | (refine wR ?_; simp only [go_sem]) | (refine wT ?_ ?_; focus (simp only [go_sem]; done)) | (refine wF ?_ ?_; focus (simp only [go_sem]; done)) | (refine wK ?_; try simp only [go_sem]) | (refine wE ?_; try simp only [go_sem]) | refine wX ?_)
  refine wPanic ?_
  exact wPan ⟨rfl, rfl⟩
theorem pfine_ok {W0 : World} : APure Tryd.prog W0 48 [.d (.v (.int .i64 0))] (· = .ret (.tup [])) := by
  refine A_body Tryd.func48 rfl (Nat.le_of_ble_eq_true rfl) ?_
  simp only [go_sem, Tryd.ntmps48, Tryd.results48, mkEnv]
  repeat (first | refine wS ?_ | refine wB ?_ | (refine wR ?_; simp only [go_sem]) | (refine wT ?_ ?_; focus (simp only [go_sem]; done)) | (refine wF ?_ ?_; focus (simp only [go_sem]; done)) | (refine wK ?_; try simp only [go_sem]) | (refine wE ?_; try simp only [go_sem]) | refine wX ?_)
  refine wC (pmust_ok 0) ?_
  simp only [go_sem]
  repeat (first | refine wS ?_ | refine wB ?_ | (refine wR ?_; simp only [go_sem]) | (refine wT ?_ ?_; focus (simp only [go_sem]; done)) | (refine wF ?_ ?_; focus (simp only [go_sem]; done)) | (refine wK ?_; try simp only [go_sem]) | (refine wE ?_; try simp only [go_sem]) | refine wX ?_)
  exact wNq
theorem pfine_no {W0 : World} (c : Int) (hc : c ≠ 0) : APure Tryd.prog W0 48 [.d (.v (.int .i64 c))] (· = .panic (err c)) := by
  have h0 : (c == 0) = false := by simpa using hc
  refine A_body Tryd.func48 rfl (Nat.le_of_ble_eq_true rfl) ?_
  simp only [go_sem, Tryd.ntmps48, Tryd.results48, mkEnv, h0]
  repeat (first | refine wS ?_ | refine wB ?_ | (refine wR ?_; simp only [go_sem, h0]) | (refine wT ?_ ?_; focus (simp only [go_sem]; done)) | (refine wF ?_ ?_; focus (simp only [go_sem]; done)) | (refine wK ?_; try simp only [go_sem, h0]) | (refine wE ?_; try simp only [go_sem, h0]) | refine wX ?_)
  refine wP (pmust_no c) ?_
  try simp only [go_sem]
  exact wPan ⟨rfl, rfl⟩
end Go.Proofs.YtfbegbpipmgfiaaDoor.Lift
end
section
/- pdata: leafs of check: kinds. No conditions. -/
set_option linter.unusedVariables false
set_option linter.unusedSimpArgs false
set_option maxHeartbeats 4000000
set_option maxRecDepth 100000
namespace Go.Proofs.YtfbegbpipmgfiaaDoor.Lift
open Go Go.RowKit

def kindsB (k v : Int) : Bool := if k == 3 then v == 3 else if k == 4 then v == 4 else if k == 5 then v == 5 else decide (v ≤ 2)
theorem kinds_c {W0 : World} (k v : Int) : APure Tryd.prog W0 77 [.d (.v (.int .i32 k)), .d (.v (.int .u8 v))] (· = .ret (.d (.v (.bool (kindsB k v))))) := by
  by_cases h3 : k = 3
  · subst h3
    refine A_body Tryd.func77 rfl (Nat.le_of_ble_eq_true rfl) ?_
    simp only [go_sem, Tryd.ntmps77, Tryd.results77, mkEnv]
    repeat (first | refine wS ?_ | refine wB ?_ | (refine wR ?_; simp only [go_sem]) | (refine wT ?_ ?_; focus (simp only [go_sem]; done)) | (refine wF ?_ ?_; focus (simp only [go_sem]; done)) | (refine wK ?_; try simp only [go_sem]) | (refine wE ?_; try simp only [go_sem]) | refine wX ?_)
    try simp only [Thn, InB]
    refine wRet (hn := ?hn) ⟨?hq, rfl⟩
    case hq => rfl
    case hn => rfl
  by_cases h4 : k = 4
  · subst h4
    refine A_body Tryd.func77 rfl (Nat.le_of_ble_eq_true rfl) ?_
    simp only [go_sem, Tryd.ntmps77, Tryd.results77, mkEnv]
    repeat (first | refine wS ?_ | refine wB ?_ | (refine wR ?_; simp only [go_sem]) | (refine wT ?_ ?_; focus (simp only [go_sem]; done)) | (refine wF ?_ ?_; focus (simp only [go_sem]; done)) | (refine wK ?_; try simp only [go_sem]) | (refine wE ?_; try simp only [go_sem]) | refine wX ?_)
    try simp only [Thn, InB]
    refine wRet (hn := ?hn) ⟨?hq, rfl⟩
    case hq => rfl
    case hn => rfl
  by_cases h5 : k = 5
  · subst h5
    refine A_body Tryd.func77 rfl (Nat.le_of_ble_eq_true rfl) ?_
    simp only [go_sem, Tryd.ntmps77, Tryd.results77, mkEnv]
    repeat (first | refine wS ?_ | refine wB ?_ | (refine wR ?_; simp only [go_sem]) | (refine wT ?_ ?_; focus (simp only [go_sem]; done)) | (refine wF ?_ ?_; focus (simp only [go_sem]; done)) | (refine wK ?_; try simp only [go_sem]) | (refine wE ?_; try simp only [go_sem]) | refine wX ?_)
    try simp only [Thn, InB]
    refine wRet (hn := ?hn) ⟨?hq, rfl⟩
    case hq => rfl
    case hn => rfl
  have e3 : (k == 3) = false := by simpa using h3
  have e4 : (k == 4) = false := by simpa using h4
  have e5 : (k == 5) = false := by simpa using h5
  refine A_body Tryd.func77 rfl (Nat.le_of_ble_eq_true rfl) ?_
  simp only [go_sem, Tryd.ntmps77, Tryd.results77, mkEnv, e3, e4, e5]
  repeat (first | refine wS ?_ | refine wB ?_ | (refine wR ?_; simp only [go_sem, e3, e4, e5]) | (refine wT ?_ ?_; focus (simp only [go_sem]; done)) | (refine wF ?_ ?_; focus (simp only [go_sem]; done)) | (refine wK ?_; try simp only [go_sem, e3, e4, e5]) | (refine wE ?_; try simp only [go_sem, e3, e4, e5]) | refine wX ?_)
  try simp only [Thn, InB]
  refine wRet (hn := ?hn) ⟨?hq, rfl⟩
  case hq => simp only [kindsB, e3, e4, e5, Bool.false_eq_true, if_false]
  case hn => rfl
theorem either_c {W0 : World} (s : ByteArray) (n : Int) : APure Tryd.prog W0 73 [.d (.v (.string s)), .d (.v (.int .i64 n))] (· = .ret (.d (.v (.bool (s.toList == (ByteArray.mk #[]).toList || ((s.size : Int) == n)))))) := by
  refine A_body Tryd.func73 rfl (Nat.le_of_ble_eq_true rfl) ?_
  simp only [go_sem, Tryd.ntmps73, Tryd.results73, mkEnv]
  repeat (first | refine wS ?_ | refine wB ?_ | (refine wR ?_; simp only [go_sem]) | (refine wT ?_ ?_; focus (simp only [go_sem]; done)) | (refine wF ?_ ?_; focus (simp only [go_sem]; done)) | (refine wK ?_; try simp only [go_sem]) | (refine wE ?_; try simp only [go_sem]) | refine wX ?_)
  exact wRq
end Go.Proofs.YtfbegbpipmgfiaaDoor.Lift
end
section
/- pdata: leafs of check: sum. No conditions. -/
set_option linter.unusedVariables false
set_option linter.unusedSimpArgs false
set_option maxHeartbeats 4000000
set_option maxRecDepth 100000
namespace Go.Proofs.YtfbegbpipmgfiaaDoor.Lift
open Go Go.RowKit

/-- The sum, or nothing where it wraps. -/
def sumU (c : Int) : List Int → Option Int
  | [] => some c
  | x :: l => if c ≤ IntKind.u64.wrap (c + x) then sumU (IntKind.u64.wrap (c + x)) l else none
def u64L (x : Int) : List D := [.v (.int .u64 x)]
def sumR (o : Option Int) : Res := match o with | some x => .ret (.d (.v (.int .u64 x))) | none => .panic (err 5)
theorem ab_u64 {m : List Int} (h : AB (.d (.rows 1 8 (m.map u64L)))) : m.length * 8 ≤ 140737488355328 := by
  simp only [AB] at h
  cases h with
  | rows _ _ _ h _ => simpa using h
theorem sum_c {W0 : World} (c : Int) (l : List Int) : APure Tryd.prog W0 89 [.d (.v (.int .u64 c)), .d (.rows 1 8 (l.map u64L))] (· = sumR (sumU c l)) := by
  refine APure.known fun hk => ?_
  refine A_body Tryd.func89 rfl (Nat.le_of_ble_eq_true rfl) ?_
  simp only [go_sem, Tryd.ntmps89, Tryd.results89, mkEnv]
  repeat (first | refine wS ?_ | refine wB ?_ | (refine wR ?_; simp only [go_sem]) | (refine wT ?_ ?_; focus (simp only [go_sem]; done)) | (refine wF ?_ ?_; focus (simp only [go_sem]; done)) | (refine wK ?_; try simp only [go_sem]) | (refine wE ?_; try simp only [go_sem]) | refine wX ?_)
  refine A_lp (σ := { s : Nat × Int // s.1 ≤ l.length ∧ sumU c l = sumU s.2 (l.drop s.1) }) (fun s => ⟨24, ofL [(0, .d (.v (.int .u64 s.1.2))), (7, .d (.rows 1 8 (l.map u64L))), (8, .d (.v (.int .i64 l.length))), (9, .d (.v (.int .i64 (s.1.1 : Nat))))], []⟩) (fun s => l.length - s.1.1) ⟨(0, c), Nat.zero_le _, rfl⟩ ?_ ?_
  · ((try dsimp only); refine Sb.mk ?_ ?_ ?_ ?_ ?_ ?_; (focus rfl); (focus (repeat (first | exact eSub_nil _ | refine eSub_cons rfl ?_))); (focus exact ⟨_, rfl⟩); (focus (first | exact Nat.zero_le _ | exact Nat.le_refl _)); (focus (first | rfl | simp only [envBelow, List.all_cons, List.all_nil, namesAll, AV.names, names_ds, go_sem])); (focus (first | rfl | simp only [List.all_cons, List.all_nil, boxBelow, namesAll, AV.names, names_ds, go_sem])))
  · rintro ⟨⟨i, t⟩, hi, hpre⟩ R hR
    simp only at hi hpre ⊢
    repeat (first
        | refine A_seq ?_
        | refine A_block ?_
        | (refine A_region (A_run ?_); simp only [go_sem]; refine A_nil ?_; simp only [Thn, InB])
        | (refine A_condt ?_ ?_; focus (simp only [evo, lk, lk1, lk2, Nat.reduceDiv, Nat.reduceMod]; done))
        | (refine A_condf ?_ ?_; focus (simp only [evo, lk, lk1, lk2, Nat.reduceDiv, Nat.reduceMod]; done))
        | (refine A_skip ?_; simp only [Thn, InB])
        | (refine A_exit ?_; simp only [Thn, InB, reduceIte, Nat.reduceEqDiff])
        | refine A_ret ?_)
    refine A_cond rfl (fun h => ?_) (fun h => ?_)
    · have hlt : i < l.length := by simpa using h
      have hx : (l.map u64L)[i]? = some [.v (.int .u64 l[i])] := by rw [List.getElem?_map, List.getElem?_eq_getElem hlt]; rfl
      by_cases hc : t ≤ IntKind.u64.wrap (t + l[i])
      · have hw := wrap_succ (i := i) (by have := ab_u64 (hk (.d (.rows 1 8 (l.map u64L))) (by simp)); omega)
        repeat (first
            | refine A_seq ?_
            | refine A_block ?_
            | (refine A_region (A_run ?_); simp only [go_sem, hx]; refine A_nil ?_; simp only [Thn, InB])
            | (refine A_condt ?_ ?_; focus (simp only [evo, lk, lk1, lk2, Nat.reduceDiv, Nat.reduceMod]; done))
            | (refine A_condf ?_ ?_; focus (simp only [evo, lk, lk1, lk2, Nat.reduceDiv, Nat.reduceMod]; done))
            | (refine A_skip ?_; simp only [Thn, InB])
            | (refine A_exit ?_; simp only [Thn, InB, reduceIte, Nat.reduceEqDiff])
            | refine A_ret ?_)
        refine A_region (A_run ?_)
        simp only [go_sem, ge_iff_le, decide_eq_true hc]
        (refine A_call (pmust_ok 5) rfl rfl rfl rfl (by first | assumption | simp only [go_sem]) rfl (by first | rfl | simp only [noNames, namesAll, AV.names, names_ds, go_sem, List.append_nil, List.cons_append, List.nil_append, Bool.and_self]) ?_; rintro r rfl; refine ⟨(by first | rfl | simp only [noName, namesAll, AV.names, names_ds, go_sem, Bool.and_self]), A_run ?_⟩; simp only [go_sem])
        refine A_nil ?_
        simp only [Thn, InB]
        repeat (first
            | refine A_seq ?_
            | refine A_block ?_
            | (refine A_region (A_run ?_); simp only [go_sem, hw]; refine A_nil ?_; simp only [Thn, InB])
            | (refine A_condt ?_ ?_; focus (simp only [evo, lk, lk1, lk2, Nat.reduceDiv, Nat.reduceMod]; done))
            | (refine A_condf ?_ ?_; focus (simp only [evo, lk, lk1, lk2, Nat.reduceDiv, Nat.reduceMod]; done))
            | (refine A_skip ?_; simp only [Thn, InB])
            | (refine A_exit ?_; simp only [Thn, InB, reduceIte, Nat.reduceEqDiff])
            | refine A_ret ?_)
        refine hR _ ⟨⟨(i + 1, IntKind.u64.wrap (t + l[i])), by simp only; omega, ?_⟩, by simp only; omega, ?_⟩
        · rw [hpre, List.drop_eq_getElem_cons hlt, sumU, if_pos hc]
        ((try dsimp only); refine Sb.mk ?_ ?_ ?_ ?_ ?_ ?_; (focus rfl); (focus (repeat (first | exact eSub_nil _ | refine eSub_cons rfl ?_))); (focus exact ⟨_, rfl⟩); (focus (first | exact Nat.zero_le _ | exact Nat.le_refl _)); (focus (first | rfl | simp only [envBelow, List.all_cons, List.all_nil, namesAll, AV.names, names_ds, go_sem])); (focus (first | rfl | simp only [List.all_cons, List.all_nil, boxBelow, namesAll, AV.names, names_ds, go_sem])))
      · repeat (first
            | refine A_seq ?_
            | refine A_block ?_
            | (refine A_region (A_run ?_); simp only [go_sem, hx]; refine A_nil ?_; simp only [Thn, InB])
            | (refine A_condt ?_ ?_; focus (simp only [evo, lk, lk1, lk2, Nat.reduceDiv, Nat.reduceMod]; done))
            | (refine A_condf ?_ ?_; focus (simp only [evo, lk, lk1, lk2, Nat.reduceDiv, Nat.reduceMod]; done))
            | (refine A_skip ?_; simp only [Thn, InB])
            | (refine A_exit ?_; simp only [Thn, InB, reduceIte, Nat.reduceEqDiff])
            | refine A_ret ?_)
        refine A_region (A_run ?_)
        simp only [go_sem, ge_iff_le, decide_eq_false hc]
        refine A_call (pmust_no 5) rfl rfl rfl rfl (by first | assumption | simp only [go_sem]) rfl rfl ?_
        rintro r rfl
        refine ⟨rfl, ?_⟩
        try simp only [Thn, InB]
        refine wPan ⟨?_, rfl⟩
        rw [hpre, List.drop_eq_getElem_cons hlt, sumU, if_neg hc]
        rfl
    · have hge : i = l.length := by simp at h; omega
      subst hge
      repeat (first
          | refine A_seq ?_
          | refine A_block ?_
          | (refine A_region (A_run ?_); simp only [go_sem]; refine A_nil ?_; simp only [Thn, InB])
          | (refine A_condt ?_ ?_; focus (simp only [evo, lk, lk1, lk2, Nat.reduceDiv, Nat.reduceMod]; done))
          | (refine A_condf ?_ ?_; focus (simp only [evo, lk, lk1, lk2, Nat.reduceDiv, Nat.reduceMod]; done))
          | (refine A_skip ?_; simp only [Thn, InB])
          | (refine A_exit ?_; simp only [Thn, InB, reduceIte, Nat.reduceEqDiff])
          | refine A_ret ?_)
      exact ⟨_, rfl, _, _, fin_pure rfl (Le.refl _), by rw [hpre, List.drop_length]; rfl, rfl⟩
end Go.Proofs.YtfbegbpipmgfiaaDoor.Lift
end
section
/- pdata: leafs: bits, IsNaN. No conditions. -/
set_option linter.unusedVariables false
set_option linter.unusedSimpArgs false
set_option maxHeartbeats 4000000
set_option maxRecDepth 100000
namespace Go.Proofs.YtfbegbpipmgfiaaDoor.Lift
open Go Go.RowKit

theorem bits_c {W0 : World} (x y : Nat) : APure Tryd.prog W0 65 [.d (.v (.float .f64 x)), .d (.v (.float .f64 y))] (· = .ret (.d (.v (.bool ((x : Int) == (y : Int)))))) := by
  refine A_body Tryd.func65 rfl (Nat.le_of_ble_eq_true rfl) ?_
  simp only [go_sem, Tryd.ntmps65, Tryd.results65, mkEnv]
  repeat (first | refine wS ?_ | refine wB ?_ | (refine wR ?_; simp only [go_sem]) | (refine wT ?_ ?_; focus (simp only [go_sem]; done)) | (refine wF ?_ ?_; focus (simp only [go_sem]; done)) | (refine wK ?_; try simp only [go_sem]) | (refine wE ?_; try simp only [go_sem]) | refine wX ?_)
  exact wRq
end Go.Proofs.YtfbegbpipmgfiaaDoor.Lift
end
section
/- pdata: points, items, groups, data, as they lie in memory. No conditions: words. -/
set_option linter.unusedVariables false
set_option linter.unusedSimpArgs false
set_option maxHeartbeats 4000000
set_option maxRecDepth 100000
namespace Go.Proofs.YtfbegbpipmgfiaaDoor.Lift
open Go Go.RowKit

/-- A data point. -/
structure Pt where
  k : Nat
  n : Int
  f : Nat
  cnt : Nat
  sum : Nat
  hs : Bool
  bnd : List Nat
  cts : List Nat
  sc : Int
  zr : Nat
  off : Int
  noff : Int
  neg : List Nat
  qts : List (Nat × Nat)
/-- An item. -/
structure It where
  name : ByteArray
  unit : ByteArray
  kind : Int
  temp : Nat
  mono : Bool
  start : Nat
  time : Nat
  trace : ByteArray
  span : ByteArray
  parent : ByteArray
  code : Nat
  msg : ByteArray
  attrs : List (ByteArray × V)
  body : V
  pt : Pt
/-- A group. -/
structure Gr where
  res : List (ByteArray × V)
  scope : ByteArray
  ver : ByteArray
  attrs : List (ByteArray × V)
  items : List It
/-- All of data. -/
structure Da where
  sig : Nat
  gs : List Gr
def f64L (x : Nat) : List D := [.v (.float .f64 x)]
def c64L (x : Nat) : List D := [.v (.int .u64 x)]
def qD (q : Nat × Nat) : List D := [.v (.float .f64 q.1), .v (.float .f64 q.2)]
def V.vk : V → Nat | .mk k _ _ _ _ _ _ => k
def V.vs : V → ByteArray | .mk _ s _ _ _ _ _ => s
def V.vb : V → Bool | .mk _ _ b _ _ _ _ => b
def V.vn : V → Int | .mk _ _ _ n _ _ _ => n
def V.vf : V → Nat | .mk _ _ _ _ f _ _ => f
def V.vl : V → List V | .mk _ _ _ _ _ l _ => l
def V.vm : V → List (ByteArray × V) | .mk _ _ _ _ _ _ m => m
theorem vD_ex (x : V) : vD x = [.v (.int .u8 x.vk), .v (.string x.vs), .v (.bool x.vb), .v (.int .i64 x.vn), .v (.float .f64 x.vf), .rows 7 96 (x.vl.map vD), .rows 8 112 (x.vm.map pD)] := by
  cases x
  simp only [vD, vDs_map, pDs_map, V.vk, V.vs, V.vb, V.vn, V.vf, V.vl, V.vm]
def ptD (p : Pt) : List D := [.v (.int .u8 p.k), .v (.int .i64 p.n), .v (.float .f64 p.f), .v (.int .u64 p.cnt), .v (.float .f64 p.sum), .v (.bool p.hs), .rows 1 8 (p.bnd.map f64L), .rows 1 8 (p.cts.map c64L), .v (.int .i32 p.sc), .v (.int .u64 p.zr), .v (.int .i32 p.off), .v (.int .i32 p.noff), .rows 1 8 (p.neg.map c64L), .rows 2 16 (p.qts.map qD)]
def itD (x : It) : List D := [.v (.string x.name), .v (.string x.unit), .v (.int .i32 x.kind), .v (.int .u8 x.temp), .v (.bool x.mono), .v (.int .u64 x.start), .v (.int .u64 x.time), .v (.string x.trace), .v (.string x.span), .v (.string x.parent), .v (.int .u8 x.code), .v (.string x.msg), .rows 8 112 (x.attrs.map pD),
  .v (.int .u8 x.body.vk), .v (.string x.body.vs), .v (.bool x.body.vb), .v (.int .i64 x.body.vn), .v (.float .f64 x.body.vf), .rows 7 96 (x.body.vl.map vD), .rows 8 112 (x.body.vm.map pD),
  .v (.int .u8 x.pt.k), .v (.int .i64 x.pt.n), .v (.float .f64 x.pt.f), .v (.int .u64 x.pt.cnt), .v (.float .f64 x.pt.sum), .v (.bool x.pt.hs), .rows 1 8 (x.pt.bnd.map f64L), .rows 1 8 (x.pt.cts.map c64L), .v (.int .i32 x.pt.sc), .v (.int .u64 x.pt.zr), .v (.int .i32 x.pt.off), .v (.int .i32 x.pt.noff), .rows 1 8 (x.pt.neg.map c64L), .rows 2 16 (x.pt.qts.map qD)]
theorem qD_len (x : Nat × Nat) : (qD x).length = 2 := rfl
/-- A group's head. -/
def ghD (g : Gr) : List D := [.rows 8 112 (g.res.map pD), .v (.string g.scope), .v (.string g.ver), .rows 8 112 (g.attrs.map pD)]
def grD (g : Gr) : List D := [.rows 8 112 (g.res.map pD), .v (.string g.scope), .v (.string g.ver), .rows 8 112 (g.attrs.map pD), .rows 34 416 (g.items.map itD)]
theorem grD_len (x : Gr) : (grD x).length = 5 := rfl
def daD (d : Da) : List D := [.v (.int .u8 d.sig), .rows 5 104 (d.gs.map grD)]
def ta (p : Pt) : AV := .agg ((ptD p).map .d)
def ia (x : It) : AV := .agg ((itD x).map .d)
def ga (g : Gr) : AV := .agg ((grD g).map .d)
def xa (d : Da) : AV := .agg ((daD d).map .d)
def rI (l : List It) : AV := .d (.rows 34 416 (l.map itD))
def rG (l : List Gr) : AV := .d (.rows 5 104 (l.map grD))
def rf (l : List Nat) : AV := .d (.rows 1 8 (l.map f64L))
def rc (l : List Nat) : AV := .d (.rows 1 8 (l.map c64L))
def rq (l : List (Nat × Nat)) : AV := .d (.rows 2 16 (l.map qD))
attribute [go_sem] ta ia ga xa rI rG rf rc rq ptD itD grD daD
/-- What types and memory allow. -/
structure okT (p : Pt) : Prop where
  k : p.k < 256
  n : -9223372036854775808 ≤ p.n ∧ p.n ≤ 9223372036854775807
  f : p.f < 2 ^ 64
  cnt : p.cnt < 2 ^ 64
  sum : p.sum < 2 ^ 64
  bnd : p.bnd.length * 8 ≤ 140737488351232 ∧ ∀ x ∈ p.bnd, x < 2 ^ 64
  cts : p.cts.length * 8 ≤ 140737488351232 ∧ ∀ x ∈ p.cts, x < 2 ^ 64
  sc : -2147483648 ≤ p.sc ∧ p.sc ≤ 2147483647
  zr : p.zr < 2 ^ 64
  off : -2147483648 ≤ p.off ∧ p.off ≤ 2147483647
  noff : -2147483648 ≤ p.noff ∧ p.noff ≤ 2147483647
  neg : p.neg.length * 8 ≤ 140737488351232 ∧ ∀ x ∈ p.neg, x < 2 ^ 64
  qts : p.qts.length * 16 ≤ 140737488351232 ∧ ∀ x ∈ p.qts, x.1 < 2 ^ 64 ∧ x.2 < 2 ^ 64
structure okI (x : It) : Prop where
  name : x.name.size ≤ 140737488351232
  unit : x.unit.size ≤ 140737488351232
  kind : -2147483648 ≤ x.kind ∧ x.kind ≤ 2147483647
  temp : x.temp < 256
  start : x.start < 2 ^ 64
  time : x.time < 2 ^ 64
  trace : x.trace.size ≤ 140737488351232
  span : x.span.size ≤ 140737488351232
  parent : x.parent.size ≤ 140737488351232
  code : x.code < 256
  msg : x.msg.size ≤ 140737488351232
  attrs : okP x.attrs
  body : okV x.body
  pt : okT x.pt
structure okG (g : Gr) : Prop where
  res : okP g.res
  scope : g.scope.size ≤ 140737488351232
  ver : g.ver.size ≤ 140737488351232
  attrs : okP g.attrs
  items : g.items.length * 416 ≤ 140737488351232 ∧ ∀ x ∈ g.items, okI x
structure okD (d : Da) : Prop where
  sig : d.sig < 256
  gs : d.gs.length * 104 ≤ 140737488351232 ∧ ∀ g ∈ d.gs, okG g
end Go.Proofs.YtfbegbpipmgfiaaDoor.Lift
end
section
/- pdata: points held against each other. No conditions but lengths. -/
set_option linter.unusedVariables false
set_option linter.unusedSimpArgs false
set_option maxHeartbeats 4000000
set_option maxRecDepth 100000
namespace Go.Proofs.YtfbegbpipmgfiaaDoor.Lift
open Go Go.RowKit

def fE (x : Nat) : D := .v (.float .f64 x)
set_option maxHeartbeats 4000000 in
set_option maxRecDepth 100000 in
theorem eqfQ {W0 : World} (g : FuncId) (hg : callable Tryd.prog g = true) (l l' : List (Nat × Nat)) (p : Nat × Nat → Nat × Nat → Bool) (hl : l.length * 16 ≤ 140737488355328)
    (hp : ∀ x ∈ l, ∀ y ∈ l', APure Tryd.prog W0 g [.agg ((qD x).map .d), .agg ((qD y).map .d)] (· = .ret (.d (.v (.bool (p x y)))))) :
    APure Tryd.prog W0 63 [.d (.rows 2 16 (l.map qD)), .d (.rows 2 16 (l'.map qD)), .fn g []] (· = .ret (.d (.v (.bool (eqL p l l'))))) := by
  refine A_body Tryd.func63 rfl (by simp [Tryd.ntmps63]) ?_
  simp only [Tryd.ntmps63, Tryd.results63, mkEnv, List.length_nil]
  repeat (first
      | refine A_seq ?_
      | refine A_block ?_
      | (refine A_region (A_run ?_); simp only [go_sem]; refine A_nil ?_; simp only [Thn, InB])
      | (refine A_condt ?_ ?_; focus (simp only [evo, lk, lk1, lk2, Nat.reduceDiv, Nat.reduceMod]; done))
      | (refine A_condf ?_ ?_; focus (simp only [evo, lk, lk1, lk2, Nat.reduceDiv, Nat.reduceMod]; done))
      | (refine A_skip ?_; simp only [Thn, InB])
      | (refine A_exit ?_; simp only [Thn, InB, reduceIte, Nat.reduceEqDiff])
      | refine A_ret ?_)
  refine A_cond rfl (fun h => ?_) (fun h => ?_)
  · have hlen : l.length ≠ l'.length := fun e => by rw [bne_false e] at h; cases h
    repeat (first
        | refine A_seq ?_
        | refine A_block ?_
        | (refine A_region (A_run ?_); simp only [go_sem]; refine A_nil ?_; simp only [Thn, InB])
        | (refine A_condt ?_ ?_; focus (simp only [evo, lk, lk1, lk2, Nat.reduceDiv, Nat.reduceMod]; done))
        | (refine A_condf ?_ ?_; focus (simp only [evo, lk, lk1, lk2, Nat.reduceDiv, Nat.reduceMod]; done))
        | (refine A_skip ?_; simp only [Thn, InB])
        | (refine A_exit ?_; simp only [Thn, InB, reduceIte, Nat.reduceEqDiff])
        | refine A_ret ?_)
    exact ⟨_, rfl, [], _, fin_pure rfl (Le.refl _), by rw [eqL_len p l l' hlen], rfl⟩
  · have hlen : l.length = l'.length := Decidable.byContradiction fun e => by rw [bne_true e] at h; cases h
    repeat (first
        | refine A_seq ?_
        | refine A_block ?_
        | (refine A_region (A_run ?_); simp only [go_sem]; refine A_nil ?_; simp only [Thn, InB])
        | (refine A_condt ?_ ?_; focus (simp only [evo, lk, lk1, lk2, Nat.reduceDiv, Nat.reduceMod]; done))
        | (refine A_condf ?_ ?_; focus (simp only [evo, lk, lk1, lk2, Nat.reduceDiv, Nat.reduceMod]; done))
        | (refine A_skip ?_; simp only [Thn, InB])
        | (refine A_exit ?_; simp only [Thn, InB, reduceIte, Nat.reduceEqDiff])
        | refine A_ret ?_)
    refine A_lp (σ := { i : Nat // i ≤ l.length ∧ eqL p (l.take i) (l'.take i) = true }) (fun s => ⟨32, ofL [(15, .d (.rows 2 16 (l.map qD))), (16, .d (.v (.int .i64 l.length))), (17, .d (.v (.int .i64 (s.1 : Nat)))), (1, .d (.rows 2 16 (l'.map qD))), (2, .fn g [])], []⟩) (fun s => l.length - s.1) ⟨0, Nat.zero_le _, rfl⟩ ?_ ?_
    · ((try dsimp only); refine Sb.mk ?_ ?_ ?_ ?_ ?_ ?_; (focus rfl); (focus (repeat (first | exact eSub_nil _ | refine eSub_cons rfl ?_))); (focus exact ⟨_, rfl⟩); (focus (first | exact Nat.zero_le _ | exact Nat.le_refl _)); (focus (first | rfl | simp only [envBelow, List.all_cons, List.all_nil, namesAll, AV.names, names_ds, go_sem])); (focus (first | rfl | simp only [List.all_cons, List.all_nil, boxBelow, namesAll, AV.names, names_ds, go_sem])))
    · rintro ⟨i, hi, hpre⟩ R hR
      simp only
      repeat (first
          | refine A_seq ?_
          | refine A_block ?_
          | (refine A_region (A_run ?_); simp only [go_sem]; refine A_nil ?_; simp only [Thn, InB])
          | (refine A_condt ?_ ?_; focus (simp only [evo, lk, lk1, lk2, Nat.reduceDiv, Nat.reduceMod]; done))
          | (refine A_condf ?_ ?_; focus (simp only [evo, lk, lk1, lk2, Nat.reduceDiv, Nat.reduceMod]; done))
          | (refine A_skip ?_; simp only [Thn, InB])
          | (refine A_exit ?_; simp only [Thn, InB, reduceIte, Nat.reduceEqDiff])
          | refine A_ret ?_)
      refine A_cond rfl (fun h => ?_) (fun h => ?_)
      · have hlt : i < l.length := by simpa using h
        have hlt' : i < l'.length := by omega
        have hx : (l.map qD)[i]? = some (qD l[i]) := by rw [List.getElem?_map, List.getElem?_eq_getElem hlt]; rfl
        have hy : (l'.map qD)[i]? = some (qD l'[i]) := by rw [List.getElem?_map, List.getElem?_eq_getElem hlt']; rfl
        have tx := take_len (l := (qD l[i]).map AV.d) (n := 2) (by rw [List.length_map, qD_len])
        have ty := take_len (l := (qD l'[i]).map AV.d) (n := 2) (by rw [List.length_map, qD_len])
        have lx := qD_len l[i]
        have ly := qD_len l'[i]
        repeat (first
            | refine A_seq ?_
            | refine A_block ?_
            | (refine A_region (A_run ?_); simp only [go_sem, hx, hy, tx, ty, lx, ly]; refine A_nil ?_; simp only [Thn, InB])
            | (refine A_condt ?_ ?_; focus (simp only [evo, lk, lk1, lk2, Nat.reduceDiv, Nat.reduceMod]; done))
            | (refine A_condf ?_ ?_; focus (simp only [evo, lk, lk1, lk2, Nat.reduceDiv, Nat.reduceMod]; done))
            | (refine A_skip ?_; simp only [Thn, InB])
            | (refine A_exit ?_; simp only [Thn, InB, reduceIte, Nat.reduceEqDiff])
            | refine A_ret ?_)
        refine A_region (A_run ?_)
        simp only [go_sem, hx, hy, tx, ty, lx, ly]
        (refine A_call (hp l[i] (List.getElem_mem hlt) l'[i] (List.getElem_mem hlt')) rfl rfl rfl rfl (by first | assumption | simp only [go_sem]) rfl (by first | rfl | simp only [noNames, namesAll, AV.names, names_ds, go_sem, List.append_nil, List.cons_append, List.nil_append, Bool.and_self]) ?_; rintro r rfl; refine ⟨(by first | rfl | simp only [noName, namesAll, AV.names, names_ds, go_sem, Bool.and_self]), A_run ?_⟩; simp only [go_sem])
        refine A_nil ?_
        simp only [Thn, InB]
        obtain ⟨h1, h2⟩ := eqL_take p l l' i l[i] l'[i] (List.getElem?_eq_getElem hlt) (List.getElem?_eq_getElem hlt') hpre
        repeat (first
            | refine A_seq ?_
            | refine A_block ?_
            | (refine A_region (A_run ?_); simp only [go_sem]; refine A_nil ?_; simp only [Thn, InB])
            | (refine A_condt ?_ ?_; focus (simp only [evo, lk, lk1, lk2, Nat.reduceDiv, Nat.reduceMod]; done))
            | (refine A_condf ?_ ?_; focus (simp only [evo, lk, lk1, lk2, Nat.reduceDiv, Nat.reduceMod]; done))
            | (refine A_skip ?_; simp only [Thn, InB])
            | (refine A_exit ?_; simp only [Thn, InB, reduceIte, Nat.reduceEqDiff])
            | refine A_ret ?_)
        refine A_cond rfl (fun h => ?_) (fun h => ?_)
        · have hb : p l[i] l'[i] = false := by simpa using h
          repeat (first
              | refine A_seq ?_
              | refine A_block ?_
              | (refine A_region (A_run ?_); simp only [go_sem]; refine A_nil ?_; simp only [Thn, InB])
              | (refine A_condt ?_ ?_; focus (simp only [evo, lk, lk1, lk2, Nat.reduceDiv, Nat.reduceMod]; done))
              | (refine A_condf ?_ ?_; focus (simp only [evo, lk, lk1, lk2, Nat.reduceDiv, Nat.reduceMod]; done))
              | (refine A_skip ?_; simp only [Thn, InB])
              | (refine A_exit ?_; simp only [Thn, InB, reduceIte, Nat.reduceEqDiff])
              | refine A_ret ?_)
          exact ⟨_, rfl, [], _, fin_pure rfl (Le.refl _), by rw [h2 hb], rfl⟩
        · have hb : p l[i] l'[i] = true := by simpa using h
          have hw := wrap_succ (i := i) (by omega)
          repeat (first
              | refine A_seq ?_
              | refine A_block ?_
              | (refine A_region (A_run ?_); simp only [go_sem, hw]; refine A_nil ?_; simp only [Thn, InB])
              | (refine A_condt ?_ ?_; focus (simp only [evo, lk, lk1, lk2, Nat.reduceDiv, Nat.reduceMod]; done))
              | (refine A_condf ?_ ?_; focus (simp only [evo, lk, lk1, lk2, Nat.reduceDiv, Nat.reduceMod]; done))
              | (refine A_skip ?_; simp only [Thn, InB])
              | (refine A_exit ?_; simp only [Thn, InB, reduceIte, Nat.reduceEqDiff])
              | refine A_ret ?_)
          refine hR _ ⟨⟨i + 1, by omega, by rw [h1, hb]⟩, by simp only; omega, ?_⟩
          ((try dsimp only); refine Sb.mk ?_ ?_ ?_ ?_ ?_ ?_; (focus rfl); (focus (repeat (first | exact eSub_nil _ | refine eSub_cons rfl ?_))); (focus exact ⟨_, rfl⟩); (focus (first | exact Nat.zero_le _ | exact Nat.le_refl _)); (focus (first | rfl | simp only [envBelow, List.all_cons, List.all_nil, namesAll, AV.names, names_ds, go_sem])); (focus (first | rfl | simp only [List.all_cons, List.all_nil, boxBelow, namesAll, AV.names, names_ds, go_sem])))
      · have hge : i = l.length := by simp at h; omega
        subst hge
        have he : eqL p l l' = true := by
          have := hpre
          rwa [List.take_of_length_le (Nat.le_refl _), List.take_of_length_le (by omega)] at this
        repeat (first
            | refine A_seq ?_
            | refine A_block ?_
            | (refine A_region (A_run ?_); simp only [go_sem]; refine A_nil ?_; simp only [Thn, InB])
            | (refine A_condt ?_ ?_; focus (simp only [evo, lk, lk1, lk2, Nat.reduceDiv, Nat.reduceMod]; done))
            | (refine A_condf ?_ ?_; focus (simp only [evo, lk, lk1, lk2, Nat.reduceDiv, Nat.reduceMod]; done))
            | (refine A_skip ?_; simp only [Thn, InB])
            | (refine A_exit ?_; simp only [Thn, InB, reduceIte, Nat.reduceEqDiff])
            | refine A_ret ?_)
        exact ⟨_, rfl, [], _, fin_pure rfl (Le.refl _), by rw [he], rfl⟩

theorem eqfF {W0 : World} (g : FuncId) (hg : callable Tryd.prog g = true) (l l' : List Nat) (p : Nat → Nat → Bool) (hl : l.length * 8 ≤ 140737488355328)
    (hp : ∀ x ∈ l, ∀ y ∈ l', APure Tryd.prog W0 g [.d (fE x), .d (fE y)] (· = .ret (.d (.v (.bool (p x y)))))) :
    APure Tryd.prog W0 66 [.d (.rows 1 8 (l.map f64L)), .d (.rows 1 8 (l'.map f64L)), .fn g []] (· = .ret (.d (.v (.bool (eqL p l l'))))) := by
  refine A_body Tryd.func66 rfl (by simp [Tryd.ntmps66]) ?_
  simp only [Tryd.ntmps66, Tryd.results66, mkEnv, List.length_nil]
  repeat (first
      | refine A_seq ?_
      | refine A_block ?_
      | (refine A_region (A_run ?_); simp only [go_sem]; refine A_nil ?_; simp only [Thn, InB])
      | (refine A_condt ?_ ?_; focus (simp only [evo, lk, lk1, lk2, Nat.reduceDiv, Nat.reduceMod]; done))
      | (refine A_condf ?_ ?_; focus (simp only [evo, lk, lk1, lk2, Nat.reduceDiv, Nat.reduceMod]; done))
      | (refine A_skip ?_; simp only [Thn, InB])
      | (refine A_exit ?_; simp only [Thn, InB, reduceIte, Nat.reduceEqDiff])
      | refine A_ret ?_)
  refine A_cond rfl (fun h => ?_) (fun h => ?_)
  · have hlen : l.length ≠ l'.length := fun e => by rw [bne_false e] at h; cases h
    repeat (first
        | refine A_seq ?_
        | refine A_block ?_
        | (refine A_region (A_run ?_); simp only [go_sem]; refine A_nil ?_; simp only [Thn, InB])
        | (refine A_condt ?_ ?_; focus (simp only [evo, lk, lk1, lk2, Nat.reduceDiv, Nat.reduceMod]; done))
        | (refine A_condf ?_ ?_; focus (simp only [evo, lk, lk1, lk2, Nat.reduceDiv, Nat.reduceMod]; done))
        | (refine A_skip ?_; simp only [Thn, InB])
        | (refine A_exit ?_; simp only [Thn, InB, reduceIte, Nat.reduceEqDiff])
        | refine A_ret ?_)
    exact ⟨_, rfl, [], _, fin_pure rfl (Le.refl _), by rw [eqL_len p l l' hlen], rfl⟩
  · have hlen : l.length = l'.length := Decidable.byContradiction fun e => by rw [bne_true e] at h; cases h
    repeat (first
        | refine A_seq ?_
        | refine A_block ?_
        | (refine A_region (A_run ?_); simp only [go_sem]; refine A_nil ?_; simp only [Thn, InB])
        | (refine A_condt ?_ ?_; focus (simp only [evo, lk, lk1, lk2, Nat.reduceDiv, Nat.reduceMod]; done))
        | (refine A_condf ?_ ?_; focus (simp only [evo, lk, lk1, lk2, Nat.reduceDiv, Nat.reduceMod]; done))
        | (refine A_skip ?_; simp only [Thn, InB])
        | (refine A_exit ?_; simp only [Thn, InB, reduceIte, Nat.reduceEqDiff])
        | refine A_ret ?_)
    refine A_lp (σ := { i : Nat // i ≤ l.length ∧ eqL p (l.take i) (l'.take i) = true }) (fun s => ⟨32, ofL [(15, .d (.rows 1 8 (l.map f64L))), (16, .d (.v (.int .i64 l.length))), (17, .d (.v (.int .i64 (s.1 : Nat)))), (1, .d (.rows 1 8 (l'.map f64L))), (2, .fn g [])], []⟩) (fun s => l.length - s.1) ⟨0, Nat.zero_le _, rfl⟩ ?_ ?_
    · ((try dsimp only); refine Sb.mk ?_ ?_ ?_ ?_ ?_ ?_; (focus rfl); (focus (repeat (first | exact eSub_nil _ | refine eSub_cons rfl ?_))); (focus exact ⟨_, rfl⟩); (focus (first | exact Nat.zero_le _ | exact Nat.le_refl _)); (focus (first | rfl | simp only [envBelow, List.all_cons, List.all_nil, namesAll, AV.names, names_ds, go_sem])); (focus (first | rfl | simp only [List.all_cons, List.all_nil, boxBelow, namesAll, AV.names, names_ds, go_sem])))
    · rintro ⟨i, hi, hpre⟩ R hR
      simp only
      repeat (first
          | refine A_seq ?_
          | refine A_block ?_
          | (refine A_region (A_run ?_); simp only [go_sem]; refine A_nil ?_; simp only [Thn, InB])
          | (refine A_condt ?_ ?_; focus (simp only [evo, lk, lk1, lk2, Nat.reduceDiv, Nat.reduceMod]; done))
          | (refine A_condf ?_ ?_; focus (simp only [evo, lk, lk1, lk2, Nat.reduceDiv, Nat.reduceMod]; done))
          | (refine A_skip ?_; simp only [Thn, InB])
          | (refine A_exit ?_; simp only [Thn, InB, reduceIte, Nat.reduceEqDiff])
          | refine A_ret ?_)
      refine A_cond rfl (fun h => ?_) (fun h => ?_)
      · have hlt : i < l.length := by simpa using h
        have hlt' : i < l'.length := by omega
        have hx : (l.map f64L)[i]? = some [fE l[i]] := by rw [List.getElem?_map, List.getElem?_eq_getElem hlt]; rfl
        have hy : (l'.map f64L)[i]? = some [fE l'[i]] := by rw [List.getElem?_map, List.getElem?_eq_getElem hlt']; rfl
        repeat (first
            | refine A_seq ?_
            | refine A_block ?_
            | (refine A_region (A_run ?_); simp only [go_sem, hx, hy]; refine A_nil ?_; simp only [Thn, InB])
            | (refine A_condt ?_ ?_; focus (simp only [evo, lk, lk1, lk2, Nat.reduceDiv, Nat.reduceMod]; done))
            | (refine A_condf ?_ ?_; focus (simp only [evo, lk, lk1, lk2, Nat.reduceDiv, Nat.reduceMod]; done))
            | (refine A_skip ?_; simp only [Thn, InB])
            | (refine A_exit ?_; simp only [Thn, InB, reduceIte, Nat.reduceEqDiff])
            | refine A_ret ?_)
        refine A_region (A_run ?_)
        simp only [go_sem, hx, hy]
        (refine A_call (hp l[i] (List.getElem_mem hlt) l'[i] (List.getElem_mem hlt')) rfl rfl rfl rfl (by first | assumption | simp only [go_sem]) rfl (by first | rfl | simp only [noNames, namesAll, AV.names, names_ds, go_sem, List.append_nil, List.cons_append, List.nil_append, Bool.and_self]) ?_; rintro r rfl; refine ⟨(by first | rfl | simp only [noName, namesAll, AV.names, names_ds, go_sem, Bool.and_self]), A_run ?_⟩; simp only [go_sem])
        refine A_nil ?_
        simp only [Thn, InB]
        obtain ⟨h1, h2⟩ := eqL_take p l l' i l[i] l'[i] (List.getElem?_eq_getElem hlt) (List.getElem?_eq_getElem hlt') hpre
        repeat (first
            | refine A_seq ?_
            | refine A_block ?_
            | (refine A_region (A_run ?_); simp only [go_sem]; refine A_nil ?_; simp only [Thn, InB])
            | (refine A_condt ?_ ?_; focus (simp only [evo, lk, lk1, lk2, Nat.reduceDiv, Nat.reduceMod]; done))
            | (refine A_condf ?_ ?_; focus (simp only [evo, lk, lk1, lk2, Nat.reduceDiv, Nat.reduceMod]; done))
            | (refine A_skip ?_; simp only [Thn, InB])
            | (refine A_exit ?_; simp only [Thn, InB, reduceIte, Nat.reduceEqDiff])
            | refine A_ret ?_)
        refine A_cond rfl (fun h => ?_) (fun h => ?_)
        · have hb : p l[i] l'[i] = false := by simpa using h
          repeat (first
              | refine A_seq ?_
              | refine A_block ?_
              | (refine A_region (A_run ?_); simp only [go_sem]; refine A_nil ?_; simp only [Thn, InB])
              | (refine A_condt ?_ ?_; focus (simp only [evo, lk, lk1, lk2, Nat.reduceDiv, Nat.reduceMod]; done))
              | (refine A_condf ?_ ?_; focus (simp only [evo, lk, lk1, lk2, Nat.reduceDiv, Nat.reduceMod]; done))
              | (refine A_skip ?_; simp only [Thn, InB])
              | (refine A_exit ?_; simp only [Thn, InB, reduceIte, Nat.reduceEqDiff])
              | refine A_ret ?_)
          exact ⟨_, rfl, [], _, fin_pure rfl (Le.refl _), by rw [h2 hb], rfl⟩
        · have hb : p l[i] l'[i] = true := by simpa using h
          have hw := wrap_succ (i := i) (by omega)
          repeat (first
              | refine A_seq ?_
              | refine A_block ?_
              | (refine A_region (A_run ?_); simp only [go_sem, hw]; refine A_nil ?_; simp only [Thn, InB])
              | (refine A_condt ?_ ?_; focus (simp only [evo, lk, lk1, lk2, Nat.reduceDiv, Nat.reduceMod]; done))
              | (refine A_condf ?_ ?_; focus (simp only [evo, lk, lk1, lk2, Nat.reduceDiv, Nat.reduceMod]; done))
              | (refine A_skip ?_; simp only [Thn, InB])
              | (refine A_exit ?_; simp only [Thn, InB, reduceIte, Nat.reduceEqDiff])
              | refine A_ret ?_)
          refine hR _ ⟨⟨i + 1, by omega, by rw [h1, hb]⟩, by simp only; omega, ?_⟩
          ((try dsimp only); refine Sb.mk ?_ ?_ ?_ ?_ ?_ ?_; (focus rfl); (focus (repeat (first | exact eSub_nil _ | refine eSub_cons rfl ?_))); (focus exact ⟨_, rfl⟩); (focus (first | exact Nat.zero_le _ | exact Nat.le_refl _)); (focus (first | rfl | simp only [envBelow, List.all_cons, List.all_nil, namesAll, AV.names, names_ds, go_sem])); (focus (first | rfl | simp only [List.all_cons, List.all_nil, boxBelow, namesAll, AV.names, names_ds, go_sem])))
      · have hge : i = l.length := by simp at h; omega
        subst hge
        have he : eqL p l l' = true := by
          have := hpre
          rwa [List.take_of_length_le (Nat.le_refl _), List.take_of_length_le (by omega)] at this
        repeat (first
            | refine A_seq ?_
            | refine A_block ?_
            | (refine A_region (A_run ?_); simp only [go_sem]; refine A_nil ?_; simp only [Thn, InB])
            | (refine A_condt ?_ ?_; focus (simp only [evo, lk, lk1, lk2, Nat.reduceDiv, Nat.reduceMod]; done))
            | (refine A_condf ?_ ?_; focus (simp only [evo, lk, lk1, lk2, Nat.reduceDiv, Nat.reduceMod]; done))
            | (refine A_skip ?_; simp only [Thn, InB])
            | (refine A_exit ?_; simp only [Thn, InB, reduceIte, Nat.reduceEqDiff])
            | refine A_ret ?_)
        exact ⟨_, rfl, [], _, fin_pure rfl (Le.refl _), by rw [he], rfl⟩
theorem eqU {W0 : World} (l l' : List Nat) (hl : l.length * 8 ≤ 140737488355328) :
    APure Tryd.prog W0 67 [rc l, rc l'] (· = .ret (.d (.v (.bool (eqL (fun x y : Nat => ((x : Int) == (y : Int))) l l'))))) := by
  refine A_body Tryd.func67 rfl (Nat.le_of_ble_eq_true rfl) ?_
  simp only [go_sem, Tryd.ntmps67, Tryd.results67, mkEnv]
  repeat (first | refine wS ?_ | refine wB ?_ | (refine wR ?_; simp only [go_sem]) | (refine wT ?_ ?_; focus (simp only [go_sem]; done)) | (refine wF ?_ ?_; focus (simp only [go_sem]; done)) | (refine wK ?_; try simp only [go_sem]) | (refine wE ?_; try simp only [go_sem]) | refine wX ?_)
  refine wI (fun h => ?_) (fun h => ?_)
  · have hlen : l.length ≠ l'.length := fun e => by rw [bne_false e] at h; cases h
    repeat (first | refine wS ?_ | refine wB ?_ | (refine wR ?_; simp only [go_sem]) | (refine wT ?_ ?_; focus (simp only [go_sem]; done)) | (refine wF ?_ ?_; focus (simp only [go_sem]; done)) | (refine wK ?_; try simp only [go_sem]) | (refine wE ?_; try simp only [go_sem]) | refine wX ?_)
    exact wRq (he := by rw [eqL_len _ l l' hlen])
  · have hlen : l.length = l'.length := Decidable.byContradiction fun e => by rw [bne_true e] at h; cases h
    repeat (first | refine wS ?_ | refine wB ?_ | (refine wR ?_; simp only [go_sem]) | (refine wT ?_ ?_; focus (simp only [go_sem]; done)) | (refine wF ?_ ?_; focus (simp only [go_sem]; done)) | (refine wK ?_; try simp only [go_sem]) | (refine wE ?_; try simp only [go_sem]) | refine wX ?_)
    refine wL (fun i => ⟨26, ofL [(0, rc l), (1, rc l'), (11, rc l), (12, .d (.v (.int .i64 l.length))), (13, .d (.v (.int .i64 i)))], []⟩) (l.length) (fun i => eqL (fun x y : Nat => ((x : Int) == (y : Int))) (l.take i) (l'.take i) = true) wSb (rfl) ?_
    intro i hi hinv R hR
    simp only [go_sem]
    repeat (first | refine wS ?_ | refine wB ?_ | (refine wR ?_; simp only [go_sem]) | (refine wT ?_ ?_; focus (simp only [go_sem]; done)) | (refine wF ?_ ?_; focus (simp only [go_sem]; done)) | (refine wK ?_; try simp only [go_sem]) | (refine wE ?_; try simp only [go_sem]) | refine wX ?_)
    refine wI (fun h => ?_) (fun h => ?_)
    · have hlt : i < l.length := by simpa using h
      have hlt2 : ((i : Int) < ((l.length : Nat) : Int)) = True := eq_true (by omega)
      have hw := wrap_succ (i := i) (by omega)
      have hlt' : i < l'.length := by omega
      have hx : (l.map c64L)[i]? = some (c64L l[i]) := by rw [List.getElem?_map, List.getElem?_eq_getElem hlt]; rfl
      have hy : (l'.map c64L)[i]? = some (c64L l'[i]) := by rw [List.getElem?_map, List.getElem?_eq_getElem hlt']; rfl
      obtain ⟨h1, h2⟩ := eqL_take (fun x y : Nat => ((x : Int) == (y : Int))) l l' i l[i] l'[i] (List.getElem?_eq_getElem hlt) (List.getElem?_eq_getElem hlt') hinv
      repeat (first | refine wS ?_ | refine wB ?_ | (refine wR ?_; simp only [go_sem, hx, hy, c64L]) | (refine wT ?_ ?_; focus (simp only [go_sem]; done)) | (refine wF ?_ ?_; focus (simp only [go_sem]; done)) | (refine wK ?_; try simp only [go_sem, hx, hy, c64L]) | (refine wE ?_; try simp only [go_sem, hx, hy, c64L]) | refine wX ?_)
      refine wQ ?_ mixedO (by kernel_rfl)
      simp only [go_sem, hx, hy, c64L]
      repeat (first | refine wS ?_ | refine wB ?_ | (refine wR ?_; simp only [go_sem, hx, hy, c64L]) | (refine wT ?_ ?_; focus (simp only [go_sem]; done)) | (refine wF ?_ ?_; focus (simp only [go_sem]; done)) | (refine wK ?_; try simp only [go_sem, hx, hy, c64L]) | (refine wE ?_; try simp only [go_sem, hx, hy, c64L]) | refine wX ?_)
      refine wI (fun h => ?_) (fun h => ?_)
      · have hb : ((l[i] : Int) == (l'[i] : Int)) = false := by simpa using h
        repeat (first | refine wS ?_ | refine wB ?_ | (refine wR ?_; simp only [go_sem]) | (refine wT ?_ ?_; focus (simp only [go_sem]; done)) | (refine wF ?_ ?_; focus (simp only [go_sem]; done)) | (refine wK ?_; try simp only [go_sem]) | (refine wE ?_; try simp only [go_sem]) | refine wX ?_)
        exact wRq (he := by rw [h2 hb])
      · have hb : ((l[i] : Int) == (l'[i] : Int)) = true := by simpa using h
        repeat (first | refine wS ?_ | refine wB ?_ | (refine wR ?_; simp only [go_sem, hw]) | (refine wT ?_ ?_; focus (simp only [go_sem]; done)) | (refine wF ?_ ?_; focus (simp only [go_sem]; done)) | (refine wK ?_; try simp only [go_sem, hw]) | (refine wE ?_; try simp only [go_sem, hw]) | refine wX ?_)
        exact hR hlt (by rw [h1, hb]) _ wSb
    · obtain rfl : i = l.length := by simp at h; omega
      repeat (first | refine wS ?_ | refine wB ?_ | (refine wR ?_; simp only [go_sem]) | (refine wT ?_ ?_; focus (simp only [go_sem]; done)) | (refine wF ?_ ?_; focus (simp only [go_sem]; done)) | (refine wK ?_; try simp only [go_sem]) | (refine wE ?_; try simp only [go_sem]) | refine wX ?_)
      have he : eqL (fun x y : Nat => ((x : Int) == (y : Int))) l l' = true := by
        have := hinv
        rwa [List.take_of_length_le (Nat.le_refl _), List.take_of_length_le (by omega)] at this
      exact wRq (he := by rw [he])
/-- Floats that are one by their bits. -/
def bitsB (x y : Nat) : Bool := ((x : Int) == (y : Int))
def quantB (x y : Nat × Nat) : Bool := bitsB x.1 y.1 && bitsB x.2 y.2
theorem quant_c {W0 : World} (x y : Nat × Nat) : APure Tryd.prog W0 64 [.agg ((qD x).map .d), .agg ((qD y).map .d)] (· = .ret (.d (.v (.bool (quantB x y))))) := by
  refine A_body Tryd.func64 rfl (Nat.le_of_ble_eq_true rfl) ?_
  simp only [go_sem, Tryd.ntmps64, Tryd.results64, mkEnv, qD]
  repeat (first | refine wS ?_ | refine wB ?_ | (refine wR ?_; simp only [go_sem, qD]) | (refine wT ?_ ?_; focus (simp only [go_sem]; done)) | (refine wF ?_ ?_; focus (simp only [go_sem]; done)) | (refine wK ?_; try simp only [go_sem, qD]) | (refine wE ?_; try simp only [go_sem, qD]) | refine wX ?_)
  refine wC (bits_c x.1 y.1) ?_
  simp only [go_sem]
  repeat (first | refine wS ?_ | refine wB ?_ | (refine wR ?_; simp only [go_sem]) | (refine wT ?_ ?_; focus (simp only [go_sem]; done)) | (refine wF ?_ ?_; focus (simp only [go_sem]; done)) | (refine wK ?_; try simp only [go_sem]) | (refine wE ?_; try simp only [go_sem]) | refine wX ?_)
  refine wCG (fun hh => bits_c x.2 y.2) ?_
  simp only [go_sem]
  repeat (first | refine wS ?_ | refine wB ?_ | (refine wR ?_; simp only [go_sem]) | (refine wT ?_ ?_; focus (simp only [go_sem]; done)) | (refine wF ?_ ?_; focus (simp only [go_sem]; done)) | (refine wK ?_; try simp only [go_sem]) | (refine wE ?_; try simp only [go_sem]) | refine wX ?_)
  exact wRq
def headPt (a b : Pt) : Bool := ((a.k : Int) == (b.k : Int)) && (a.n == b.n) && ((a.cnt : Int) == (b.cnt : Int)) && (a.hs == b.hs) && (a.sc == b.sc) && ((a.zr : Int) == (b.zr : Int)) && (a.off == b.off) && (a.noff == b.noff)
def samePt (a b : Pt) : Bool := headPt a b && eqL quantB a.qts b.qts && bitsB a.f b.f && bitsB a.sum b.sum && eqL bitsB a.bnd b.bnd && eqL bitsB a.cts b.cts && eqL bitsB a.neg b.neg
theorem samePt_c {W0 : World} (a b : Pt) (ha : okT a) : APure Tryd.prog W0 43 [ta a, ta b] (· = .ret (.d (.v (.bool (samePt a b))))) := by
  have hq := eqfQ (W0 := W0) 64 (by simp only [go_sem]) a.qts b.qts quantB (by have := ha.qts.1; omega) (fun x _ y _ => quant_c x y)
  have hb := eqfF (W0 := W0) 65 (by simp only [go_sem]) a.bnd b.bnd bitsB (by have := ha.bnd.1; omega) (fun x _ y _ => bits_c x y)
  have hc := eqU (W0 := W0) a.cts b.cts (by have := ha.cts.1; omega)
  have hn := eqU (W0 := W0) a.neg b.neg (by have := ha.neg.1; omega)
  refine A_body Tryd.func43 rfl (Nat.le_of_ble_eq_true rfl) ?_
  simp only [go_sem, Tryd.ntmps43, Tryd.results43, mkEnv]
  repeat (first | refine wS ?_ | refine wB ?_ | (refine wR ?_; simp only [go_sem]) | (refine wT ?_ ?_; focus (simp only [go_sem]; done)) | (refine wF ?_ ?_; focus (simp only [go_sem]; done)) | (refine wK ?_; try simp only [go_sem]) | (refine wE ?_; try simp only [go_sem]) | refine wX ?_)
  refine wC (hq) ?_
  simp only [go_sem]
  repeat (first | refine wS ?_ | refine wB ?_ | (refine wR ?_; simp only [go_sem]) | (refine wT ?_ ?_; focus (simp only [go_sem]; done)) | (refine wF ?_ ?_; focus (simp only [go_sem]; done)) | (refine wK ?_; try simp only [go_sem]) | (refine wE ?_; try simp only [go_sem]) | refine wX ?_)
  refine wCG (fun hh => bits_c a.f b.f) ?_
  simp only [go_sem]
  repeat (first | refine wS ?_ | refine wB ?_ | (refine wR ?_; simp only [go_sem]) | (refine wT ?_ ?_; focus (simp only [go_sem]; done)) | (refine wF ?_ ?_; focus (simp only [go_sem]; done)) | (refine wK ?_; try simp only [go_sem]) | (refine wE ?_; try simp only [go_sem]) | refine wX ?_)
  refine wCG (fun hh => bits_c a.sum b.sum) ?_
  simp only [go_sem]
  repeat (first | refine wS ?_ | refine wB ?_ | (refine wR ?_; simp only [go_sem]) | (refine wT ?_ ?_; focus (simp only [go_sem]; done)) | (refine wF ?_ ?_; focus (simp only [go_sem]; done)) | (refine wK ?_; try simp only [go_sem]) | (refine wE ?_; try simp only [go_sem]) | refine wX ?_)
  refine wCG (fun hh => hb) ?_
  simp only [go_sem]
  repeat (first | refine wS ?_ | refine wB ?_ | (refine wR ?_; simp only [go_sem]) | (refine wT ?_ ?_; focus (simp only [go_sem]; done)) | (refine wF ?_ ?_; focus (simp only [go_sem]; done)) | (refine wK ?_; try simp only [go_sem]) | (refine wE ?_; try simp only [go_sem]) | refine wX ?_)
  refine wCG (fun hh => hc) ?_
  simp only [go_sem]
  repeat (first | refine wS ?_ | refine wB ?_ | (refine wR ?_; simp only [go_sem]) | (refine wT ?_ ?_; focus (simp only [go_sem]; done)) | (refine wF ?_ ?_; focus (simp only [go_sem]; done)) | (refine wK ?_; try simp only [go_sem]) | (refine wE ?_; try simp only [go_sem]) | refine wX ?_)
  refine wCG (fun hh => hn) ?_
  simp only [go_sem]
  repeat (first | refine wS ?_ | refine wB ?_ | (refine wR ?_; simp only [go_sem]) | (refine wT ?_ ?_; focus (simp only [go_sem]; done)) | (refine wF ?_ ?_; focus (simp only [go_sem]; done)) | (refine wK ?_; try simp only [go_sem]) | (refine wE ?_; try simp only [go_sem]) | refine wX ?_)
  exact wRq
end Go.Proofs.YtfbegbpipmgfiaaDoor.Lift
end
section
/- The lift: an operation whose guard holds, as one that has none. No conditions: words and their laws. -/
set_option linter.unusedVariables false
set_option linter.unusedSimpArgs false
set_option maxHeartbeats 4000000
set_option maxRecDepth 100000
namespace Go.Proofs.YtfbegbpipmgfiaaDoor.Lift
open Go Go.RowKit

/-- What is known where a guard that holds was asked for. -/
def unO : AV → AV
  | .opt true x => x
  | x => x
theorem RA.unO {M : Nat → Prop} {m : Nat → Pl} {w : World} {x : AV} {u : Value} (h : RA M m w x u) : RA M m w (Lift.unO x) u := by
  cases x with
  | opt g x =>
    cases g with
    | true =>
      have h1 : (true = true → RA M m w x u) ∧ (true = false → u = undef) := by simpa only [RA] using h
      exact h1.1 rfl
    | false => exact h
  | _ => exact h
theorem wanted_of {P : Program} {M : Nat → Prop} {m : Nat → Pl} {w : World} {a : Act} {e : Nat → Option AV} {ops : Array Oper} {o : Oper} {j t : Nat} {want G : Bool} (h4 : ∀ x, e t = some x → RA M m w x (a.tmps.getD t undef)) (h1 : (ops[j]?).bind (·.dst) = some t) (hg : o.guard = some (j, want)) (h2 : gdV want (e t) = some G) : Region.wanted o (yielded ops a.tmps) = G := by
  have key : ∀ b : Bool, a.tmps.getD t undef = .bool b → yielded ops a.tmps j = some b := by
    intro b h5
    have hlt : t < a.tmps.size := by
      rcases Nat.lt_or_ge t a.tmps.size with h6 | h6
      · exact h6
      · rw [Array.getD_eq_getD_getElem?, Array.getElem?_eq_none h6] at h5
        cases h5
    have h6 : a.tmps[t]? = some (.bool b) := by
      rw [Array.getElem?_eq_getElem hlt]
      rw [← h5]
      rw [Array.getD_eq_getD_getElem?, Array.getElem?_eq_getElem hlt]
      rfl
    simp only [yielded, h1, Option.bind_some, h6]
  have key2 : a.tmps.getD t undef = undef → yielded ops a.tmps j = none := by
    intro h5
    simp only [yielded, h1, Option.bind_some]
    cases h6 : a.tmps[t]? with
    | none => rfl
    | some u =>
      rw [Array.getD_eq_getD_getElem?, h6] at h5
      rw [show u = undef from h5]
      rfl
  simp only [Region.wanted, hg]
  cases he : e t with
  | none => rw [he] at h2; cases h2
  | some x =>
    rw [he] at h2
    have h5 := h4 x he
    unfold gdV at h2
    split at h2
    · rename_i b hx
      cases hx
      cases h2
      rw [key b h5.v_inv.1]
      cases b <;> cases want <;> rfl
    · rename_i g b hx
      cases hx
      cases h2
      simp only [RA] at h5
      cases g with
      | false =>
        rw [key2 (h5.2 rfl)]
        rfl
      | true =>
        have h7 := RA.v_inv (M := M) (m := m) (w := w) (x := .bool b) (by simp only [RA]; exact h5.1 rfl)
        rw [key b h7.1]
        cases b <;> cases want <;> rfl
    · cases h2
section
variable {P : Program} {W0 : World} {n : Nat} {Q : Ax → St → Prop} {st : St} {ops : Array Oper} {o : Oper} {rest : List Oper} {gs : List (Option (Option Nat × Bool))}
end
theorem unO_t (x : AV) : unO (.opt true x) = x := rfl
theorem unO_d (x : D) : unO (.d x) = .d x := rfl
theorem unO_dp (x : List D) : unO (.dp x) = .dp x := rfl
theorem unO_ptr (b j : Nat) : unO (.ptr b j) = .ptr b j := rfl
theorem unO_ep (b sz i j : Nat) : unO (.ep b sz i j) = .ep b sz i j := rfl
theorem unO_sl (b sz i j : Nat) : unO (.sl b sz i j) = .sl b sz i j := rfl
theorem unO_fn (f : FuncId) (l : List AV) : unO (.fn f l) = .fn f l := rfl
theorem unO_agg (l : List AV) : unO (.agg l) = .agg l := rfl
theorem unO_tup (l : List AV) : unO (.tup l) = .tup l := rfl
theorem unO_mref (b : Nat) : unO (.mref b) = .mref b := rfl
theorem unO_f (x : AV) : unO (.opt false x) = .opt false x := rfl
attribute [go_sem] unO_t unO_d unO_dp unO_ptr unO_ep unO_sl unO_fn unO_agg unO_tup unO_mref unO_f
end Go.Proofs.YtfbegbpipmgfiaaDoor.Lift
end
section
/- pdata: NaN, floats that rise, a point with just what its kind has. No conditions but lengths. -/
set_option linter.unusedVariables false
set_option linter.unusedSimpArgs false
set_option maxHeartbeats 4000000
set_option maxRecDepth 100000
namespace Go.Proofs.YtfbegbpipmgfiaaDoor.Lift
open Go Go.RowKit

def nanB (x : Nat) : Bool := FloatKind.f64.format.order x x != some .eq
def leF (x y : Nat) : Bool := FloatKind.f64.format.order x y == some .lt || FloatKind.f64.format.order x y == some .eq
theorem isnan_c {W0 : World} (x : Nat) : APure Tryd.prog W0 97 [.d (.v (.float .f64 x))] (· = .ret (.d (.v (.bool (nanB x))))) := by
  refine A_body Tryd.func97 rfl (Nat.le_of_ble_eq_true rfl) ?_
  simp only [go_sem, Tryd.ntmps97, Tryd.results97, mkEnv]
  repeat (first | refine wS ?_ | refine wB ?_ | (refine wR ?_; simp only [go_sem]) | (refine wT ?_ ?_; focus (simp only [go_sem]; done)) | (refine wF ?_ ?_; focus (simp only [go_sem]; done)) | (refine wK ?_; try simp only [go_sem]) | (refine wE ?_; try simp only [go_sem]) | refine wX ?_)
  exact wRq
/-- The place at which floats don't rise. -/
def badR (l : List Nat) (i : Nat) : Bool := match l[i]? with
  | none => false
  | some x => nanB x || (match i with | 0 => false | j + 1 => match l[j]? with | some y => leF x y | none => false)
def risesB (l : List Nat) : Bool := (List.range l.length).all fun i => !badR l i
theorem wrap_pred {j : Nat} (h : j < 9223372036854775807) : IntKind.i64.wrap (((j + 1 : Nat) : Int) - 1) = (j : Int) := by
  rw [wrap_in (by omega) (by omega)]
  omega
theorem rises_c {W0 : World} (l : List Nat) (hl : l.length * 8 ≤ 140737488355328) : APure Tryd.prog W0 88 [rf l] (· = .ret (.d (.v (.bool (risesB l))))) := by
  refine A_body Tryd.func88 rfl (Nat.le_of_ble_eq_true rfl) ?_
  simp only [go_sem, Tryd.ntmps88, Tryd.results88, mkEnv]
  repeat (first | refine wS ?_ | refine wB ?_ | (refine wR ?_; simp only [go_sem]) | (refine wT ?_ ?_; focus (simp only [go_sem]; done)) | (refine wF ?_ ?_; focus (simp only [go_sem]; done)) | (refine wK ?_; try simp only [go_sem]) | (refine wE ?_; try simp only [go_sem]) | refine wX ?_)
  refine wL (fun i => ⟨28, ofL [(0, rf l), (5, rf l), (6, .d (.v (.int .i64 l.length))), (7, .d (.v (.int .i64 i)))], []⟩) (l.length) (fun i => ∀ j, j < i → badR l j = false) wSb (fun j h => absurd h (Nat.not_lt_zero j)) ?_
  intro i hi hinv R hR
  simp only [go_sem]
  repeat (first | refine wS ?_ | refine wB ?_ | (refine wR ?_; simp only [go_sem]) | (refine wT ?_ ?_; focus (simp only [go_sem]; done)) | (refine wF ?_ ?_; focus (simp only [go_sem]; done)) | (refine wK ?_; try simp only [go_sem]) | (refine wE ?_; try simp only [go_sem]) | refine wX ?_)
  refine wI (fun h => ?_) (fun h => ?_)
  · have hlt : i < l.length := by simpa using h
    have hlt2 : ((i : Int) < ((l.length : Nat) : Int)) = True := eq_true (by omega)
    have hw := wrap_succ (i := i) (by omega)
    have hx : (l.map f64L)[i]? = some (f64L l[i]) := by rw [List.getElem?_map, List.getElem?_eq_getElem hlt]; rfl
    have hxi : l[i]? = some l[i] := List.getElem?_eq_getElem hlt
    have hbad : ∀ b, badR l i = b → b = true → risesB l = false := by
      intro b h1 h2
      rw [risesB, Bool.eq_false_iff, Ne, List.all_eq_true]
      intro h3
      have := h3 i (List.mem_range.2 hlt)
      rw [h1, h2] at this
      cases this
    have hok : badR l i = false → ∀ j, j < i + 1 → badR l j = false := fun h1 j hj => by
      rcases Nat.lt_or_ge j i with h2 | h2
      · exact hinv j h2
      · obtain rfl : j = i := by omega
        exact h1
    have hz : IntKind.i64.wrap (0 - 1) = -1 := rfl
    cases i with
    | zero =>
      repeat (first | refine wS ?_ | refine wB ?_ | (refine wR ?_; simp only [go_sem, hx, f64L]) | (refine wT ?_ ?_; focus (simp only [go_sem]; done)) | (refine wF ?_ ?_; focus (simp only [go_sem]; done)) | (refine wK ?_; try simp only [go_sem, hx, f64L]) | (refine wE ?_; try simp only [go_sem, hx, f64L]) | refine wX ?_)
      refine wC (isnan_c l[0]) ?_
      simp only [go_sem, hx, f64L, hz]
      repeat (first | refine wS ?_ | refine wB ?_ | (refine wR ?_; simp only [go_sem, hx, f64L, hz]) | (refine wT ?_ ?_; focus (simp only [go_sem]; done)) | (refine wF ?_ ?_; focus (simp only [go_sem]; done)) | (refine wK ?_; try simp only [go_sem, hx, f64L, hz]) | (refine wE ?_; try simp only [go_sem, hx, f64L, hz]) | refine wX ?_)
      refine wCGn (.dp [.v (.float .f64 0)]) ?_
      cases hb : nanB l[0] with
      | true =>
        have hbr : badR l 0 = true := by simp only [badR, hxi, hb, Bool.true_or]
        repeat (first | refine wS ?_ | refine wB ?_ | (refine wR ?_; simp only [go_sem, hb]) | (refine wT ?_ ?_; focus (simp only [go_sem]; done)) | (refine wF ?_ ?_; focus (simp only [go_sem]; done)) | (refine wK ?_; try simp only [go_sem, hb]) | (refine wE ?_; try simp only [go_sem, hb]) | refine wX ?_)
        simp only [go_sem, hb]
        repeat (first | refine wS ?_ | refine wB ?_ | (refine wR ?_; simp only [go_sem, hb]) | (refine wT ?_ ?_; focus (simp only [go_sem]; done)) | (refine wF ?_ ?_; focus (simp only [go_sem]; done)) | (refine wK ?_; try simp only [go_sem, hb]) | (refine wE ?_; try simp only [go_sem, hb]) | refine wX ?_)
        exact wRq (he := by rw [hbad true hbr rfl])
      | false =>
        have hbr : badR l 0 = false := by simp only [badR, hxi, hb, Bool.or_false]
        simp only [go_sem, hb]
        repeat (first | refine wS ?_ | refine wB ?_ | (refine wR ?_; simp only [go_sem, hw]) | (refine wT ?_ ?_; focus (simp only [go_sem]; done)) | (refine wF ?_ ?_; focus (simp only [go_sem]; done)) | (refine wK ?_; try simp only [go_sem, hw]) | (refine wE ?_; try simp only [go_sem, hw]) | refine wX ?_)
        exact hR hlt (hok hbr) _ wSb
    | succ j =>
      have hy : (l.map f64L)[j]? = some (f64L l[j]) := by rw [List.getElem?_map, List.getElem?_eq_getElem (by omega)]; rfl
      have hyj : l[j]? = some l[j] := List.getElem?_eq_getElem (by omega)
      have hp := wrap_pred (j := j) (by omega)
      have hgt : decide ((0 : Int) < ((j + 1 : Nat) : Int)) = true := decide_eq_true (by omega)
      obtain ⟨x, hxd⟩ : ∃ x, l[j + 1] = x := ⟨_, rfl⟩
      rw [hxd] at hx hxi
      obtain ⟨b, hb⟩ : ∃ b, (nanB x || leF x l[j]) = b := ⟨_, rfl⟩
      have hbr : badR l (j + 1) = b := by simp only [badR, hxi, hyj, hb]
      repeat (first | refine wS ?_ | refine wB ?_ | (refine wR ?_; simp only [go_sem, hx, f64L]) | (refine wT ?_ ?_; focus (simp only [go_sem]; done)) | (refine wF ?_ ?_; focus (simp only [go_sem]; done)) | (refine wK ?_; try simp only [go_sem, hx, f64L]) | (refine wE ?_; try simp only [go_sem, hx, f64L]) | refine wX ?_)
      refine wC (isnan_c x) ?_
      simp only [go_sem, hx, f64L, hy, hp, hgt]
      repeat (first | refine wS ?_ | refine wB ?_ | (refine wR ?_; simp only [go_sem, hx, f64L, hy, hp, hgt]) | (refine wT ?_ ?_; focus (simp only [go_sem]; done)) | (refine wF ?_ ?_; focus (simp only [go_sem]; done)) | (refine wK ?_; try simp only [go_sem, hx, f64L, hy, hp, hgt]) | (refine wE ?_; try simp only [go_sem, hx, f64L, hy, hp, hgt]) | refine wX ?_)
      have hb2 : (nanB x || (FloatKind.f64.format.order x l[j] == some .lt || FloatKind.f64.format.order x l[j] == some .eq)) = b := hb
      simp only [hb2]
      refine wI (fun h => ?_) (fun h => ?_)
      · repeat (first | refine wS ?_ | refine wB ?_ | (refine wR ?_; simp only [go_sem]) | (refine wT ?_ ?_; focus (simp only [go_sem]; done)) | (refine wF ?_ ?_; focus (simp only [go_sem]; done)) | (refine wK ?_; try simp only [go_sem]) | (refine wE ?_; try simp only [go_sem]) | refine wX ?_)
        exact wRq (he := by rw [hbad b hbr h])
      · repeat (first | refine wS ?_ | refine wB ?_ | (refine wR ?_; simp only [go_sem, hw]) | (refine wT ?_ ?_; focus (simp only [go_sem]; done)) | (refine wF ?_ ?_; focus (simp only [go_sem]; done)) | (refine wK ?_; try simp only [go_sem, hw]) | (refine wE ?_; try simp only [go_sem, hw]) | refine wX ?_)
        exact hR hlt (hok (by rw [hbr, h])) _ wSb
  · obtain rfl : i = l.length := by simp at h; omega
    repeat (first | refine wS ?_ | refine wB ?_ | (refine wR ?_; simp only [go_sem]) | (refine wT ?_ ?_; focus (simp only [go_sem]; done)) | (refine wF ?_ ?_; focus (simp only [go_sem]; done)) | (refine wK ?_; try simp only [go_sem]) | (refine wE ?_; try simp only [go_sem]) | refine wX ?_)
    have he : risesB l = true := by
      rw [risesB, List.all_eq_true]
      intro j hj
      rw [hinv j (List.mem_range.1 hj)]
      rfl
    exact wRq (he := by rw [he])
end Go.Proofs.YtfbegbpipmgfiaaDoor.Lift
end
section
/- The lift: drawn regions of which what is read is not what is turned: all orders come to the text's. No conditions: words and their laws. -/
set_option linter.unusedVariables false
set_option linter.unusedSimpArgs false
set_option maxHeartbeats 4000000
set_option maxRecDepth 100000
set_option linter.unnecessarySimpa false
namespace Go.Proofs.YtfbegbpipmgfiaaDoor.Lift
open Go Go.RowKit

def rdOp : Op → Bool
  | .load .. | .lookup .. => true
  | _ => false
/-- A call of a function that is handed data alone. -/
def CallQ (P : Program) (W0 : World) (e : Nat → Option AV) (o : Oper) (y : AV) : Prop := ∀ bs, Q1 P W0 bs e o y
def StepOk (P : Program) (W0 : World) (e : Nat → Option AV) (bs : List Box) (o : Oper) (p : AV × List Box) : Prop := opR P e bs o.op = some p ∨ (mkOp o.op = false ∧ rdOp o.op = false ∧ p.2 = bs ∧ CallQ P W0 e o p.1)
def MixR (P : Program) (W0 : World) : List Oper → List (List (Option AV)) → List Box → List (AV × List Box) → Prop
  | [], _, _, r => r = []
  | o :: l, env, bs, r => ∃ p r', r = p :: r' ∧ StepOk P W0 (lk env) bs o p ∧ MixR P W0 l (putL o.dst p.1 env) p.2 r'
def mixT (P : Program) (W0 : World) : List Oper → List (List (Option AV)) → List Box → (List (AV × List Box) → Prop) → Prop
  | [], _, _, K => K []
  | o :: l, env, bs, K => onSome (opR P (lk env) bs o.op) (fun p => mixT P W0 l (putL o.dst p.1 env) p.2 fun r => K (p :: r)) (∃ y, (mkOp o.op = false ∧ rdOp o.op = false ∧ CallQ P W0 (lk env) o y) ∧ mixT P W0 l (putL o.dst y env) bs fun r => K ((y, bs) :: r))
def mixC (P : Program) (W0 : World) (o : Oper) (l : List Oper) (env : List (List (Option AV))) (bs : List Box) (K : List (AV × List Box) → Prop) : Prop :=
  ∃ y, (mkOp o.op = false ∧ rdOp o.op = false ∧ CallQ P W0 (lk env) o y) ∧ mixT P W0 l (putL o.dst y env) bs fun r => K ((y, bs) :: r)
theorem mixT_nil {P : Program} {W0 : World} (env : List (List (Option AV))) (bs : List Box) (K : List (AV × List Box) → Prop) : mixT P W0 [] env bs K = K [] := by simp only [mixT]
theorem mixT_cons {P : Program} {W0 : World} (o : Oper) (l : List Oper) (env : List (List (Option AV))) (bs : List Box) (K : List (AV × List Box) → Prop) :
    mixT P W0 (o :: l) env bs K = onSome (opR P (lk env) bs o.op) (fun p => mixT P W0 l (putL o.dst p.1 env) p.2 fun r => K (p :: r)) (mixC P W0 o l env bs K) := by simp only [mixT, mixC]
def envL : List Oper → List (AV × List Box) → List (List (Option AV)) → List (List (Option AV))
  | o :: l, p :: r, env => envL l r (putL o.dst p.1 env)
  | _, _, env => env
def bsL : List (AV × List Box) → List Box → Nat → List Box
  | _, bs, 0 => bs
  | p :: r, _, i + 1 => bsL r p.2 i
  | [], bs, _ + 1 => bs
def lastB : List (AV × List Box) → List Box → List Box
  | [], bs => bs
  | p :: r, _ => lastB r p.2
theorem lastB_eq : ∀ (r : List (AV × List Box)) (bs : List Box), lastB r bs = bsL r bs r.length
  | [], _ => rfl
  | p :: r, _ => lastB_eq r p.2
def dstB : List Oper → Bool
  | [] => true
  | o :: l => (match o.dst with | none => true | some t => l.all fun o' => o'.dst != some t) && dstB l
def opndB (l : List Oper) : Bool := l.all fun o => o.op.operands.all fun x => match x with
  | .tmp t => l.zipIdx.all fun p => p.1.dst != some t || o.after.any fun e => Region.binds .any e && e.on == p.2
  | _ => true
def chainB : List Oper → Nat → Option Nat → Bool
  | [], _, _ => true
  | o :: l, i, pv => if mkOp o.op then (match pv with | none => true | some k => o.after.any fun e => Region.binds .any e && e.on == k) && chainB l (i + 1) (some i) else chainB l (i + 1) pv
def mixB (l : List Oper) : Bool := backF .any l 0 && dstB l && opndB l && chainB l 0 none && l.all fun o => o.guard.isNone
/-- What is read is the same whenever it is read. -/
def stab1 (P : Program) (env : List (List (Option AV))) (B : List Box) : List Oper → List (AV × List Box) → Prop
  | o :: l, p :: r => (if rdOp o.op = true then (opR P (lk env) B o.op) = some (p.1, B) else True) ∧ stab1 P env B l r
  | _, _ => True
def stabs (P : Program) (env : List (List (Option AV))) (l : List Oper) (r : List (AV × List Box)) : List (List Box) → Prop
  | [] => True
  | B :: Bs => stab1 P env B l r ∧ stabs P env l r Bs
def mkBs : List Oper → List (AV × List Box) → List (List Box)
  | o :: l, p :: r => if mkOp o.op = true then p.2 :: mkBs l r else mkBs l r
  | _, _ => []

section
variable {P : Program} {W0 : World} {n : Nat} {Q : Ax → St → Prop}
theorem opR_keep {e : Nat → Option AV} {bs bs' : List Box} {op : Op} {x : AV} (hm : mkOp op = false) (h : opR P e bs op = some (x, bs')) : bs' = bs := by
  have hs : ∀ {α : Type} {o : Option α} {f : α → AV}, o.map (fun y => (f y, bs)) = some (x, bs') → bs' = bs := by
    intro α o f h
    simp only [Option.map_eq_some_iff, Prod.mk.injEq] at h
    obtain ⟨_, _, _, h⟩ := h
    exact h.symm
  cases op <;> simp only [mkOp, Bool.true_eq_false] at hm <;> try (simp only [opR] at h; cases h; done)
  case move | assign | build | load | nilCheck | fieldAddr | field => exact hs (f := fun y => y) h
  case pick => simp only [opR] at h; split at h <;> first | exact hs (f := fun y => y) h | cases h
  case binOp => simp only [opR] at h; split at h <;> first | exact hs (f := fun y => .d (.v y)) h | cases h
  case unOp => simp only [opR] at h; split at h <;> first | exact hs (f := fun y => .d (.v y)) h | cases h
  case convert => simp only [opR] at h; split at h <;> first | exact hs (f := fun y => .d (.v y)) h | cases h
  case makeInterface => simp only [opR] at h; split at h <;> (try split at h) <;> first | (cases h; rfl) | cases h
  case makeFunc f first caps =>
    cases f <;> simp only [opR] at h <;> try (cases h; done)
    split at h
    · exact hs (f := fun l => .fn _ l) h
    · cases h
  case slice => simp only [opR] at h; split at h <;> first | exact hs (f := fun y => y) h | cases h
  case indexAddr => simp only [opR] at h; split at h <;> first | exact hs (f := fun y => y) h | cases h
  case index => simp only [opR] at h; split at h <;> first | exact hs (f := fun y => y) h | cases h
  case extract => simp only [opR] at h; split at h <;> first | exact hs (f := fun y => y) h | cases h
  case typeAssert => simp only [opR] at h; split at h <;> (try split at h) <;> first | (cases h; rfl) | cases h
  case lookup T y i ok =>
    cases ok <;> simp only [opR] at h <;> try (cases h; done)
    split at h <;> (try split at h) <;> (try split at h) <;> first | (cases h; rfl) | cases h
  case call c =>
    obtain ⟨callee, args, ts⟩ := c
    cases callee with
    | builtin b =>
      cases b <;> try (simp only [opR] at h; cases h; done)
      case len => simp only [opR] at h; split at h <;> first | exact hs (f := fun y => y) h | cases h
      case max => simp only [opR] at h; split at h <;> (try split at h) <;> first | exact hs (f := fun y => y) h | cases h
      case min => simp only [opR] at h; split at h <;> (try split at h) <;> first | exact hs (f := fun y => y) h | cases h
    | value f =>
      cases f <;> try (simp only [opR] at h; cases h; done)
      simp only [opR] at h
      split at h <;> first | exact hs (f := fun y => y) h | cases h
    | invoke => simp only [opR] at h; cases h
theorem opR_any {e : Nat → Option AV} {bs : List Box} {op : Op} {x : AV} (hm : mkOp op = false) (hr : rdOp op = false) (h : opR P e bs op = some (x, bs)) (bs' : List Box) : opR P e bs' op = some (x, bs') := by
  have hs : ∀ {α : Type} {o : Option α} {f : α → AV}, o.map (fun y => (f y, bs)) = some (x, bs) → o.map (fun y => (f y, bs')) = some (x, bs') := by
    intro α o f h
    simp only [Option.map_eq_some_iff, Prod.mk.injEq, and_true] at h ⊢
    exact h
  cases op <;> simp only [mkOp, rdOp, Bool.true_eq_false] at hm hr <;> try (simp only [opR] at h; cases h; done)
  case move | assign | build | nilCheck | fieldAddr | field => exact hs (f := fun y => y) h
  case pick => simp only [opR] at h ⊢; split at h <;> first | exact hs (f := fun y => y) h | cases h
  case binOp => simp only [opR] at h ⊢; split at h <;> first | exact hs (f := fun y => .d (.v y)) h | cases h
  case unOp => simp only [opR] at h ⊢; split at h <;> first | exact hs (f := fun y => .d (.v y)) h | cases h
  case convert => simp only [opR] at h ⊢; split at h <;> first | exact hs (f := fun y => .d (.v y)) h | cases h
  case makeInterface =>
    simp only [opR] at h ⊢
    split at h
    · split at h
      · rename_i hc
        rw [if_pos hc]
        cases h
        rfl
      · cases h
    · cases h
  case makeFunc f first caps =>
    cases f <;> simp only [opR] at h ⊢ <;> try (cases h; done)
    split at h
    · rename_i hc
      rw [if_pos hc]
      exact hs (f := fun l => .fn _ l) h
    · cases h
  case slice => simp only [opR] at h ⊢; split at h <;> first | exact hs (f := fun y => y) h | cases h
  case indexAddr => simp only [opR] at h ⊢; split at h <;> first | exact hs (f := fun y => y) h | cases h
  case index => simp only [opR] at h ⊢; split at h <;> first | exact hs (f := fun y => y) h | cases h
  case extract => simp only [opR] at h ⊢; split at h <;> first | exact hs (f := fun y => y) h | cases h
  case typeAssert =>
    simp only [opR] at h ⊢
    split at h
    · split at h
      · rename_i hc
        rw [if_pos hc]
        cases h
        rfl
      · cases h
    · cases h
  case call c =>
    obtain ⟨callee, args, ts⟩ := c
    cases callee with
    | builtin b =>
      cases b <;> try (simp only [opR] at h; cases h; done)
      case len => simp only [opR] at h ⊢; split at h <;> first | exact hs (f := fun y => y) h | cases h
      case max =>
        simp only [opR] at h ⊢
        split at h
        · split at h
          · exact hs (f := fun y => y) h
          · cases h
        · exact hs (f := fun y => y) h
        · cases h
      case min =>
        simp only [opR] at h ⊢
        split at h
        · split at h
          · exact hs (f := fun y => y) h
          · cases h
        · cases h
    | value f =>
      cases f <;> try (simp only [opR] at h; cases h; done)
      simp only [opR] at h ⊢
      split at h
      · exact hs (f := fun y => y) h
      · cases h
    | invoke => simp only [opR] at h; cases h

theorem mixT_R : ∀ {l : List Oper} {env : List (List (Option AV))} {bs : List Box} {K : List (AV × List Box) → Prop}, mixT P W0 l env bs K → ∃ r, MixR P W0 l env bs r ∧ K r
  | [], env, bs, K, h => ⟨[], rfl, by rwa [mixT_nil] at h⟩
  | o :: l, env, bs, K, h => by
    rw [mixT_cons] at h
    cases ho : opR P (lk env) bs o.op with
    | some p =>
      rw [ho, onSome_some] at h
      obtain ⟨r, h1, h2⟩ := mixT_R h
      exact ⟨p :: r, ⟨p, r, rfl, .inl ho, h1⟩, h2⟩
    | none =>
      rw [ho, onSome_none] at h
      obtain ⟨y, ⟨h3, h4, h5⟩, h6⟩ := h
      obtain ⟨r, h1, h2⟩ := mixT_R h6
      exact ⟨(y, bs) :: r, ⟨(y, bs), r, rfl, .inr ⟨h3, h4, rfl, h5⟩, h1⟩, h2⟩
theorem mixL_spec : ∀ {l : List Oper} {env : List (List (Option AV))} {bs : List Box} {r : List (AV × List Box)}, MixR P W0 l env bs r → r.length = l.length ∧
    ∀ i o, l[i]? = some o → ∃ p, r[i]? = some p ∧ StepOk P W0 (lk (envL (l.take i) (r.take i) env)) (bsL r bs i) o (p.1, bsL r bs (i + 1))
  | [], env, bs, r, h => by
    cases h
    exact ⟨rfl, fun i o h => by simp at h⟩
  | o :: l, env, bs, r, h => by
    obtain ⟨p, r', rfl, h1, h2⟩ := h
    obtain ⟨h4, h5⟩ := mixL_spec h2
    refine ⟨by simp [h4], fun i o' ho => ?_⟩
    cases i with
    | zero =>
      cases ho
      exact ⟨p, rfl, by simpa [envL, bsL] using h1⟩
    | succ i =>
      obtain ⟨q, h6, h7⟩ := h5 i o' (by simpa using ho)
      exact ⟨q, by simpa using h6, h7⟩
theorem StepOk.keep {e : Nat → Option AV} {bs : List Box} {o : Oper} {p : AV × List Box} (hm : mkOp o.op = false) (h : StepOk P W0 e bs o p) : p.2 = bs := by
  rcases h with h | ⟨_, _, h, _⟩
  · exact opR_keep hm h
  · exact h
theorem envL_no : ∀ {l : List Oper} {r : List (AV × List Box)} {env : List (List (Option AV))} {t : Nat}, (∀ o ∈ l, o.dst ≠ some t) → lk (envL l r env) t = lk env t
  | [], _, _, _, _ => by simp only [envL]
  | o :: l, [], _, _, _ => by simp only [envL]
  | o :: l, p :: r, env, t, h => by
    simp only [envL]
    rw [envL_no fun o' ho' => h o' (List.mem_cons_of_mem _ ho'), lk_putL]
    have h1 := h o (List.mem_cons_self ..)
    cases hd : o.dst with
    | none => rfl
    | some t' =>
      simp only [upd]
      rw [if_neg (fun e => h1 (by rw [hd, e]))]
theorem envL_at : ∀ {l : List Oper} {r : List (AV × List Box)} {env : List (List (Option AV))} {k t : Nat} {o : Oper} {p : AV × List Box}, dstB l = true → l[k]? = some o → o.dst = some t → r[k]? = some p → lk (envL l r env) t = some p.1
  | [], r, env, k, t, o, p, _, h, _, _ => by simp at h
  | o' :: l, [], env, k, t, o, p, _, _, _, h => by simp at h
  | o' :: l, q :: r, env, 0, t, o, p, hb, ho, hd, hp => by
    cases ho
    cases hp
    simp only [dstB, hd, Bool.and_eq_true] at hb
    simp only [envL]
    rw [envL_no fun o' ho' => by simpa using List.all_eq_true.1 hb.1 o' ho', lk_putL, hd]
    simp only [upd, if_true]
  | o' :: l, q :: r, env, k + 1, t, o, p, hb, ho, hd, hp => by
    simp only [dstB, Bool.and_eq_true] at hb
    simp only [envL]
    exact envL_at hb.2 (by simpa using ho) hd (by simpa using hp)
theorem dstB_take : ∀ {l : List Oper} (i : Nat), dstB l = true → dstB (l.take i) = true
  | [], i, _ => by simp [dstB]
  | o :: l, 0, _ => by simp [dstB]
  | o :: l, i + 1, h => by
    simp only [dstB, Bool.and_eq_true, List.take_succ_cons] at h ⊢
    refine ⟨?_, dstB_take i h.2⟩
    cases hd : o.dst with
    | none => rfl
    | some t =>
      have h1 := h.1
      rw [hd] at h1
      exact List.all_eq_true.2 fun o' ho' => List.all_eq_true.1 h1 o' (List.mem_of_mem_take ho')
theorem bsL_step {l : List Oper} {r : List (AV × List Box)} {env : List (List (Option AV))} {bs : List Box} (h : MixR P W0 l env bs r) {i : Nat} {o : Oper} (ho : l[i]? = some o) (hm : mkOp o.op = false) : bsL r bs (i + 1) = bsL r bs i := by
  obtain ⟨p, h1, h2⟩ := (mixL_spec h).2 i o ho
  exact h2.keep hm
theorem bsL_run {l : List Oper} {r : List (AV × List Box)} {env : List (List (Option AV))} {bs : List Box} (h : MixR P W0 l env bs r) : ∀ (d j : Nat), j + d ≤ l.length → (∀ k o, j ≤ k → k < j + d → l[k]? = some o → mkOp o.op = false) → bsL r bs (j + d) = bsL r bs j
  | 0, j, _, _ => rfl
  | d + 1, j, hl, hn => by
    have hlt : j + d < l.length := by omega
    rw [show j + (d + 1) = j + d + 1 by omega, bsL_step h (List.getElem?_eq_getElem hlt) (hn (j + d) _ (by omega) (by omega) (List.getElem?_eq_getElem hlt))]
    exact bsL_run h d j (by omega) fun k o h1 h2 h3 => hn k o h1 (by omega) h3
theorem bsL_mem {l : List Oper} : ∀ {r : List (AV × List Box)} {env : List (List (Option AV))} {bs : List Box} (_ : MixR P W0 l env bs r) (j : Nat), bsL r bs j ∈ bs :: mkBs l r := by
  induction l with
  | nil =>
    intro r env bs h j
    cases h
    cases j <;> simp [bsL]
  | cons o l ih =>
    intro r env bs h j
    obtain ⟨p, r', rfl, h1, h2⟩ := h
    cases j with
    | zero => simp [bsL]
    | succ j =>
      have := ih h2 j
      simp only [bsL, mkBs]
      by_cases hm : mkOp o.op = true
      · rw [if_pos hm]
        exact List.mem_cons_of_mem _ this
      · rw [if_neg hm]
        have hb := h1.keep (by simpa using hm)
        rw [hb] at this
        exact hb ▸ this
theorem stab1_at : ∀ {l : List Oper} {r : List (AV × List Box)} {env : List (List (Option AV))} {B : List Box}, stab1 P env B l r → ∀ {k : Nat} {o : Oper} {p : AV × List Box}, l[k]? = some o → r[k]? = some p → rdOp o.op = true → opR P (lk env) B o.op = some (p.1, B)
  | [], _, _, _, _, k, o, p, h, _, _ => by simp at h
  | o' :: l, [], _, _, _, k, o, p, _, h, _ => by simp at h
  | o' :: l, q :: r, env, B, hs, 0, o, p, ho, hp, hr => by
    cases ho
    cases hp
    have := hs.1
    rwa [if_pos hr] at this
  | o' :: l, q :: r, env, B, hs, k + 1, o, p, ho, hp, hr => stab1_at hs.2 (by simpa using ho) (by simpa using hp) hr
theorem stabs_at {l : List Oper} {r : List (AV × List Box)} {env : List (List (Option AV))} : ∀ {Bs : List (List Box)}, stabs P env l r Bs → ∀ B ∈ Bs, stab1 P env B l r
  | [], _, B, h => by cases h
  | B' :: Bs, hs, B, h => by
    rcases List.mem_cons.1 h with rfl | h
    · exact hs.1
    · exact stabs_at hs.2 B h
theorem opnd_dep {l : List Oper} (h : opndB l = true) {i k t : Nat} {o o' : Oper} (ho : l[i]? = some o) (hx : .tmp t ∈ o.op.operands) (ho' : l[k]? = some o') (hd : o'.dst = some t) : ∃ e ∈ o.after, Region.binds .any e = true ∧ e.on = k := by
  have h1 := Array.all_eq_true_iff_forall_mem.1 (List.all_eq_true.1 h o (List.mem_of_getElem? ho)) _ hx
  simp only at h1
  have h2 := List.all_eq_true.1 h1 (o', k) (List.mem_zipIdx_iff_getElem?.2 (by simpa using ho'))
  simp only [hd, bne_self_eq_false, Bool.false_or, ← Array.any_toList, List.any_eq_true, Array.mem_toList_iff] at h2
  obtain ⟨e, he, h3⟩ := h2
  simp only [Bool.and_eq_true, beq_iff_eq] at h3
  exact ⟨e, he, h3.1, h3.2⟩
theorem chain_prev : ∀ {l : List Oper} {i0 : Nat} {pv : Option Nat}, chainB l i0 pv = true → ∀ {i : Nat} {o : Oper}, l[i]? = some o → mkOp o.op = true →
    (∃ j o', j < i ∧ l[j]? = some o' ∧ mkOp o'.op = true ∧ (∀ k o'', j < k → k < i → l[k]? = some o'' → mkOp o''.op = false) ∧ ∃ e ∈ o.after, Region.binds .any e = true ∧ e.on = i0 + j) ∨
    ((∀ k o', k < i → l[k]? = some o' → mkOp o'.op = false) ∧ ∀ k, pv = some k → ∃ e ∈ o.after, Region.binds .any e = true ∧ e.on = k)
  | [], _, _, _, i, o, h, _ => by simp at h
  | o' :: l, i0, pv, h, 0, o, ho, hm => by
    cases ho
    refine .inr ⟨fun k _ hk => by omega, fun k hk => ?_⟩
    simp only [chainB, hm, if_true, hk, Bool.and_eq_true, ← Array.any_toList, List.any_eq_true, Array.mem_toList_iff] at h
    obtain ⟨⟨e, he, h1⟩, _⟩ := h
    simp only [beq_iff_eq] at h1
    exact ⟨e, he, h1.1, h1.2⟩
  | o' :: l, i0, pv, h, i + 1, o, ho, hm => by
    have ho' : l[i]? = some o := by simpa using ho
    by_cases h0 : mkOp o'.op = true
    · simp only [chainB, h0, if_true, Bool.and_eq_true] at h
      rcases chain_prev h.2 ho' hm with ⟨j, q, h1, h2, h3, h4, e, he, hb, hon⟩ | ⟨h1, h2⟩
      · exact .inl ⟨j + 1, q, by omega, by simpa using h2, h3, fun k o'' hk1 hk2 hk3 => by
          cases k with
          | zero => omega
          | succ k => exact h4 k o'' (by omega) (by omega) (by simpa using hk3), e, he, hb, by omega⟩
      · obtain ⟨e, he, hb, hon⟩ := h2 i0 rfl
        exact .inl ⟨0, o', by omega, rfl, h0, fun k o'' hk1 hk2 hk3 => by
          cases k with
          | zero => omega
          | succ k => exact h1 k o'' (by omega) (by simpa using hk3), e, he, hb, by omega⟩
    · simp only [chainB, if_neg h0] at h
      rcases chain_prev h ho' hm with ⟨j, q, h1, h2, h3, h4, e, he, hb, hon⟩ | ⟨h1, h2⟩
      · exact .inl ⟨j + 1, q, by omega, by simpa using h2, h3, fun k o'' hk1 hk2 hk3 => by
          cases k with
          | zero => omega
          | succ k => exact h4 k o'' (by omega) (by omega) (by simpa using hk3), e, he, hb, by omega⟩
      · exact .inr ⟨fun k o'' hk hk3 => by
          cases k with
          | zero => cases hk3; simpa using h0
          | succ k => exact h1 k o'' (by omega) (by simpa using hk3), h2⟩
/-- Those that turn something come one behind the other. -/
theorem chain_all {l : List Oper} (hc : chainB l 0 none = true) {listed : Array Bool} (hdc : DC .any l.toArray listed) : ∀ (i : Nat) (o : Oper), l[i]? = some o → mkOp o.op = true → (∀ e ∈ o.after, Region.binds .any e = true → listed.getD e.on false = true) → ∀ k o', k < i → l[k]? = some o' → mkOp o'.op = true → listed.getD k false = true := by
  intro i
  induction i using Nat.strongRecOn with
  | ind i ih =>
    intro o ho hm hall k o' hk ho' hm'
    rcases chain_prev hc ho hm with ⟨j, q, h1, h2, h3, h4, e, he, hb, hon⟩ | ⟨h1, _⟩
    · have hj : listed.getD j false = true := by
        have := hall e he hb
        rwa [hon, Nat.zero_add] at this
      rcases Nat.lt_trichotomy k j with hkj | rfl | hkj
      · exact ih j h1 q h2 h3 (fun e he hb => hdc j q (by simpa using h2) hj e he hb) k o' hkj ho' hm'
      · exact hj
      · have := h4 k o' hkj hk ho'
        rw [hm'] at this
        cases this
    · have := h1 k o' hk ho'
      rw [hm'] at this
      cases this
structure MixI (l : List Oper) (r : List (AV × List Box)) (env0 : List (List (Option AV))) (bs0 : List Box) (listed : Array Bool) (env : List (List (Option AV))) (bs : List Box) : Prop where
  no : ∀ t, (∀ k o, l[k]? = some o → o.dst = some t → listed.getD k false = false) → lk env t = lk env0 t
  yes : ∀ k o p t, l[k]? = some o → r[k]? = some p → o.dst = some t → listed.getD k false = true → lk env t = some p.1
  at_ : ∃ j, j ≤ l.length ∧ bs = bsL r bs0 j ∧ ∀ k o, l[k]? = some o → mkOp o.op = true → (listed.getD k false = true ↔ k < j)
theorem getD_set {L : Array Bool} {i k : Nat} (hi : i < L.size) : (L.setIfInBounds i true).getD k false = if k = i then true else L.getD k false := by
  simp only [Array.getD_eq_getD_getElem?, Array.getElem?_setIfInBounds]
  by_cases h : i = k
  · subst h
    simp [hi]
  · rw [if_neg h, if_neg (Ne.symm h)]
theorem getD_tf {L : Array Bool} {i : Nat} (hi : i < L.size) : L.getD i true = L.getD i false := by
  simp only [Array.getD_eq_getD_getElem?, Array.getElem?_eq_getElem hi, Option.getD_some]
theorem dst_inj : ∀ {l : List Oper} {k k' : Nat} {o o' : Oper} {t : Nat}, dstB l = true → l[k]? = some o → l[k']? = some o' → o.dst = some t → o'.dst = some t → k = k'
  | [], k, _, _, _, _, _, h, _, _, _ => by simp at h
  | q :: l, 0, 0, _, _, _, _, _, _, _, _ => rfl
  | q :: l, 0, k' + 1, o, o', t, hb, ho, ho', hd, hd' => by
    cases ho
    simp only [dstB, hd, Bool.and_eq_true] at hb
    have := List.all_eq_true.1 hb.1 o' (List.mem_of_getElem? (by simpa using ho'))
    simp [hd'] at this
  | q :: l, k + 1, 0, o, o', t, hb, ho, ho', hd, hd' => by
    cases ho'
    simp only [dstB, hd', Bool.and_eq_true] at hb
    have := List.all_eq_true.1 hb.1 o (List.mem_of_getElem? (by simpa using ho))
    simp [hd] at this
  | q :: l, k + 1, k' + 1, o, o', t, hb, ho, ho', hd, hd' => by
    simp only [dstB, Bool.and_eq_true] at hb
    exact congrArg (· + 1) (dst_inj (o := o) (o' := o') (t := t) hb.2 (by simpa using ho) (by simpa using ho') hd hd')
def mkq (l : List Oper) (i : Nat) : Bool := match l[i]? with | some o => !mkOp o.op | none => true
theorem all_listed {l : List Oper} (hb : backF .any l 0 = true) {listed : Array Bool} (hs : listed.size = l.length) (hr : Region.ready .any l.toArray listed = []) : ∀ i, i < l.length → listed.getD i false = true := by
  have back : ∀ (l : List Oper) (k i : Nat) (o : Oper), backF .any l k = true → l[i]? = some o → ∀ e ∈ o.after, Region.binds .any e = true → e.on < k + i := by
    intro l
    induction l with
    | nil => intro k i o _ h; simp at h
    | cons q l ih =>
      intro k i o hb ho e he hbd
      simp only [backF, Bool.and_eq_true] at hb
      cases i with
      | zero =>
        cases ho
        have := Array.all_eq_true_iff_forall_mem.1 hb.1 e he
        simp only [hbd, Bool.not_true, Bool.false_or, decide_eq_true_eq] at this
        omega
      | succ i =>
        have := ih (k + 1) i o hb.2 (by simpa using ho) e he hbd
        omega
  intro i
  induction i using Nat.strongRecOn with
  | ind i ih =>
    intro hi
    by_cases h : listed.getD i false = true
    · exact h
    exfalso
    have : i ∈ Region.ready .any l.toArray listed := mem_ready.2 ⟨by rw [getD_tf (by omega)]; simpa using h, l[i], by simp, fun e he hbd => by
      have h1 := back l 0 i l[i] hb (List.getElem?_eq_getElem hi) e he hbd
      exact ih e.on (by omega) (by omega)⟩
    rw [hr] at this
    cases this
theorem mix_any {N : Nat} {l : List Oper} {r : List (AV × List Box)} {env0 : List (List (Option AV))} {bs0 : List Box} (hm : MixR P W0 l env0 bs0 r) (hB : mixB l = true) (hN : l.all (okO N) = true) (hst : ∀ (j k : Nat) (o : Oper) (p : AV × List Box), l[k]? = some o → r[k]? = some p → rdOp o.op = true → (∀ (q : Nat) (t : Oper), q < j → l[q]? = some t → mkOp t.op = true → ∀ e ∈ t.after, Region.binds .any e = true → e.on ≠ k) → opR P (lk (envL l r env0)) (bsL r bs0 j) o.op = some (p.1, bsL r bs0 j)) (hQ : Q .normal ⟨N, envL l r env0, lastB r bs0⟩) :
    ∀ (fuel : Nat) (listed : Array Bool) (env : List (List (Option AV))) (bs : List Box), listed.size = l.length → DC .any l.toArray listed → listed.toList.count false = fuel → MixI l r env0 bs0 listed env bs →
      anyS P W0 n N Q .any l.toArray (mkq l) (fun bs e => ∃ env', lk env' = e ∧ Q .normal ⟨N, env', bs⟩) fuel listed bs (lk env) := by
  simp only [mixB, Bool.and_eq_true] at hB
  obtain ⟨⟨⟨⟨hb, hd⟩, hop⟩, hch⟩, hgd⟩ := hB
  obtain ⟨hlen, hsp⟩ := mixL_spec hm
  have fin : ∀ (listed : Array Bool) (env : List (List (Option AV))) (bs : List Box), listed.size = l.length → MixI l r env0 bs0 listed env bs → (∀ i, i < l.length → listed.getD i false = true) → ∃ env', lk env' = lk env ∧ Q .normal ⟨N, env', bs⟩ := by
    intro listed env bs hs hI hall
    refine ⟨envL l r env0, funext fun t => ?_, ?_⟩
    · by_cases ht : ∃ (k : Nat) (o : Oper), l[k]? = some o ∧ o.dst = some t
      · obtain ⟨k, o, ho, hdt⟩ := ht
        obtain ⟨p, hp, _⟩ := hsp k o ho
        rw [envL_at hd ho hdt hp, hI.yes k o p t ho hp hdt (hall k (List.getElem?_eq_some_iff.1 ho).1)]
      · rw [envL_no fun o ho hdt => ht (by obtain ⟨k, hk⟩ := List.getElem?_of_mem ho; exact ⟨k, o, hk, hdt⟩), hI.no t fun k o ho hdt => (ht ⟨k, o, ho, hdt⟩).elim]
    · obtain ⟨j, hj, hbs, hjt⟩ := hI.at_
      have : bsL r bs0 (j + (l.length - j)) = bsL r bs0 j := bsL_run hm _ j (by omega) fun k o h1 h2 ho => by
        by_cases hmk : mkOp o.op = true
        · have := (hjt k o ho hmk).1 (hall k (List.getElem?_eq_some_iff.1 ho).1)
          omega
        · simpa using hmk
      rw [hbs, ← this, show j + (l.length - j) = l.length by omega, ← hlen, ← lastB_eq]
      exact hQ
  intro fuel
  induction fuel with
  | zero =>
    intro listed env bs hs hdc hc hI
    have hall : ∀ i, i < l.length → listed.getD i false = true := by
      intro i hi
      have hlt : i < listed.size := by omega
      have h1 := List.count_eq_zero.1 hc
      simp only [Array.getD_eq_getD_getElem?, Array.getElem?_eq_getElem hlt, Option.getD_some]
      cases hv : listed[i] with
      | true => rfl
      | false => exact (h1 (by rw [← hv]; exact Array.mem_toList_iff.2 (Array.getElem_mem hlt))).elim
    refine ⟨?_, fin listed env bs hs hI hall⟩
    cases hr : Region.ready .any l.toArray listed with
    | nil => rfl
    | cons i is =>
      exfalso
      have hi : i ∈ Region.ready .any l.toArray listed := by rw [hr]; exact List.mem_cons_self ..
      obtain ⟨h0, o, ho, _⟩ := mem_ready.1 hi
      have hlt : i < l.length := (List.getElem?_eq_some_iff.1 (by simpa using ho : l[i]? = some o)).1
      rw [getD_tf (by omega), hall i hlt] at h0
      cases h0
  | succ fuel ih =>
    intro listed env bs hs hdc hc hI
    refine ⟨fun hr => fin listed env bs hs hI (all_listed hb hs hr), fun i hi => ?_⟩
    obtain ⟨h0, o, ho, hall⟩ := mem_ready.1 hi
    have ho' : l[i]? = some o := by simpa using ho
    have hlt : i < l.length := (List.getElem?_eq_some_iff.1 ho').1
    have h0' : listed.getD i false = false := by rw [← getD_tf (by omega)]; exact h0
    have hg : o.guard = none := by simpa using List.all_eq_true.1 hgd o (List.mem_of_getElem? ho')
    have hdN : dOk N o.dst = true := okO_d (List.all_eq_true.1 hN o (List.mem_of_getElem? ho'))
    obtain ⟨p, hp, hopr⟩ := hsp i o ho'
    have agree : ∀ x ∈ o.op.operands, ∀ t, x = .tmp t → lk (envL (l.take i) (r.take i) env0) t = lk env t ∧ lk (envL l r env0) t = lk env t := by
      rintro x hx t rfl
      by_cases ht : ∃ (k : Nat) (q : Oper), l[k]? = some q ∧ q.dst = some t
      · obtain ⟨k, q, hq, hdt⟩ := ht
        obtain ⟨e, he, hbd, hon⟩ := opnd_dep hop ho' hx hq hdt
        have hk := hall e he hbd
        rw [hon] at hk
        have hki : k < i := by
          have : ∀ (l : List Oper) (c i : Nat) (o : Oper), backF .any l c = true → l[i]? = some o → ∀ e ∈ o.after, Region.binds .any e = true → e.on < c + i := by
            intro l
            induction l with
            | nil => intro k i o _ h; simp at h
            | cons q l ih =>
              intro k i o hb ho e he hbd
              simp only [backF, Bool.and_eq_true] at hb
              cases i with
              | zero =>
                cases ho
                have := Array.all_eq_true_iff_forall_mem.1 hb.1 e he
                simp only [hbd, Bool.not_true, Bool.false_or, decide_eq_true_eq] at this
                omega
              | succ i =>
                have := ih (k + 1) i o hb.2 (by simpa using ho) e he hbd
                omega
          have := this l 0 i o hb ho' e he hbd
          omega
        obtain ⟨pk, hpk, _⟩ := hsp k q hq
        rw [hI.yes k q pk t hq hpk hdt hk]
        exact ⟨envL_at (dstB_take i hd) (by rw [List.getElem?_take, if_pos hki]; exact hq) hdt (by rw [List.getElem?_take, if_pos hki]; exact hpk), envL_at hd hq hdt hpk⟩
      · have hno : ∀ q ∈ l, q.dst ≠ some t := fun q hq hdt => ht (by obtain ⟨k, hk⟩ := List.getElem?_of_mem hq; exact ⟨k, q, hk, hdt⟩)
        rw [hI.no t fun k q hq hdt => (ht ⟨k, q, hq, hdt⟩).elim]
        exact ⟨envL_no fun q hq => hno q (List.mem_of_mem_take hq), envL_no hno⟩
    have e1 : StepOk P W0 (lk env) (bsL r bs0 i) o (p.1, bsL r bs0 (i + 1)) := by
      rcases hopr with h | ⟨h1, h2, h3, h4⟩
      · refine .inl ?_
        rw [← h]
        exact (opR_congr fun x hx t ht => (agree x hx t ht).1).symm
      · exact .inr ⟨h1, h2, h3, fun bs => Q1_congr (fun x hx t ht => (agree x hx t ht).1) (h4 bs)⟩
    have hcount : (listed.setIfInBounds i true).toList.count false = fuel := by
      have h1 : i < listed.toList.length := by simpa using (by omega : i < listed.size)
      rw [Array.toList_setIfInBounds, List.count_set h1]
      have h2 : listed.toList[i] = false := by
        simpa [Array.getD_eq_getD_getElem?, Array.getElem?_eq_getElem (by omega : i < listed.size)] using h0'
      rw [h2]
      simp only [beq_self_eq_true, if_true]
      have : (true == false) = false := rfl
      rw [this]
      simp only [Bool.false_eq_true, if_false]
      omega
    have hs' : (listed.setIfInBounds i true).size = l.length := by simpa using hs
    have hdc' := hdc.set hi
    have env' : ∀ bs', (∃ j, j ≤ l.length ∧ bs' = bsL r bs0 j ∧ ∀ k o, l[k]? = some o → mkOp o.op = true → ((listed.setIfInBounds i true).getD k false = true ↔ k < j)) → MixI l r env0 bs0 (listed.setIfInBounds i true) (putL o.dst p.1 env) bs' := by
      intro bs' hbs'
      refine ⟨fun t hno => ?_, fun k q pk t hq hpk hdt hk => ?_, hbs'⟩
      · rw [lk_putL]
        have h1 : o.dst ≠ some t := fun hdt => by
          have := hno i o ho' hdt
          rw [getD_set (by omega), if_pos rfl] at this
          cases this
        have h2 : lk env t = lk env0 t := hI.no t fun k q hq hdt => by
          have := hno k q hq hdt
          rw [getD_set (by omega)] at this
          split at this
          · cases this
          · exact this
        cases hdo : o.dst with
        | none => exact h2
        | some t' =>
          simp only [upd]
          rw [if_neg (fun e => h1 (by rw [hdo, e]))]
          exact h2
      · rw [lk_putL]
        rw [getD_set (by omega)] at hk
        by_cases hki : k = i
        · subst hki
          rw [ho'] at hq
          cases hq
          rw [hp] at hpk
          cases hpk
          rw [hdt]
          simp only [upd, if_true]
        · rw [if_neg hki] at hk
          have h1 : o.dst ≠ some t := fun hdo => hki (dst_inj hd hq ho' hdt hdo)
          have h2 := hI.yes k q pk t hq hpk hdt hk
          cases hdo : o.dst with
          | none => exact h2
          | some t' =>
            simp only [upd]
            rw [if_neg (fun e => h1 (by rw [hdo, e]))]
            exact h2
    obtain ⟨j, hj, hbs, hjt⟩ := hI.at_
    refine ⟨o, ho, ?_⟩
    by_cases hmk : mkOp o.op = true
    · have hq : mkq l i = false := by simp [mkq, ho', hmk]
      rw [if_neg (by rw [hq]; simp)]
      have hprev := chain_all hch hdc i o ho' hmk hall
      have hij : j ≤ i := by
        rcases Nat.lt_or_ge i j with h | h
        · rw [(hjt i o ho' hmk).2 h] at h0'
          cases h0'
        · exact h
      have hbi : bsL r bs0 i = bs := by
        have : bsL r bs0 (j + (i - j)) = bsL r bs0 j := bsL_run hm _ j (by omega) fun k q h1 h2 hq => by
          by_cases hmq : mkOp q.op = true
          · have := (hjt k q hq hmq).1 (hprev k q (by omega) hq hmq)
            omega
          · simpa using hmq
        rw [hbs, ← this, show j + (i - j) = i by omega]
      refine gO_of hg (A_step hg (x := p.1) (bs' := bsL r bs0 (i + 1)) (by rw [← hbi]; exact e1.resolve_right fun h => by rw [hmk] at h; cases h.1) hdN (A_nil ?_))
      have key := ih (listed.setIfInBounds i true) (putL o.dst p.1 env) (bsL r bs0 (i + 1)) hs' hdc' hcount (env' _ ⟨i + 1, by omega, rfl, fun k q hq hmq => by
        rw [getD_set (by omega)]
        by_cases hki : k = i
        · subst hki
          simp
        · rw [if_neg hki, hjt k q hq hmq]
          constructor
          · intro h
            omega
          · intro h
            have := hprev k q (by omega) hq hmq
            exact (hjt k q hq hmq).1 this⟩)
      cases hdo : o.dst with
      | none => rw [hdo] at key; exact ⟨rfl, key⟩
      | some t => rw [hdo] at key; exact ⟨rfl, key⟩
    · have hmk' : mkOp o.op = false := by simpa using hmk
      have hq : mkq l i = true := by simp [mkq, ho', hmk']
      rw [if_pos hq]
      have hbi1 := bsL_step hm ho' hmk'
      have e2 : Q1 P W0 bs (lk env) o p.1 := by
        rcases e1 with e1 | ⟨_, _, _, e1⟩
        · have e2 : opR P (lk env) bs o.op = some (p.1, bs) := by
            by_cases hrd : rdOp o.op = true
            · have h1 := hst j i o p ho' hp hrd fun q t hq ht hmt e he hbd hon => by
                have h2 := hdc q t (by simpa using ht) ((hjt q t ht hmt).2 hq) e he hbd
                rw [hon, h0'] at h2
                cases h2
              rw [← hbs] at h1
              rw [← h1]
              exact (opR_congr fun x hx t ht => (agree x hx t ht).2).symm
            · rw [hbi1] at e1
              exact opR_any hmk' (by simpa using hrd) e1 bs
          exact .op p.1 (by unfold opV; rw [if_neg hmk, e2]; rfl)
        · exact e1 bs
      refine ⟨p.1, ?_, ?_⟩
      · unfold Yl
        rw [hg]
        exact e2
      · rw [← lk_putL]
        exact ih (listed.setIfInBounds i true) (putL o.dst p.1 env) bs hs' hdc' hcount (env' _ ⟨j, hj, hbs, fun k q hq hmq => by
          rw [getD_set (by omega)]
          by_cases hki : k = i
          · rw [hki] at hq
            cases Option.some.inj (ho'.symm.trans hq)
            exact (hmk hmq).elim
          · rw [if_neg hki]
            exact hjt k q hq hmq⟩)
/-- A drawn region in the text's order. -/
theorem wM {st : St} {id : Nat} {l : List Oper} (h : mixT P W0 l st.env st.bs fun r => stabs P (envL l r st.env) l r (st.bs :: mkBs l r) ∧ Q .normal ⟨st.N, envL l r st.env, lastB r st.bs⟩) (hm : P.follows .mixedOrders = true) (hB : mixB l = true)
    (hd : l.all (okO st.N) = true := by rfl) : ACode P W0 n (.region id l.toArray true) Q st := by
  intro E M m a w hn hC
  obtain ⟨r, hr, hst, hQ⟩ := mixT_R h
  have hd' : ∀ (i : Nat) (o : Oper), l.toArray[i]? = some o → dOk st.N o.dst = true := fun i o ho => okO_d (List.all_eq_true.1 hd o (List.mem_of_getElem? (by simpa using ho)))
  refine wpR_region_any LQ_in (okO_n hd) hm (wpAny_ofS (P := P) (W0 := W0) (n := n) (X := Q) (qt := mkq l) (Q := fun bs e => ∃ env', lk env' = e ∧ Q .normal ⟨st.N, env', bs⟩) hn hd' (fun _ _ _ _ h => h) (fun M m bs e a w hc ⟨env', he, hq⟩ => ⟨M, m, ⟨st.N, env', bs⟩, .normal, CE.to (by rw [he]; exact hc), hq, trivial⟩) _ _ M m st.bs (lk st.env) a _ (CE.of hC.drew) ?_)
  refine mix_any hr hB hd (fun j k o p ho hp hrd _ => stab1_at (stabs_at hst _ (bsL_mem hr j)) ho hp hrd) hQ _ _ _ _ (by simp) (fun j o _ hj => by simp [Array.getD_eq_getD_getElem?, Array.getElem?_replicate] at hj; split at hj <;> simp at hj) (by simp) ?_
  refine ⟨fun t _ => rfl, fun k o p t _ _ _ hk => ?_, 0, Nat.zero_le _, by cases r <;> rfl, fun k o _ _ => ?_⟩
  · simp [Array.getD_eq_getD_getElem?, Array.getElem?_replicate] at hk
    split at hk <;> simp at hk
  · simp [Array.getD_eq_getD_getElem?, Array.getElem?_replicate]
    split <;> simp
def turns (l : List Oper) : List Oper := l.filter fun o => mkOp o.op
def needB (l : List Oper) (ps : List (Nat × Nat)) : Bool := (List.range l.length).all fun k => match l[k]? with
  | some o => !rdOp o.op || (List.range ((turns l).length + 1)).all fun m => (((turns l).take m).any fun t => t.after.any fun e => Region.binds .any e && e.on == k) || ps.contains (m, k)
  | none => true
def stOne (P : Program) (env : List (List (Option AV))) : Option (List Box) → Option Oper → Option (AV × List Box) → Prop
  | some B, some o, some p => opR P (lk env) B o.op = some (p.1, B)
  | _, _, _ => True
def stabP (P : Program) (env : List (List (Option AV))) (l : List Oper) (r : List (AV × List Box)) (Bs : List (List Box)) : List (Nat × Nat) → Prop
  | [] => True
  | (m, k) :: ps => stOne P env Bs[m]? l[k]? r[k]? ∧ stabP P env l r Bs ps
theorem stabP_at {env : List (List (Option AV))} {l : List Oper} {r : List (AV × List Box)} {Bs : List (List Box)} : ∀ {ps : List (Nat × Nat)}, stabP P env l r Bs ps → ∀ m k, (m, k) ∈ ps → stOne P env Bs[m]? l[k]? r[k]?
  | [], _, m, k, h => by cases h
  | (m', k') :: ps, hs, m, k, h => by
    rcases List.mem_cons.1 h with e | h
    · cases e
      exact hs.1
    · exact stabP_at hs.2 m k h
theorem bsL_cnt {l : List Oper} : ∀ {r : List (AV × List Box)} {env : List (List (Option AV))} {bs : List Box} (_ : MixR P W0 l env bs r) (j : Nat), (bs :: mkBs l r)[(turns (l.take j)).length]? = some (bsL r bs j) := by
  induction l with
  | nil =>
    intro r env bs h j
    cases h
    cases j <;> simp [bsL, turns]
  | cons o l ih =>
    intro r env bs h j
    obtain ⟨p, r', rfl, h1, h2⟩ := h
    cases j with
    | zero => simp [bsL, turns]
    | succ j =>
      have := ih h2 j
      simp only [bsL, mkBs, List.take_succ_cons, turns, List.filter_cons]
      by_cases hm : mkOp o.op = true
      · rw [if_pos hm, if_pos hm, List.length_cons, List.getElem?_cons_succ]
        exact this
      · rw [if_neg hm, if_neg hm]
        have hb := h1.keep (by simpa using hm)
        rw [hb] at this ⊢
        exact this
theorem turns_take (l : List Oper) (j : Nat) : (turns l).take (turns (l.take j)).length = turns (l.take j) := by
  have h : turns (l.take j) <+: turns l := (List.take_prefix j l).filter _
  exact (List.prefix_iff_eq_take.1 h).symm
theorem wMp {st : St} {id : Nat} {l : List Oper} (ps : List (Nat × Nat)) (h : mixT P W0 l st.env st.bs fun r => stabP P (envL l r st.env) l r (st.bs :: mkBs l r) ps ∧ Q .normal ⟨st.N, envL l r st.env, lastB r st.bs⟩) (hm : P.follows .mixedOrders = true) (hB : (mixB l && needB l ps) = true)
    (hd : l.all (okO st.N) = true := by rfl) : ACode P W0 n (.region id l.toArray true) Q st := by
  rw [Bool.and_eq_true] at hB
  obtain ⟨hB, hN⟩ := hB
  intro E M m a w hn hC
  obtain ⟨r, hr, hst, hQ⟩ := mixT_R h
  have hd' : ∀ (i : Nat) (o : Oper), l.toArray[i]? = some o → dOk st.N o.dst = true := fun i o ho => okO_d (List.all_eq_true.1 hd o (List.mem_of_getElem? (by simpa using ho)))
  refine wpR_region_any LQ_in (okO_n hd) hm (wpAny_ofS (P := P) (W0 := W0) (n := n) (X := Q) (qt := mkq l) (Q := fun bs e => ∃ env', lk env' = e ∧ Q .normal ⟨st.N, env', bs⟩) hn hd' (fun _ _ _ _ h => h) (fun M m bs e a w hc ⟨env', he, hq⟩ => ⟨M, m, ⟨st.N, env', bs⟩, .normal, CE.to (by rw [he]; exact hc), hq, trivial⟩) _ _ M m st.bs (lk st.env) a _ (CE.of hC.drew) ?_)
  refine mix_any hr hB hd (fun j k o p ho hp hrd hno => by
    have h1 := List.all_eq_true.1 hN k (List.mem_range.2 (List.getElem?_eq_some_iff.1 ho).1)
    simp only [ho, hrd, Bool.not_true, Bool.false_or] at h1
    have hle : (turns (l.take j)).length ≤ (turns l).length := ((List.take_prefix j l).filter _).length_le
    have h2 := List.all_eq_true.1 h1 (turns (l.take j)).length (List.mem_range.2 (by omega))
    rw [turns_take, Bool.or_eq_true] at h2
    rcases h2 with h2 | h2
    · exfalso
      obtain ⟨t, ht, h3⟩ := List.any_eq_true.1 h2
      obtain ⟨ht1, ht2⟩ := List.mem_filter.1 ht
      obtain ⟨q, hq⟩ := List.getElem?_of_mem ht1
      rw [List.getElem?_take] at hq
      split at hq
      · rename_i hqj
        rw [← Array.any_toList, List.any_eq_true] at h3
        obtain ⟨e, he, h4⟩ := h3
        simp only [Bool.and_eq_true, beq_iff_eq] at h4
        exact hno q t hqj hq ht2 e (Array.mem_toList_iff.1 he) h4.1 h4.2
      · cases hq
    · have h3 := stabP_at hst _ k (List.contains_iff_mem.1 h2)
      rw [bsL_cnt hr j, ho, hp] at h3
      exact h3) hQ _ _ _ _ (by simp) (fun j o _ hj => by simp [Array.getD_eq_getD_getElem?, Array.getElem?_replicate] at hj; split at hj <;> simp at hj) (by simp) ?_
  refine ⟨fun t _ => rfl, fun k o p t _ _ _ hk => ?_, 0, Nat.zero_le _, by cases r <;> rfl, fun k o _ _ => ?_⟩
  · simp [Array.getD_eq_getD_getElem?, Array.getElem?_replicate] at hk
    split at hk <;> simp at hk
  · simp [Array.getD_eq_getD_getElem?, Array.getElem?_replicate]
    split <;> simp
/-- A call in such a region. -/
theorem wMC {o : Oper} {l : List Oper} {env : List (List (Option AV))} {bs : List Box} {K : List (AV × List Box) → Prop} {fo : Operand} {args : Array Operand} {ts : Array TypeId} {f : FuncId} {caps xs cargs : List AV} {y : AV} (hcall : APure P W0 f cargs (· = .ret y)) (h : mixT P W0 l (putL o.dst y env) bs fun r => K ((y, bs) :: r))
    (ho : o.op = .call ⟨.value fo, args, ts⟩ := by rfl) (hf : evo (lk env) fo = some (.fn f caps) := by rfl) (ha : evl (lk env) args.toList = some xs := by rfl) (hx : xs ++ caps = cargs := by rfl) (hc : callable P f = true := by first | assumption | simp only [go_sem])
    (hn : noNames cargs = true := by first | rfl | simp only [go_sem]) (hy : noName y = true := by first | rfl | simp only [go_sem]) : mixC P W0 o l env bs K := by
  subst hx
  exact ⟨y, ⟨by rw [ho]; rfl, by rw [ho]; rfl, fun bs => .call fo args ts f caps xs y ho hf ha hc hn hcall hy⟩, h⟩
end
attribute [go_sem] stOne stabP mixT_nil mixT_cons envL lastB rdOp stab1 stabs mkBs
end Go.Proofs.YtfbegbpipmgfiaaDoor.Lift
end
section
/- pdata: a point with just what its kind has. No conditions. -/
set_option linter.unusedVariables false
set_option linter.unusedSimpArgs false
set_option maxHeartbeats 4000000
set_option maxRecDepth 100000
namespace Go.Proofs.YtfbegbpipmgfiaaDoor.Lift
open Go Go.RowKit

def bareT (p : Pt) : Pt :=
  { k := p.k, n := if p.k = 1 then p.n else 0, f := if p.k = 2 then p.f else 0, cnt := if 3 ≤ p.k then p.cnt else 0,
    sum := if p.k = 5 then p.sum else if (p.k = 3 ∨ p.k = 4) ∧ p.hs = true then p.sum else 0, hs := if p.k = 3 ∨ p.k = 4 then p.hs else false,
    bnd := if p.k = 3 then p.bnd else [], cts := if p.k = 3 ∨ p.k = 4 then p.cts else [], sc := if p.k = 4 then p.sc else 0, zr := if p.k = 4 then p.zr else 0,
    off := if p.k = 4 then p.off else 0, noff := if p.k = 4 then p.noff else 0, neg := if p.k = 4 then p.neg else [], qts := if p.k = 5 then p.qts else [] }
theorem Le_rf : Le (.d .e) (rf []) := Le.nil (by decide)
theorem Le_rc : Le (.d .e) (rc []) := Le.nil (by decide)
theorem Le_rq : Le (.d .e) (rq []) := Le.nil (by decide)
theorem Le_ta {k : Nat} {n : Int} {f cnt sum : Nat} {hs : Bool} {bnd cts neg : List Nat} {sc : Int} {zr : Nat} {off noff : Int} {qts : List (Nat × Nat)} {x6 x7 x12 x13 : AV} (h6 : Le x6 (rf bnd)) (h7 : Le x7 (rc cts)) (h12 : Le x12 (rc neg)) (h13 : Le x13 (rq qts)) :
    Le (.agg [.d (.v (.int .u8 k)), .d (.v (.int .i64 n)), .d (.v (.float .f64 f)), .d (.v (.int .u64 cnt)), .d (.v (.float .f64 sum)), .d (.v (.bool hs)), x6, x7, .d (.v (.int .i32 sc)), .d (.v (.int .u64 zr)), .d (.v (.int .i32 off)), .d (.v (.int .i32 noff)), x12, x13]) (ta ⟨k, n, f, cnt, sum, hs, bnd, cts, sc, zr, off, noff, neg, qts⟩) :=
  Le.agg (.cons (Le.refl _) (.cons (Le.refl _) (.cons (Le.refl _) (.cons (Le.refl _) (.cons (Le.refl _) (.cons (Le.refl _) (.cons h6 (.cons h7 (.cons (Le.refl _) (.cons (Le.refl _) (.cons (Le.refl _) (.cons (Le.refl _) (.cons h12 (.cons h13 .nil))))))))))))))
theorem bareT_c {W0 : World} (p : Pt) : APure Tryd.prog W0 87 [ta p] (· = .ret (ta (bareT p))) := by
  obtain ⟨k, n, f, cnt, sum, hs, bnd, cts, sc, zr, off, noff, neg, qts⟩ := p
  by_cases h1 : k = 1
  · subst h1
    refine A_body Tryd.func87 rfl (Nat.le_of_ble_eq_true rfl) ?_
    simp only [go_sem, Tryd.ntmps87, Tryd.results87, mkEnv]
    repeat (first | refine wS ?_ | refine wB ?_ | (refine wR ?_; simp only [go_sem]) | (refine wT ?_ ?_; focus (simp only [go_sem]; done)) | (refine wF ?_ ?_; focus (simp only [go_sem]; done)) | (refine wK ?_; try simp only [go_sem]) | (refine wE ?_; try simp only [go_sem]) | refine wX ?_)
    exact wRet ⟨rfl, rfl⟩ (hle := Le_ta Le_rf Le_rc Le_rc Le_rq)
  by_cases h2 : k = 2
  · subst h2
    refine A_body Tryd.func87 rfl (Nat.le_of_ble_eq_true rfl) ?_
    simp only [go_sem, Tryd.ntmps87, Tryd.results87, mkEnv]
    repeat (first | refine wS ?_ | refine wB ?_ | (refine wR ?_; simp only [go_sem]) | (refine wT ?_ ?_; focus (simp only [go_sem]; done)) | (refine wF ?_ ?_; focus (simp only [go_sem]; done)) | (refine wK ?_; try simp only [go_sem]) | (refine wE ?_; try simp only [go_sem]) | refine wX ?_)
    exact wRet ⟨rfl, rfl⟩ (hle := Le_ta Le_rf Le_rc Le_rc Le_rq)
  by_cases h3 : k = 3
  · subst h3
    refine A_body Tryd.func87 rfl (Nat.le_of_ble_eq_true rfl) ?_
    simp only [go_sem, Tryd.ntmps87, Tryd.results87, mkEnv]
    repeat (first | refine wS ?_ | refine wB ?_ | (refine wR ?_; simp only [go_sem]) | (refine wT ?_ ?_; focus (simp only [go_sem]; done)) | (refine wF ?_ ?_; focus (simp only [go_sem]; done)) | (refine wK ?_; try simp only [go_sem]) | (refine wE ?_; try simp only [go_sem]) | refine wX ?_)
    refine wMp [(0, 1), (0, 3), (1, 3)] ?_ mixedO (by kernel_rfl)
    simp only [go_sem]
    repeat (first | refine wS ?_ | refine wB ?_ | (refine wR ?_; simp only [go_sem]) | (refine wT ?_ ?_; focus (simp only [go_sem]; done)) | (refine wF ?_ ?_; focus (simp only [go_sem]; done)) | (refine wK ?_; try simp only [go_sem]) | (refine wE ?_; try simp only [go_sem]) | refine wX ?_)
    cases hs with
    | true =>
      repeat (first | refine wS ?_ | refine wB ?_ | (refine wR ?_; simp only [go_sem]) | (refine wT ?_ ?_; focus (simp only [go_sem]; done)) | (refine wF ?_ ?_; focus (simp only [go_sem]; done)) | (refine wK ?_; try simp only [go_sem]) | (refine wE ?_; try simp only [go_sem]) | refine wX ?_)
      exact wRet ⟨rfl, rfl⟩ (hle := Le_ta (Le.refl _) (Le.refl _) Le_rc Le_rq)
    | false =>
      repeat (first | refine wS ?_ | refine wB ?_ | (refine wR ?_; simp only [go_sem]) | (refine wT ?_ ?_; focus (simp only [go_sem]; done)) | (refine wF ?_ ?_; focus (simp only [go_sem]; done)) | (refine wK ?_; try simp only [go_sem]) | (refine wE ?_; try simp only [go_sem]) | refine wX ?_)
      exact wRet ⟨rfl, rfl⟩ (hle := Le_ta (Le.refl _) (Le.refl _) Le_rc Le_rq)
  by_cases h4 : k = 4
  · subst h4
    refine A_body Tryd.func87 rfl (Nat.le_of_ble_eq_true rfl) ?_
    simp only [go_sem, Tryd.ntmps87, Tryd.results87, mkEnv]
    repeat (first | refine wS ?_ | refine wB ?_ | (refine wR ?_; simp only [go_sem]) | (refine wT ?_ ?_; focus (simp only [go_sem]; done)) | (refine wF ?_ ?_; focus (simp only [go_sem]; done)) | (refine wK ?_; try simp only [go_sem]) | (refine wE ?_; try simp only [go_sem]) | refine wX ?_)
    refine wMp [(0, 1), (0, 3), (1, 3), (0, 5), (1, 5), (2, 5), (0, 7), (1, 7), (2, 7), (3, 7), (0, 9), (1, 9), (2, 9), (3, 9), (4, 9), (0, 11), (1, 11), (2, 11), (3, 11), (4, 11), (5, 11)] ?_ mixedO (by kernel_rfl)
    simp only [go_sem]
    repeat (first | refine wS ?_ | refine wB ?_ | (refine wR ?_; simp only [go_sem]) | (refine wT ?_ ?_; focus (simp only [go_sem]; done)) | (refine wF ?_ ?_; focus (simp only [go_sem]; done)) | (refine wK ?_; try simp only [go_sem]) | (refine wE ?_; try simp only [go_sem]) | refine wX ?_)
    cases hs with
    | true =>
      repeat (first | refine wS ?_ | refine wB ?_ | (refine wR ?_; simp only [go_sem]) | (refine wT ?_ ?_; focus (simp only [go_sem]; done)) | (refine wF ?_ ?_; focus (simp only [go_sem]; done)) | (refine wK ?_; try simp only [go_sem]) | (refine wE ?_; try simp only [go_sem]) | refine wX ?_)
      exact wRet ⟨rfl, rfl⟩ (hle := Le_ta Le_rf (Le.refl _) (Le.refl _) Le_rq)
    | false =>
      repeat (first | refine wS ?_ | refine wB ?_ | (refine wR ?_; simp only [go_sem]) | (refine wT ?_ ?_; focus (simp only [go_sem]; done)) | (refine wF ?_ ?_; focus (simp only [go_sem]; done)) | (refine wK ?_; try simp only [go_sem]) | (refine wE ?_; try simp only [go_sem]) | refine wX ?_)
      exact wRet ⟨rfl, rfl⟩ (hle := Le_ta Le_rf (Le.refl _) (Le.refl _) Le_rq)
  by_cases h5 : k = 5
  · subst h5
    refine A_body Tryd.func87 rfl (Nat.le_of_ble_eq_true rfl) ?_
    simp only [go_sem, Tryd.ntmps87, Tryd.results87, mkEnv]
    repeat (first | refine wS ?_ | refine wB ?_ | (refine wR ?_; simp only [go_sem]) | (refine wT ?_ ?_; focus (simp only [go_sem]; done)) | (refine wF ?_ ?_; focus (simp only [go_sem]; done)) | (refine wK ?_; try simp only [go_sem]) | (refine wE ?_; try simp only [go_sem]) | refine wX ?_)
    refine wMp [(0, 1), (0, 3), (1, 3)] ?_ mixedO (by kernel_rfl)
    simp only [go_sem]
    repeat (first | refine wS ?_ | refine wB ?_ | (refine wR ?_; simp only [go_sem]) | (refine wT ?_ ?_; focus (simp only [go_sem]; done)) | (refine wF ?_ ?_; focus (simp only [go_sem]; done)) | (refine wK ?_; try simp only [go_sem]) | (refine wE ?_; try simp only [go_sem]) | refine wX ?_)
    exact wRet ⟨rfl, rfl⟩ (hle := Le_ta Le_rf Le_rc Le_rc (Le.refl _))
  have e1 : ((k : Int) == 1) = false := (kEq k 1).trans (decide_eq_false h1)
  have e2 : ((k : Int) == 2) = false := (kEq k 2).trans (decide_eq_false h2)
  have e3 : ((k : Int) == 3) = false := (kEq k 3).trans (decide_eq_false h3)
  have e4 : ((k : Int) == 4) = false := (kEq k 4).trans (decide_eq_false h4)
  have e5 : ((k : Int) == 5) = false := (kEq k 5).trans (decide_eq_false h5)
  have hb : bareT ⟨k, n, f, cnt, sum, hs, bnd, cts, sc, zr, off, noff, neg, qts⟩ = ⟨k, 0, 0, if 3 ≤ k then cnt else 0, 0, false, [], [], 0, 0, 0, 0, [], []⟩ := by
    simp only [bareT, h1, h2, h3, h4, h5, if_false, false_or, false_and]
  rw [hb]
  by_cases h6 : 3 ≤ k
  · have e6 : decide ((3 : Int) ≤ (k : Int)) = true := decide_eq_true (by omega)
    rw [if_pos h6]
    refine A_body Tryd.func87 rfl (Nat.le_of_ble_eq_true rfl) ?_
    simp only [go_sem, Tryd.ntmps87, Tryd.results87, mkEnv, e1, e2, e3, e4, e5, e6]
    repeat (first | refine wS ?_ | refine wB ?_ | (refine wR ?_; simp only [go_sem, e1, e2, e3, e4, e5, e6]) | (refine wT ?_ ?_; focus (simp only [go_sem]; done)) | (refine wF ?_ ?_; focus (simp only [go_sem]; done)) | (refine wK ?_; try simp only [go_sem, e1, e2, e3, e4, e5, e6]) | (refine wE ?_; try simp only [go_sem, e1, e2, e3, e4, e5, e6]) | refine wX ?_)
    exact wRet ⟨rfl, rfl⟩ (hle := Le_ta Le_rf Le_rc Le_rc Le_rq)
  · have e6 : decide ((3 : Int) ≤ (k : Int)) = false := decide_eq_false (by omega)
    rw [if_neg h6]
    refine A_body Tryd.func87 rfl (Nat.le_of_ble_eq_true rfl) ?_
    simp only [go_sem, Tryd.ntmps87, Tryd.results87, mkEnv, e1, e2, e3, e4, e5, e6]
    repeat (first | refine wS ?_ | refine wB ?_ | (refine wR ?_; simp only [go_sem, e1, e2, e3, e4, e5, e6]) | (refine wT ?_ ?_; focus (simp only [go_sem]; done)) | (refine wF ?_ ?_; focus (simp only [go_sem]; done)) | (refine wK ?_; try simp only [go_sem, e1, e2, e3, e4, e5, e6]) | (refine wE ?_; try simp only [go_sem, e1, e2, e3, e4, e5, e6]) | refine wX ?_)
    exact wRet ⟨rfl, rfl⟩ (hle := Le_ta Le_rf Le_rc Le_rc Le_rq)
end Go.Proofs.YtfbegbpipmgfiaaDoor.Lift
end
section
/- The lift: operations with guards in a region whose order is open. No conditions: words and their laws. -/
set_option linter.unusedVariables false
set_option linter.unusedSimpArgs false
set_option maxHeartbeats 4000000
set_option maxRecDepth 100000
namespace Go.Proofs.YtfbegbpipmgfiaaDoor.Lift
open Go Go.RowKit

def gdL (ops : Array Oper) (o : Oper) : Option (Option Nat × Bool) := o.guard.map fun g => ((ops[g.1]?).bind (·.dst), g.2)
section
variable {P : Program} {W0 : World} {n : Nat} {ops : Array Oper} {bs : List Box} {env : List (List (Option AV))} {N : Nat} {qt : Nat → Bool} {Q : Ax → St → Prop} {fuel : Nat} {listed : Array Bool}
theorem gdL_some {o : Oper} {t : Nat} {want : Bool} (h : gdL ops o = some (some t, want)) : ∃ j, o.guard = some (j, want) ∧ (ops[j]?).bind (·.dst) = some t := by
  simp only [gdL, Option.map_eq_some_iff, Prod.mk.injEq] at h
  obtain ⟨⟨j, w⟩, h1, h2, h3⟩ := h
  cases h3
  exact ⟨j, h1, h2⟩
/-- A guard that holds. -/
theorem sTg {i t : Nat} {want : Bool} {o : Oper} (h : run2 P W0 n ops (TQ Q N fun st' => TL P W0 n N ops qt Q fuel (listed.setIfInBounds i true) st'.bs st'.env) [{ o with guard := none }] [none] ⟨N, mapE unO env, bs⟩)
    (ho : ops[i]? = some o := by (simp only [List.getElem?_toArray, List.getElem?_cons_succ, List.getElem?_cons_zero] <;> rfl)) (hg : gdL ops o = some (some t, want) := by (simp only [gdL, List.getElem?_toArray, List.getElem?_cons_succ, List.getElem?_cons_zero, Option.map_some, Option.bind_some] <;> rfl))
    (hb : gdV want (lk env t) = some true := by first | rfl | (simp only [go_sem] <;> fail)) (hq : qt i = false := by rfl) : StT P W0 n N ops qt Q fuel listed bs env i := by
  refine ⟨o, ho, ?_⟩
  rw [if_neg (by rw [hq]; simp)]
  obtain ⟨j, h1, h2⟩ := gdL_some hg
  have hh := gO_of (P := P) (W0 := W0) (n := n) (X := Q) (N := N) (ops := ops) (o := { o with guard := none }) (bs := bs) (env := mapE unO env) (K := fun bs' e' => anyS P W0 n N Q .any ops qt (fun bs e => ∃ env', lk env' = e ∧ Q .normal ⟨N, env', bs⟩) fuel (listed.setIfInBounds i true) bs' e') rfl (run2_ops h (by simp only [gsl, List.map_cons, List.map_nil, Option.map_none]))
  intro E M m a w Q' hn hc hX
  have hc' : CE W0 E M m N bs (lk (mapE unO env)) a w := ⟨hc.1, fun t x hx => by
    simp only [lk_mapE, Option.map_eq_some_iff] at hx
    obtain ⟨y, hy, rfl⟩ := hx
    exact (hc.2 t y hy).unO⟩
  have h5 := hh E M m a w Q' hn hc' hX
  rw [if_pos (by simp [Region.wanted])] at h5
  rw [if_pos (wanted_of (P := P) (fun x hx => hc.2 t x hx) h2 h1 hb)]
  exact h5
/-- A guard that does not hold. -/
theorem sNg {i t : Nat} {want : Bool} {o : Oper} (y : AV) (h : TL P W0 n N ops qt Q fuel (listed.setIfInBounds i true) bs (putL o.dst (.opt false y) env))
    (ho : ops[i]? = some o := by (simp only [List.getElem?_toArray, List.getElem?_cons_succ, List.getElem?_cons_zero] <;> rfl)) (hg : gdL ops o = some (some t, want) := by (simp only [gdL, List.getElem?_toArray, List.getElem?_cons_succ, List.getElem?_cons_zero, Option.map_some, Option.bind_some] <;> rfl))
    (hb : gdV want (lk env t) = some false := by first | rfl | (simp only [go_sem] <;> fail)) (hd : dOk N o.dst = true := by rfl) : StT P W0 n N ops qt Q fuel listed bs env i := by
  refine ⟨o, ho, ?_⟩
  obtain ⟨j, h1, h2⟩ := gdL_some hg
  by_cases hq : qt i = true
  · rw [if_pos hq]
    refine ⟨.opt false y, ?_, ?_⟩
    · unfold Yl
      rw [h1]
      exact ⟨t, false, y, h2, hb, rfl, fun hh => by cases hh⟩
    · rw [← lk_putL]
      exact h
  · rw [if_neg hq]
    intro E M m a w Q' hn hc hX
    rw [if_neg (by rw [wanted_of (P := P) (fun x hx => hc.2 t x hx) h2 h1 hb]; simp)]
    exact ⟨M, m, bs, lk (putL o.dst (.opt false y) env), by rw [lk_putL]; exact hc.put hd (by simp [RA]), h⟩
/-- A guard that may hold, of an operation that turns nothing. -/
theorem sQg {i t : Nat} {want : Bool} {o : Oper} (h : onSome (stepG P bs env o.op (some (some t, want))) (fun x => TL P W0 n N ops qt Q fuel (listed.setIfInBounds i true) bs (putL o.dst x env)) False)
    (ho : ops[i]? = some o := by (simp only [List.getElem?_toArray, List.getElem?_cons_succ, List.getElem?_cons_zero] <;> rfl)) (hg : gdL ops o = some (some t, want) := by (simp only [gdL, List.getElem?_toArray, List.getElem?_cons_succ, List.getElem?_cons_zero, Option.map_some, Option.bind_some] <;> rfl))
    (hq : qt i = true := by rfl) : StT P W0 n N ops qt Q fuel listed bs env i := by
  refine ⟨o, ho, ?_⟩
  rw [if_pos hq]
  cases hs : stepG P bs env o.op (some (some t, want)) with
  | none => rw [hs] at h; exact h.elim
  | some x =>
    rw [hs] at h
    refine ⟨x, stepG_Yl hg hs, ?_⟩
    rw [← lk_putL]
    exact h
end
end Go.Proofs.YtfbegbpipmgfiaaDoor.Lift
end
