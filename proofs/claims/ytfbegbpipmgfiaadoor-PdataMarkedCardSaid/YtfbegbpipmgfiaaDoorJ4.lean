/- Joined from Lem, Len, Leo, Lep, Leq, Ler, Les, Let, Lkp, Lkq, Lkr, Leu, Lev, Lvk, Lvo, Lew, Lex, Lf5, Ley, Lrs, Lez. No conditions. -/
import Derived.Test.YtfbegbpipmgfiaaDoorJ3
import Derived.Test.YtfbegbpipmgfiaaDoorJ2
section
/- pdata: chosen: its walk. No conditions but that there are no more items than may be. -/
set_option linter.unusedVariables false
set_option linter.unusedSimpArgs false
set_option maxHeartbeats 4000000
set_option maxRecDepth 100000
namespace Go.Proofs.YtfbegbpipmgfiaaDoor.Lift
open Go Go.RowKit

theorem F_sub {P : Program} {W0 : World} {c : Code} {Q : Ax → St → Prop} {st : St} (st' : St) (hs : Sb W0 0 st st') (h : AF P W0 c Q st') : AF P W0 c Q st := fun E M m a w hn hd hc => let ⟨M', m', h1⟩ := hs E M m a w hn hc; h E M' m' a w hn hd h1
theorem moved_false : ∀ {sel : List Nat} {L L' : List Box} {c : Nat}, (∀ (i : Nat) (x y : Box), sel[i]? = some c → L[i]? = some x → L'[i]? = some y → (isVar x && isVar y) = true) → moved sel L L' c = false
  | [], _, _, _, _ => by simp only [moved]
  | b :: sel, [], _, _, _ => by simp only [moved]
  | b :: sel, x :: L, [], _, _ => by simp only [moved]
  | b :: sel, x :: L, y :: L', c, h => by
    have h1 := moved_false (sel := sel) (L := L) (L' := L') (c := c) fun i x y hi hx hy => h (i + 1) x y (by simpa using hi) (by simpa using hx) (by simpa using hy)
    simp only [moved, h1, Bool.or_false, Bool.and_eq_false_iff]
    by_cases e : b = c
    · right
      subst e
      rw [h 0 x y rfl rfl rfl]
      rfl
    · left
      simpa using e
theorem flI_len (gs : List Gr) : (flI gs).length = nIt gs := by
  have key : ∀ (gs : List Gr) (k : Nat), ((gs.zipIdx k).flatMap fun g => g.1.items.map fun x => (g.2, x)).length = nIt gs := by
    intro gs
    induction gs with
    | nil => intro k; rfl
    | cons g gs ih =>
      intro k
      rw [List.zipIdx_cons, List.flatMap_cons, List.length_append, List.length_map, ih, nIt_cons]
  exact key gs 0
theorem runC_le (p : Nat → Bool) (gs : List Gr) : ∀ n, (runC p gs n).out.length ≤ nIt gs
  | 0 => Nat.zero_le _
  | n + 1 => by
    have ih := runC_le p gs n
    have h2 := (runC_inv p gs (n + 1)).many
    by_cases h : n < nIt gs
    · omega
    · unfold runC
      rw [List.getElem?_eq_none (by rw [flI_len]; omega)]
      exact ih
theorem chS_moved {K sig : Nat} {is : AV} {s s' : CS} {n n' : Nat} {c : Nat} (h : c < 4) : moved (List.range (K + 5)) (chS K sig is s n) (chS K sig is s' n') c = false := moved_false fun i x y hi hx hy => by
  obtain ⟨hl, he⟩ := List.getElem?_eq_some_iff.1 hi
  simp only [List.getElem_range] at he
  subst he
  match i, h with
  | 0, _ => cases hx; cases hy; rfl
  | 1, _ => cases hx; cases hy; rfl
  | 2, _ => cases hx; cases hy; rfl
  | 3, _ => cases hx; cases hy; rfl
theorem kinds_slots {K : Nat} : ∀ {A B : List Box}, (∀ x ∈ A, isVar x = false) → (∀ x ∈ B, isVar x = false) → kindsOk A B = true
  | [], _, _, _ => by simp [kindsOk]
  | _ :: _, [], _, _ => by simp [kindsOk]
  | x :: A, y :: B, h, h' => by
    simp only [kindsOk, h' y (List.mem_cons_self ..), Bool.not_false, Bool.true_or, Bool.true_and]
    exact kinds_slots (K := K) (fun z hz => h z (List.mem_cons_of_mem _ hz)) fun z hz => h' z (List.mem_cons_of_mem _ hz)
theorem slots_nv {K : Nat} {gs : List Gr} : ∀ x ∈ slots K gs, isVar x = false := fun x hx => by
  obtain ⟨l, rfl⟩ := slots_vec hx
  rfl
theorem chS_kinds {K sig : Nat} {is : AV} {s s' : CS} {n n' : Nat} : kindsOk (chS K sig is s n) (chS K sig is s' n') = true := by
  simp only [chS, kindsOk, isVar, Bool.not_true, Bool.or_true, Bool.not_false, Bool.or_false, Bool.true_and]
  exact kinds_slots (K := K) slots_nv slots_nv
theorem chS_below {K sig : Nat} {f : FuncId} {ds : List D} {s : CS} {n : Nat} (h : s.out.length ≤ K) : (chS K sig (.fn f [.dp ds]) s n).all (boxBelow (K + 5)) = true := by
  simp only [chS, List.all_cons, boxBelow, namesAll, AV.names, Bool.and_true, Bool.true_and, Bool.and_eq_true, decide_eq_true_eq]
  exact ⟨by omega, grC_names fun i hi => decide_eq_true (by omega), slots_all _ fun _ => rfl⟩
theorem ny_app : ∀ l l' : List AV, noYds (l ++ l') = (noYds l && noYds l')
  | [], _ => by simp [noYds]
  | x :: l, l' => by simp [noYds, ny_app l l', Bool.and_assoc]
mutual
theorem noYd_kill (p : Nat → Bool) : ∀ x : AV, noYd x = true → noYd (killP p x) = true
  | .d _, _ | .dp _, _ | .junk, _ => rfl
  | .ptr .., _ | .ep .., _ | .sl .., _ | .mref .., _ => by simp only [killP]; split <;> rfl
  | .fn _ l, h | .agg l, h | .tup l, h => by simp only [killP, noYd] at h ⊢; exact noYds_kill p l h
  | .opt _ x, h => by simp only [killP, noYd] at h ⊢; exact noYd_kill p x h
  | .yd .., h => by simp [noYd] at h
theorem noYds_kill (p : Nat → Bool) : ∀ l : List AV, noYds l = true → noYds (killPL p l) = true
  | [], _ => rfl
  | x :: l, h => by
    simp only [noYds, killPL, Bool.and_eq_true] at h ⊢
    exact ⟨noYd_kill p x h.1, noYds_kill p l h.2⟩
end
mutual
theorem noYd_ren (σ : Nat → Nat) : ∀ x : AV, noYd (renA σ x) = noYd x
  | .d _ | .dp _ | .junk | .ptr .. | .ep .. | .sl .. | .mref .. => rfl
  | .fn _ l | .agg l | .tup l => by simp only [renA, noYd]; exact noYds_ren σ l
  | .opt _ x => by simp only [renA, noYd]; exact noYd_ren σ x
  | .yd .. => by simp only [renA, noYd]
theorem noYds_ren (σ : Nat → Nat) : ∀ l : List AV, noYds (renL σ l) = noYds l
  | [] => rfl
  | x :: l => by simp only [renL, noYds, noYd_ren σ x, noYds_ren σ l]
end
theorem ny_kill {p : Nat → Bool} {env : List (List (Option AV))} (h : ∀ t x, lk env t = some x → noYd x = true) : ∀ t x, lk (killPE p env) t = some x → noYd x = true := by
  intro t x hx
  simp only [killPE, lk_mapE, Option.map_eq_some_iff] at hx
  obtain ⟨y, hy, rfl⟩ := hx
  exact noYd_kill p y (h t y hy)
theorem boxNY_ren (σ : Nat → Nat) (x : Box) : boxNY (renB σ x) = boxNY x := by
  cases x <;> simp only [renB, boxNY, noYds_ren]
theorem setAll_all {q : Box → Prop} : ∀ (sel : List Nat) (L bs : List Box), (∀ x ∈ bs, q x) → (∀ x ∈ L, q x) → ∀ x ∈ setAll bs sel L, q x
  | [], _, bs, h, _, x, hx => h x (by simpa [setAll] using hx)
  | _ :: _, [], bs, h, _, x, hx => h x (by simpa [setAll] using hx)
  | b :: sel, y :: L, bs, h, h', x, hx => by
    simp only [setAll] at hx
    refine setAll_all sel L (bs.set b y) (fun z hz => ?_) (fun z hz => h' z (List.mem_cons_of_mem _ hz)) x hx
    rcases List.mem_or_eq_of_mem_set hz with hz | rfl
    · exact h z hz
    · exact h' _ (List.mem_cons_self ..)
theorem grC_ny : ∀ (b : Nat) (gs : List Gr), noYds (grC b gs) = true
  | _, [] => rfl
  | b, g :: gs => by simp only [grC, ny_app, ny_ds, noYds, noYd, grC_ny (b + 1) gs, Bool.and_self]
theorem chS_ny {K sig : Nat} {f : FuncId} {ds : List D} {s : CS} {n : Nat} (x : Box) (h : x ∈ chS K sig (.fn f [.dp ds]) s n) : boxNY x = true := by
  simp only [chS, List.mem_cons] at h
  rcases h with rfl | rfl | rfl | rfl | rfl | h
  · rfl
  · rfl
  · rfl
  · rfl
  · exact grC_ny 5 s.out
  · obtain ⟨l, rfl⟩ := slots_vec h
    rfl
theorem boxNY_killP (p : Nat → Bool) (x : Box) (h : boxNY x = true) : boxNY (killPB p x) = true := by
  cases x <;> simp only [killPB, boxNY] at h ⊢ <;> exact noYds_kill p _ h
theorem ch_aft {K sig : Nat} {f : FuncId} {ds : List D} {s : CS} {n len : Nat} (hK : s.out.length ≤ K) (x0 x2 y1 y3 y4 y5 y6 : Box) :
    setAll (x0 :: y1 :: x2 :: y3 :: y4 :: y5 :: y6 :: List.replicate K emB) (1 :: 3 :: 4 :: 5 :: 6 :: List.range' 7 K) ((chS K sig (.fn f [.dp ds]) s n).map (renB (sg (1 :: 3 :: 4 :: 5 :: 6 :: List.range' 7 K) len))) =
      x0 :: .var [.fn f [.dp ds]] :: x2 :: .var [.d (.v (.int .u8 sig)), .sl 6 5 0 s.out.length] :: .var [.d (.v (.int .i64 n))] :: .var [.d (.v (.int .i64 s.last))] :: .own 5 104 (grC 7 s.out) :: slots K s.out := by
  have hr : renL (sg (1 :: 3 :: 4 :: 5 :: 6 :: List.range' 7 K) len) (grC 5 s.out) = grC 7 s.out := grC_ren fun i hi => sg_lt (by
    rw [show 5 + i = i + 5 by omega]
    simp only [List.getElem?_cons_succ]
    rw [List.getElem?_eq_getElem (by simp; omega), List.getElem_range', Nat.one_mul])
  have hs : (slots K s.out).map (renB (sg (1 :: 3 :: 4 :: 5 :: 6 :: List.range' 7 K) len)) = slots K s.out := slots_map _ fun _ => rfl
  simp only [chS, List.map_cons, hs, renB, hr, renL, renA, sg_c0, sg_cS, setAll, List.set_cons_succ, List.set_cons_zero]
  have h := setAll_range (slots K s.out) [x0, .var [.fn f [.dp ds]], x2, .var [.d (.v (.int .u8 sig)), .sl 6 5 0 s.out.length], .var [.d (.v (.int .i64 n))], .var [.d (.v (.int .i64 s.last))], .own 5 104 (grC 7 s.out)] (List.replicate K emB) (by simp [slots_len hK])
  rw [slots_len hK, List.drop_eq_nil_of_le (by simp), List.append_nil] at h
  exact h
mutual
theorem names_le {k k' : Nat} (h : k ≤ k') : ∀ x : AV, x.names (fun b => decide (b < k)) = true → x.names (fun b => decide (b < k')) = true
  | .d _, _ | .dp _, _ | .junk, _ => rfl
  | .ptr .., h1 | .ep .., h1 | .sl .., h1 | .mref .., h1 => by simp only [AV.names, decide_eq_true_eq] at h1 ⊢; omega
  | .fn _ l, h1 | .yd _ _ l, h1 | .agg l, h1 | .tup l, h1 => by simp only [AV.names] at h1 ⊢; exact namesAll_le h l h1
  | .opt _ x, h1 => by simp only [AV.names] at h1 ⊢; exact names_le h x h1
theorem namesAll_le {k k' : Nat} (h : k ≤ k') : ∀ l : List AV, namesAll (fun b => decide (b < k)) l = true → namesAll (fun b => decide (b < k')) l = true
  | [], _ => rfl
  | x :: l, h1 => by
    simp only [namesAll, Bool.and_eq_true] at h1 ⊢
    exact ⟨names_le h x h1.1, namesAll_le h l h1.2⟩
end
theorem boxBelow_le {k k' : Nat} (h : k ≤ k') {x : Box} (hx : boxBelow k x = true) : boxBelow k' x = true := by
  cases x <;> simp only [boxBelow] at hx ⊢ <;> exact namesAll_le h _ hx
theorem rd_end {W0 : World} {K sig : Nat} {f : FuncId} {ds : List D} {s s' : CS} {n n' : Nat} {X Y bs1 : List Box} {st : St} (h1 : s.out.length ≤ K) (h2 : s'.out.length ≤ K) (hb1 : bs1 = chS K sig (.fn f [.dp ds]) s n ++ Y) (hbs : st.bs = chS K sig (.fn f [.dp ds]) s' n' ++ X) (hX : X.all boxNY = true) :
    RdOk W0 (K + 5) bs1 (chS K sig (.fn f [.dp ds]) s' n') .normal st := by
  have hl1 := chS_len (sig := sig) (is := .fn f [.dp ds]) (n := n) h1
  have hl2 := chS_len (sig := sig) (is := .fn f [.dp ds]) (n := n') h2
  refine ⟨rfl, fun b cs hb hx => ?_, ?_, ?_⟩
  · rw [hbs, List.getElem?_append_left (by omega)] at hx
    rw [hb1, List.getElem?_append_left (by omega)]
    match b with
    | 0 => exact ⟨_, rfl⟩
    | 1 => exact ⟨_, rfl⟩
    | 2 => exact ⟨_, rfl⟩
    | 3 => exact ⟨_, rfl⟩
    | 4 => cases hx
    | b + 5 =>
      simp only [chS, List.getElem?_cons_succ] at hx
      obtain ⟨l, hl⟩ := slots_vec (List.mem_of_getElem? hx)
      cases hl
  · rw [hbs, List.all_append, hX, Bool.and_true]
    exact List.all_eq_true.2 fun x hx => chS_ny x hx
  · exact Sb.mk (env := []) rfl trivial ⟨X, hbs⟩ (by omega) rfl (by rw [hl2]; exact chS_below h2)
theorem mid_sb {W0 : World} {K sig : Nat} {f : FuncId} {ds : List D} {s : CS} {n : Nat} {x : It} {st : St} (h : s.out.length ≤ K) (hbs : st.bs = chS K sig (.fn f [.dp ds]) s n ++ [.var ((itD x).map .d)]) (he : eSub st.env [(5, .ptr 1 0), (6, .ptr 2 0), (9, .ptr (K + 5) 0)]) (hN : 57 = st.N) :
    Sb W0 (K + 1 + 1 + 1 + 1 + 1 + 1) st ⟨57, ofL [(5, .ptr 1 0), (6, .ptr 2 0), (9, .ptr (K + 5) 0)], chS K sig (.fn f [.dp ds]) s n ++ [.var ((itD x).map .d)]⟩ := by
  have hl := chS_len (sig := sig) (is := .fn f [.dp ds]) (n := n) h
  refine SbP (S := chS K sig (.fn f [.dp ds]) s n ++ [.var ((itD x).map .d)]) (X := []) (by rw [List.append_nil, hbs]) hN he (by rw [List.length_append, hl]; exact Nat.le_refl _) ?_ ?_
  · rw [List.length_append, hl]
    simp only [envBelow, List.all_cons, List.all_nil, AV.names, List.length_cons, List.length_nil, Bool.and_true, Bool.and_eq_true, decide_eq_true_eq]
    omega
  · rw [List.all_append, List.length_append, hl]
    simp only [List.all_cons, List.all_nil, boxBelow, names_ds, Bool.and_true]
    exact List.all_eq_true.2 fun y hy => boxBelow_le (by simp) (List.all_eq_true.1 (chS_below h) y hy)
theorem names_app (p : Nat → Bool) : ∀ l l' : List AV, namesAll p (l ++ l') = (namesAll p l && namesAll p l')
  | [], _ => by simp [namesAll]
  | x :: l, l' => by simp [namesAll, names_app p l l', Bool.and_assoc]
theorem push_sb {W0 : World} {K sig : Nat} {f : FuncId} {ds : List D} {s : CS} {n i : Nat} {x : It} {g : Gr} {st : St} (h : s.out.length < K) (hg : g.items = [])
    (hbs : st.bs = .var [.fn f [.dp ds]] :: .var [.d (.v (.int .u8 sig)), .sl 4 5 0 (s.out.length + 1)] :: .var [.d (.v (.int .i64 n))] :: .var [.d (.v (.int .i64 i))] :: .own 5 104 (grC 5 s.out ++ [.d (.rows 8 112 (g.res.map pD)), .d (.v (.string g.scope)), .d (.v (.string g.ver)), .d (.rows 8 112 (g.attrs.map pD)), .d .e]) :: (slots K s.out ++ [.var ((itD x).map .d)]))
    (he : eSub st.env [(5, .ptr 1 0), (6, .ptr 2 0), (9, .ptr (K + 5) 0)]) (hN : 57 = st.N) :
    Sb W0 (K + 1 + 1 + 1 + 1 + 1 + 1) st ⟨57, ofL [(5, .ptr 1 0), (6, .ptr 2 0), (9, .ptr (K + 5) 0)], chS K sig (.fn f [.dp ds]) ⟨s.out ++ [g], i⟩ n ++ [.var ((itD x).map .d)]⟩ := by
  have hsl := slots_len (Nat.le_of_lt h)
  have hgl := grC_len 5 s.out
  have A := SbP (W0 := W0) (n := K + 1 + 1 + 1 + 1 + 1 + 1) (st := st) (S := st.bs) (X := []) (by rw [List.append_nil]) hN he (by rw [hbs]; simp [hsl]) (by rw [hbs]; simp [envBelow, AV.names, hsl]) (by
    rw [hbs]
    simp only [List.all_cons, List.all_append, List.all_nil, boxBelow, namesAll, AV.names, names_ds, Bool.and_true, Bool.true_and, Bool.and_eq_true, decide_eq_true_eq, List.length_cons, List.length_append, hsl, List.length_nil, names_app]
    exact ⟨by omega, grC_names fun q hq => decide_eq_true (by omega), slots_all _ fun _ => rfl⟩)
  rw [hbs] at A
  refine A.trans (Sb.trans (Sb.reopen (b := s.out.length + 5) (g := 4) (j := s.out.length * 5 + 4) (sz := 34) (bt := 416) (sz0 := 34) (bt0 := 416) (l0 := []) ?_ rfl ?_ ?_ ?_ (by decide) (by decide)) ?_)
  · simp only [List.getElem?_cons_succ]
    rw [List.getElem?_append_left (by omega)]
    exact slots_free h
  · rw [List.getElem?_append_right (by omega), hgl, show s.out.length * 5 + 4 - s.out.length * 5 = 4 by omega]
    rfl
  · simp [envNo, ofL, putE, put2, put1, AV.names]
    omega
  · simp only [List.all_cons, List.all_append, List.all_nil, boxNo, namesAll, AV.names, names_ds, Bool.and_true, Bool.true_and, Bool.and_eq_true, names_app, bne_iff_ne, ne_eq]
    exact ⟨by omega, grC_names fun q hq => by simp; omega, slots_all _ fun _ => rfl⟩
  · have e1 : (grC 5 s.out ++ [.d (.rows 8 112 (g.res.map pD)), .d (.v (.string g.scope)), .d (.v (.string g.ver)), .d (.rows 8 112 (g.attrs.map pD)), AV.d .e]).set (s.out.length * 5 + 4) (.sl (s.out.length + 5) 34 0 0) = grC 5 (s.out ++ [g]) := by
      rw [List.set_append_right _ _ (by omega), hgl, show s.out.length * 5 + 4 - s.out.length * 5 = 4 by omega, grC_app, hg, Nat.add_comm 5]
      rfl
    have e2 : (slots K s.out).set s.out.length (.vec 34 416 []) = slots K s.out := set_same (slots_free h)
    simp only [List.set_cons_succ, List.set_cons_zero, e1]
    rw [List.set_append_left _ _ (by omega), e2]
    simp only [chS, List.cons_append, slots_push h hg, List.length_append, List.length_cons, List.length_nil]
    exact Sb.refl _
theorem chosen_c {W0 : World} (d : Da) (hd : okD d) (hn : nIt d.gs ≤ 1024) (f : FuncId) (hf : callable Tryd.prog f = true) (ds : List D) (p : Nat → Bool) (hp : ∀ n, n < nIt d.gs → APure Tryd.prog W0 f [.d (.v (.int .i64 (n : Nat))), .dp ds] (· = .ret (.d (.v (.bool (p n)))))) :
    APure Tryd.prog W0 29 [xa d, .fn f [.dp ds]] (· = .ret (xa ⟨d.sig, (runC p d.gs (nIt d.gs)).out⟩)) := by
  have hit := items_c (W0 := W0) 104 416 (.v (.int .u8 d.sig)) (d.gs.map grP)
  rw [← daD_dD] at hit
  obtain ⟨K, hK⟩ : ∃ K, K = nIt d.gs := ⟨_, rfl⟩
  refine F_body Tryd.func29 rfl (by simp [Tryd.ntmps29]) ?_
  simp only [Tryd.ntmps29, Tryd.results29, mkEnv, List.length_nil]
  refine F_pre (A_region (A_run ?_))
  simp only [go_sem]
  refine A_nil ?_
  simp only [Thn, InB]
  refine F_pre (A_region (A_run ?_))
  simp only [go_sem]
  refine A_nil ?_
  simp only [Thn, InB]
  refine F_pre (A_region (A_run ?_))
  simp only [go_sem]
  refine A_nil ?_
  simp only [Thn, InB]
  refine F_sub _ (Sb.freezeV 0 rfl rfl (Nat.zero_le _)) ?_
  simp only [fvE, mapE, fvA, fvL, fvB, go_sem]
  refine F_sub _ (Sb.opnC (b := 3) (j := 1) (sz := 5) (bt := 104) rfl rfl (by decide) (by decide)) ?_
  simp only [go_sem]
  refine F_sub _ (Sb.toOwn 6 rfl) ?_
  simp only [List.flatten_nil, go_sem]
  refine F_sub _ (Sb.addVs K) ?_
  simp only [List.cons_append, List.nil_append]
  refine F_post (F_pre (A_region (A_run ?_)))
  simp only [go_sem]
  (refine A_call (hit) rfl rfl rfl rfl (by first | assumption | simp only [go_sem]) rfl (by first | rfl | simp only [noNames, namesAll, AV.names, names_ds, go_sem, List.append_nil, List.cons_append, List.nil_append, Bool.and_self]) ?_; rintro r rfl; refine ⟨(by first | rfl | simp only [noName, namesAll, AV.names, names_ds, go_sem, Bool.and_self]), A_run ?_⟩; simp only [go_sem])
  refine A_nil ?_
  simp only [Thn, InB]
  have hC0 : chS K d.sig (.fn f [.dp ds]) (runC p d.gs 0) 0 = .var [.fn f [.dp ds]] :: .var [.d (.v (.int .u8 d.sig)), .sl 4 5 0 0] :: .var [.d (.v (.int .i64 0))] :: .var [.d (.v (.int .i64 (-1)))] :: .own 5 104 [] :: List.replicate K emB := rfl
  refine F_block (F_loop (1 :: 3 :: 4 :: 5 :: 6 :: List.range' 7 K) (cargs := fun r => [.yd r [2, 3, 5, 6, 7] [.dp (daD d), .ptr 0 0, .ptr 1 0, .ptr 2 0, .ptr 3 0], .dp (daD d)]) (caps0 := [.dp (daD d), .ptr 1 0, .ptr 3 0, .ptr 4 0, .ptr 5 0]) (ts := [2, 3, 5, 6, 7]) (L := chS K d.sig (.fn f [.dp ds]) (runC p d.gs 0) 0) (L' := chS K d.sig (.fn f [.dp ds]) (runC p d.gs (nIt d.gs)) (nIt d.gs)) rfl rfl rfl ?nodup ?len ?hL ?hargs chS_kinds ?hcall ?hy ?hb ?h)
  case nodup =>
    simp [List.mem_range'_1, List.nodup_range']
  case len => rw [hC0]; simp
  case hL =>
    intro i b hi
    rw [hC0]
    match i with
    | 0 => cases hi; rfl
    | 1 => cases hi; rfl
    | 2 => cases hi; rfl
    | 3 => cases hi; rfl
    | 4 => cases hi; rfl
    | i + 5 =>
      simp only [List.getElem?_cons_succ] at hi ⊢
      obtain ⟨hl, he⟩ := List.getElem?_eq_some_iff.1 hi
      simp only [List.length_range'] at hl
      simp only [List.getElem_range', Nat.one_mul] at he
      subst he
      rw [show 7 + i = i + 7 by omega]
      simp only [List.getElem?_cons_succ, List.getElem?_replicate, if_pos hl]
      rfl
  case hargs => intro r; simp only [renL, renA, sg_c0, sg_cS]; rfl
  case hcall =>
    intro r hst hpe hps has hbo hsz hW
    obtain ⟨S, hS⟩ : ∃ S : Nat → List Box, ∀ j, S j = chS K d.sig (.fn f [.dp ds]) (runC p d.gs j) j := ⟨_, fun _ => rfl⟩
    have hle : ∀ j, (runC p d.gs j).out.length ≤ K := fun j => by rw [hK]; exact runC_le p d.gs j
    have hl : ∀ j, (S j).length = K + 5 := fun j => by rw [hS]; exact chS_len (hle j)
    have h0 := items1_c (W0 := W0) 104 416 (.v (.int .u8 d.sig)) (d.gs.map grP) (hg4 d.gs) r [2, 3, 5, 6, 7] [.dp (daD d), .ptr 0 0, .ptr 1 0, .ptr 2 0, .ptr 3 0] S (fun j => by rw [hl, hl]) (fun j => by rw [hl, hS]; exact chS_below (hle j))
      (by rw [hl]; simp only [namesAll, AV.names, Bool.and_true, Bool.true_and, Bool.and_eq_true, decide_eq_true_eq]; omega) (fun j => by rw [hS, hS]; exact chS_kinds)
      (fun j => by rw [hl, hS, hS]; simp only [killPL, killP, chS_moved (by decide : 0 < 4), chS_moved (by decide : 1 < 4), chS_moved (by decide : 2 < 4), chS_moved (by decide : 3 < 4), Bool.false_eq_true, if_false])
      (by have := hd.gs.1; simp; omega) (by
        intro g hg
        obtain ⟨x, hx, rfl⟩ := List.mem_map.1 hg
        have := (hd.gs.2 x hx).items.1
        simp [grP]
        omega) ?round
    · rw [off_grP, List.length_map, List.take_length, ← daD_dD, hS, hS] at h0
      exact h0
    case round =>
      intro i j hi hj
      have hi' : i < d.gs.length := by simpa using hi
      have hj' : j < (d.gs[i].items).length := by simpa [grP] using hj
      have hfl := flI_at hi' hj'
      have hnlt : nIt (d.gs.take i) + j < nIt d.gs := Nat.lt_of_lt_of_eq (List.getElem?_eq_some_iff.1 hfl).1 (flI_len d.gs)
      have he : ((d.gs.map grP)[i].2)[j] = itD (d.gs[i].items[j]) := by simp [grP]
      rw [he, off_grP, hS, hS]
      have hr1 : runC p d.gs (nIt (d.gs.take i) + j + 1) = stepC p d.gs (runC p d.gs (nIt (d.gs.take i) + j)) (nIt (d.gs.take i) + j) i d.gs[i].items[j] := by
        rw [runC, hfl]
      rw [hr1]
      have hinv := runC_inv p d.gs (nIt (d.gs.take i) + j)
      have hsl := hle (nIt (d.gs.take i) + j)
      have hsl2 := hle (nIt (d.gs.take i) + j + 1)
      rw [hr1] at hsl2
      have hpn := hp _ hnlt
      generalize runC p d.gs (nIt (d.gs.take i) + j) = s at hinv hsl hsl2 ⊢
      generalize nIt (d.gs.take i) + j = n at hinv hsl2 hnlt hpn ⊢
      have hgi : (d.gs.map grD)[i]? = some (grD d.gs[i]) := by rw [List.getElem?_map, List.getElem?_eq_getElem hi']; rfl
      have hgo : d.gs[i]? = some d.gs[i] := List.getElem?_eq_getElem hi'
      generalize hx : d.gs[i].items[j] = x at hsl2 ⊢
      generalize d.gs[i] = g at hgi hgo
      refine ARound_of [(2, .dp (daD d)), (3, .ptr 0 0), (5, .ptr 1 0), (6, .ptr 2 0), (7, .ptr 3 0), (16, .d (.v (.int .i64 (i : Nat)))), (17, ia x)] hst hpe hW (by rw [hps]; rfl) (by rw [hps]; decide) ?_ ?_
      · intro t y hy
        simp only [lk_ofL, lkA] at hy
        split at hy
        · rename_i e; subst e; cases hy
          exact ⟨by rw [hsz]; exact (by decide : 2 < 57), .inl ⟨0, rfl, rfl, by rw [hps]; decide⟩⟩
        split at hy
        · rename_i e; subst e; cases hy
          exact ⟨by rw [hsz]; exact (by decide : 3 < 57), .inl ⟨1, rfl, rfl, by rw [hps]; decide⟩⟩
        split at hy
        · rename_i e; subst e; cases hy
          exact ⟨by rw [hsz]; exact (by decide : 5 < 57), .inl ⟨2, rfl, rfl, by rw [hps]; decide⟩⟩
        split at hy
        · rename_i e; subst e; cases hy
          exact ⟨by rw [hsz]; exact (by decide : 6 < 57), .inl ⟨3, rfl, rfl, by rw [hps]; decide⟩⟩
        split at hy
        · rename_i e; subst e; cases hy
          exact ⟨by rw [hsz]; exact (by decide : 7 < 57), .inl ⟨4, rfl, rfl, by rw [hps]; decide⟩⟩
        split at hy
        · rename_i e; subst e; cases hy
          exact ⟨by rw [hsz]; exact (by decide : 16 < 57), .inr ⟨0, by rw [hps]; rfl, rfl⟩⟩
        split at hy
        · rename_i e; subst e; cases hy
          exact ⟨by rw [hsz]; exact (by decide : 17 < 57), .inr ⟨1, by rw [hps]; rfl, rfl⟩⟩
        · cases hy
      · rw [has, hbo, hsz, chS_len hsl]
        simp only [chS]
        repeat (first | refine wS ?_ | refine wB ?_ | (refine wR ?_; simp only [go_sem, ap0, st0, apk, stk, List.length_append]) | (refine wT ?_ ?_; focus (simp only [go_sem]; done)) | (refine wF ?_ ?_; focus (simp only [go_sem]; done)) | (refine wK ?_; try simp only [go_sem, ap0, st0, apk, stk, List.length_append]) | (refine wE ?_; try simp only [go_sem, ap0, st0, apk, stk, List.length_append]) | refine wX ?_)
        refine ⟨fun t y hy => ny_env rfl t y hy, ?_, ?_⟩
        · rw [grC_ny, List.all_append, slots_all _ fun _ => rfl]
          rfl
        repeat (first | refine wS ?_ | refine wB ?_ | (refine wR ?_; simp only [go_sem, ap0, st0, apk, stk, List.length_append]) | (refine wT ?_ ?_; focus (simp only [go_sem]; done)) | (refine wF ?_ ?_; focus (simp only [go_sem]; done)) | (refine wK ?_; try simp only [go_sem, ap0, st0, apk, stk, List.length_append]) | (refine wE ?_; try simp only [go_sem, ap0, st0, apk, stk, List.length_append]) | refine wX ?_)
        have hwn : IntKind.i64.wrap ((n : Int) + 1) = ((n + 1 : Nat) : Int) := wrap_succ (by omega)
        refine wC (hpn) ?_
        simp only [go_sem, ap0, st0, apk, stk, List.length_append]
        repeat (first | refine wS ?_ | refine wB ?_ | (refine wR ?_; simp only [go_sem, ap0, st0, apk, stk, List.length_append]) | (refine wT ?_ ?_; focus (simp only [go_sem]; done)) | (refine wF ?_ ?_; focus (simp only [go_sem]; done)) | (refine wK ?_; try simp only [go_sem, ap0, st0, apk, stk, List.length_append]) | (refine wE ?_; try simp only [go_sem, ap0, st0, apk, stk, List.length_append]) | refine wX ?_)
        cases hpb : p n with
        | false =>
          have hst : stepC p d.gs s n i x = s := by simp only [stepC, hpb, Bool.false_eq_true, if_false]
          rw [hst]
          repeat (first | refine wS ?_ | refine wB ?_ | (refine wR ?_; simp only [go_sem, hpb, hwn, ap0, st0, apk, stk, List.length_append]) | (refine wT ?_ ?_; focus (simp only [go_sem]; done)) | (refine wF ?_ ?_; focus (simp only [go_sem]; done)) | (refine wK ?_; try simp only [go_sem, hpb, hwn, ap0, st0, apk, stk, List.length_append]) | (refine wE ?_; try simp only [go_sem, hpb, hwn, ap0, st0, apk, stk, List.length_append]) | refine wX ?_)
          exact rd_end (s := s) (n := n) (X := [_]) (Y := [_]) hsl hsl rfl rfl rfl
        | true =>
          refine wT (by simp only [go_sem, hpb]) ?_
          refine wS ?_
          have hap : ∀ X : List Box, (slots K s.out ++ X)[K]? = X[0]? := fun X => by
            have h1 := ap0 (slots K s.out) X
            rwa [slots_len hsl] at h1
          rw [slots_len hsl]
          refine ACode.mono (Q := fun ax st' => ax = .normal ∧ ∃ s1 : CS, s1.out ≠ [] ∧ s1.out.length ≤ K ∧ stepC p d.gs s n i x = ⟨pushI s1.out (ownedI x), s1.last⟩ ∧ (∀ g ∈ s1.out, g.items.length ≤ n) ∧ Sb W0 (K + 1 + 1 + 1 + 1 + 1 + 1) st' ⟨57, ofL [(5, .ptr 1 0), (6, .ptr 2 0), (9, .ptr (K + 5) 0)], chS K d.sig (.fn f [.dp ds]) s1 n ++ [.var ((itD x).map .d)]⟩) ?part1 ?part2
          case part1 =>
            by_cases hil : (i : Int) = s.last
            · have hne : ((i : Int) != s.last) = false := by simp [hil]
              repeat (first | refine wS ?_ | refine wB ?_ | (refine wR ?_; simp only [go_sem, hne]) | (refine wT ?_ ?_; focus (simp only [go_sem]; done)) | (refine wF ?_ ?_; focus (simp only [go_sem]; done)) | (refine wK ?_; try simp only [go_sem, hne]) | (refine wE ?_; try simp only [go_sem, hne]) | refine wX ?_)
              refine ⟨s, fun e => ?_, hsl, by simp only [stepC, hpb, if_true, if_pos hil], hinv.long, ?_⟩
              · have := hinv.none_ e
                omega
              · exact mid_sb hsl rfl (by repeat (first | exact eSub_nil _ | refine eSub_cons rfl ?_)) rfl
            · have hne : ((i : Int) != s.last) = true := by simp [hil]
              repeat (first | refine wS ?_ | refine wB ?_ | (refine wR ?_; simp only [go_sem, hne]) | (refine wT ?_ ?_; focus (simp only [go_sem]; done)) | (refine wF ?_ ?_; focus (simp only [go_sem]; done)) | (refine wK ?_; try simp only [go_sem, hne]) | (refine wE ?_; try simp only [go_sem, hne]) | refine wX ?_)
              refine wD 9 ?_ mixedO (by kernel_rfl)
              simp only [go_sem, hgi]
              repeat (first | refine wS ?_ | refine wB ?_ | (refine wR ?_; simp only [go_sem, hgi]) | (refine wT ?_ ?_; focus (simp only [go_sem]; done)) | (refine wF ?_ ?_; focus (simp only [go_sem]; done)) | (refine wK ?_; try simp only [go_sem, hgi]) | (refine wE ?_; try simp only [go_sem, hgi]) | refine wX ?_)
              have hog := ownGroupE_c (W0 := W0) g
              simp only [ghD, List.cons_append, List.nil_append, List.map_cons, List.map_nil] at hog
              refine wQC (hog) ?_
              simp only [go_sem, hgi]
              repeat (first | refine wS ?_ | refine wB ?_ | (refine wR ?_; simp only [go_sem, hgi]) | (refine wT ?_ ?_; focus (simp only [go_sem]; done)) | (refine wF ?_ ?_; focus (simp only [go_sem]; done)) | (refine wK ?_; try simp only [go_sem, hgi]) | (refine wE ?_; try simp only [go_sem, hgi]) | refine wX ?_)
              have hkg : killL 4 (grC 5 s.out) = grC 5 s.out := grC_kill fun i _ => by omega
              have hks : (slots K s.out).map (killB 4) = slots K s.out := slots_map _ fun _ => rfl
              refine wD1 9 ?_ (by kernel_rfl)
              simp only [go_sem, hap, ap0, st0, apk, stk, List.length_append]
              refine wAO (grC 5 s.out) [ghD (ownedG g) ++ [D.e]] ?_ (hk := grC_len 5 s.out) (hbound := ?hbd)
              case hbd => have := hinv.many; simp; omega
              simp only [go_sem, hkg, hks, ghD, List.flatten_cons, List.flatten_nil, List.map_append]
              try simp only [TQ, true_and]
              refine wD1 10 ?_ (by kernel_rfl)
              simp only [go_sem, hap, ap0, st0, apk, stk, List.length_append]
              try simp only [TQ, true_and]
              refine wD1 11 ?_ (by kernel_rfl)
              simp only [go_sem, hap, ap0, st0, apk, stk, List.length_append]
              try simp only [TQ, true_and]
              refine wD0 ?_ (by kernel_rfl)
              try simp only [go_sem]
              repeat (first | refine wS ?_ | refine wB ?_ | (refine wR ?_; simp only [go_sem]) | (refine wT ?_ ?_; focus (simp only [go_sem]; done)) | (refine wF ?_ ?_; focus (simp only [go_sem]; done)) | (refine wK ?_; try simp only [go_sem]) | (refine wE ?_; try simp only [go_sem]) | refine wX ?_)
              have hm1 := hinv.many
              have hgl : (ownedG g).items = [] := rfl
              refine ⟨⟨s.out ++ [ownedG g], i⟩, by simp, by simp; omega, by simp only [stepC, hpb, if_true, if_neg hil, hgo, Option.getD_some], fun y hy => ?_, ?_⟩
              · rcases List.mem_append.1 hy with hy | hy
                · exact hinv.long y hy
                · rw [List.mem_singleton.1 hy, hgl]
                  exact Nat.zero_le _
              · exact push_sb (s := s) (g := ownedG g) (by omega) hgl rfl (by repeat (first | exact eSub_nil _ | refine eSub_cons rfl ?_)) rfl
          case part2 =>
            rintro ax st' ⟨rfl, s1, hne1, hle1, hst1, hlong1, hsb⟩
            refine A_sub _ hsb ?_
            rw [hst1]
            rw [hst1] at hsl2
            obtain ⟨g1, hg1, hlt1⟩ := last_some hne1
            have hpush := pushI_some (x := ownedI x) hg1
            obtain ⟨k1, hk1⟩ : ∃ k, s1.out.length = k + 1 := ⟨s1.out.length - 1, by omega⟩
            rw [show s1.out.length - 1 = k1 by omega] at hg1 hpush
            rw [hpush]
            have hg1l := hlong1 g1 (List.mem_of_getElem? hg1)
            have hw1 : IntKind.i64.wrap (((k1 + 1 : Nat) : Int) - 1) = (k1 : Int) := wrap_pred (by omega)
            have hlt2 : ((k1 : Int) < ((k1 + 1 : Nat) : Int)) = True := eq_true (by omega)
            have hcl : (k1 * 5 + 5 ≤ (grC 5 s1.out).length) = True := eq_true (by rw [grC_len, hk1]; omega)
            have hkl : (k1 * 5 + 5 ≤ (killL (k1 + 5) (grC 5 s1.out)).length) = True := eq_true (by rw [killL_len, grC_len, hk1]; omega)
            have hat : ((grC 5 s1.out).drop (k1 * 5)).take 5 = [.d (.rows 8 112 (g1.res.map pD)), .d (.v (.string g1.scope)), .d (.v (.string g1.ver)), .d (.rows 8 112 (g1.attrs.map pD)), .sl (k1 + 5) 34 0 g1.items.length] := by rw [grC_at hg1, Nat.add_comm 5]; rfl
            have hap1 : ∀ X : List Box, (slots K s1.out ++ X)[K]? = X[0]? := fun X => by
              have h1 := ap0 (slots K s1.out) X
              rwa [slots_len hle1] at h1
            have hbx : ∀ (a b c d e : Box) (X : List Box), (a :: b :: c :: d :: e :: (slots K s1.out ++ X))[k1 + 5]? = some (.vec 34 416 (g1.items.map itD)) := fun a b c d e X => by
              simp only [List.getElem?_cons_succ]
              rw [List.getElem?_append_left (by rw [slots_len hle1]; omega)]
              exact slots_at hg1
            have hks : (slots K s1.out).map (killB (k1 + 5)) = slots K s1.out := slots_map _ fun _ => rfl
            obtain ⟨row, hrow⟩ : ∃ row, row = itD (ownedI x) := ⟨_, rfl⟩
            have hset : ∀ X : List Box, (slots K s1.out ++ X).set k1 (.vec 34 416 (g1.items.map itD ++ [row])) = slots K (s1.out.set k1 (addI g1 (ownedI x))) ++ X := fun X => by
              rw [List.set_append_left _ _ (by rw [slots_len hle1]; omega), ← slots_set (by omega), hrow]
              simp [itB, addI]
            have hov : over (killL (k1 + 5) (grC 5 s1.out)) (k1 * 5 + 4) [.sl (k1 + 5) 34 0 (g1.items.length + 1)] = grC 5 (s1.out.set k1 (addI g1 (ownedI x))) := by
              have h1 := grC_over (b := 5) (g' := addI g1 (ownedI x)) hg1 rfl
              rw [Nat.add_comm 5] at h1
              rw [← h1]
              simp [addI]
            have hov2 := hov
            simp only [over, List.length_cons, List.length_nil, Nat.zero_add] at hov2
            have q1 : (1 = k1 + 5) = False := eq_false (by omega)
            have q2 : (2 = k1 + 5) = False := eq_false (by omega)
            have q4 : (4 = k1 + 5) = False := eq_false (by omega)
            have qK : (K = k1) = False := eq_false (by omega)
            have hoi := ownItem_c (W0 := W0) x
            simp only [chS, List.cons_append]
            repeat (first | refine wS ?_ | refine wB ?_ | (refine wR ?_; simp only [go_sem, hk1, hw1, hlt2, hap1]) | (refine wT ?_ ?_; focus (simp only [go_sem]; done)) | (refine wF ?_ ?_; focus (simp only [go_sem]; done)) | (refine wK ?_; try simp only [go_sem, hk1, hw1, hlt2, hap1]) | (refine wE ?_; try simp only [go_sem, hk1, hw1, hlt2, hap1]) | refine wX ?_)
            refine wDI [1, 2, 3, 4, 5, 6, 7] [0] ?_ mixedO (by kernel_rfl)
            simp only [go_sem, hk1, hap1, hcl, hat]
            repeat (first | refine wS ?_ | refine wB ?_ | (refine wR ?_; simp only [go_sem, hk1, hap1, hcl, hat]) | (refine wT ?_ ?_; focus (simp only [go_sem]; done)) | (refine wF ?_ ?_; focus (simp only [go_sem]; done)) | (refine wK ?_; try simp only [go_sem, hk1, hap1, hcl, hat]) | (refine wE ?_; try simp only [go_sem, hk1, hap1, hcl, hat]) | refine wX ?_)
            refine wQC (hoi) ?_
            simp only [go_sem, hk1, hap1, hcl, hat]
            repeat (first | refine wS ?_ | refine wB ?_ | (refine wR ?_; simp only [go_sem, hk1, hap1, hcl, hat]) | (refine wT ?_ ?_; focus (simp only [go_sem]; done)) | (refine wF ?_ ?_; focus (simp only [go_sem]; done)) | (refine wK ?_; try simp only [go_sem, hk1, hap1, hcl, hat]) | (refine wE ?_; try simp only [go_sem, hk1, hap1, hcl, hat]) | refine wX ?_)
            refine wDb 0 8 ?_ ?_ (by kernel_rfl)
            · refine sQ ?_
              simp only [go_sem, hap1, hcl, hat, hkl, hov2, hset, hks, List.map_append, q1, q2, q4, qK, List.length_append, List.getElem_toArray, List.getElem_cons_succ, List.getElem_cons_zero]
              refine wDa 8 ?_ (by kernel_rfl)
              refine sT ?_
              simp only [go_sem, List.getElem_toArray, List.getElem_cons_succ, List.getElem_cons_zero]
              refine wA (b := k1 + 5) (g1.items.map itD) [row] ?_ (hb := hbx _ _ _ _ _ _) (hX := by rw [hrow]; rfl) (hbound := by simp; omega) (hk := by simp)
              simp only [go_sem, hap1, hcl, hat, hkl, hov2, hset, hks, List.map_append, q1, q2, q4, qK, List.length_append, List.getElem_toArray, List.getElem_cons_succ, List.getElem_cons_zero]
              try simp only [TQ, true_and]
              refine wD1 9 ?_ (by kernel_rfl)
              simp only [go_sem, hap1, hcl, hat, hkl, hov2, hset, hks, List.map_append, q1, q2, q4, qK, List.length_append, List.getElem_toArray, List.getElem_cons_succ, List.getElem_cons_zero]
              try simp only [TQ, true_and]
              refine wD1 10 ?_ (by kernel_rfl)
              simp only [go_sem, hap1, hcl, hat, hkl, hov2, hset, hks, List.map_append, q1, q2, q4, qK, List.length_append, List.getElem_toArray, List.getElem_cons_succ, List.getElem_cons_zero]
              try simp only [TQ, true_and]
              refine wD1 11 ?_ (by kernel_rfl)
              simp only [go_sem, hap1, hcl, hat, hkl, hov2, hset, hks, List.map_append, q1, q2, q4, qK, List.length_append, List.getElem_toArray, List.getElem_cons_succ, List.getElem_cons_zero]
              try simp only [TQ, true_and]
              refine wD0 ?_ (by kernel_rfl)
              try simp only [go_sem, hwn, hap1, List.length_append]
              repeat (first | refine wS ?_ | refine wB ?_ | (refine wR ?_; simp only [go_sem, hwn, hap1, List.length_append]) | (refine wT ?_ ?_; focus (simp only [go_sem]; done)) | (refine wF ?_ ?_; focus (simp only [go_sem]; done)) | (refine wK ?_; try simp only [go_sem, hwn, hap1, List.length_append]) | (refine wE ?_; try simp only [go_sem, hwn, hap1, List.length_append]) | refine wX ?_)
              exact rd_end (s := s) (n := n) (s' := ⟨s1.out.set k1 (addI g1 (ownedI x)), s1.last⟩) (X := [_]) (Y := [_]) hsl (by simp only [List.length_set]; exact hle1) rfl (by simp only [chS, List.length_set, hk1, List.cons_append]; rfl) rfl
            · refine sT ?_
              simp only [go_sem, List.getElem_toArray, List.getElem_cons_succ, List.getElem_cons_zero]
              refine wA (b := k1 + 5) (g1.items.map itD) [row] ?_ (hb := hbx _ _ _ _ _ _) (hX := by rw [hrow]; rfl) (hbound := by simp; omega) (hk := by simp)
              simp only [go_sem, hap1, hcl, hat, hkl, hov2, hset, hks, List.map_append, q1, q2, q4, qK, List.length_append, List.getElem_toArray, List.getElem_cons_succ, List.getElem_cons_zero]
              try simp only [TQ, true_and]
              refine wDa 0 ?_ (by kernel_rfl)
              refine sQ ?_
              simp only [go_sem, hap1, hcl, hat, hkl, hov2, hset, hks, List.map_append, q1, q2, q4, qK, List.length_append, List.getElem_toArray, List.getElem_cons_succ, List.getElem_cons_zero]
              refine wD1 9 ?_ (by kernel_rfl)
              simp only [go_sem, hap1, hcl, hat, hkl, hov2, hset, hks, List.map_append, q1, q2, q4, qK, List.length_append, List.getElem_toArray, List.getElem_cons_succ, List.getElem_cons_zero]
              try simp only [TQ, true_and]
              refine wD1 10 ?_ (by kernel_rfl)
              simp only [go_sem, hap1, hcl, hat, hkl, hov2, hset, hks, List.map_append, q1, q2, q4, qK, List.length_append, List.getElem_toArray, List.getElem_cons_succ, List.getElem_cons_zero]
              try simp only [TQ, true_and]
              refine wD1 11 ?_ (by kernel_rfl)
              simp only [go_sem, hap1, hcl, hat, hkl, hov2, hset, hks, List.map_append, q1, q2, q4, qK, List.length_append, List.getElem_toArray, List.getElem_cons_succ, List.getElem_cons_zero]
              try simp only [TQ, true_and]
              refine wD0 ?_ (by kernel_rfl)
              try simp only [go_sem, hwn, hap1, List.length_append]
              repeat (first | refine wS ?_ | refine wB ?_ | (refine wR ?_; simp only [go_sem, hwn, hap1, List.length_append]) | (refine wT ?_ ?_; focus (simp only [go_sem]; done)) | (refine wF ?_ ?_; focus (simp only [go_sem]; done)) | (refine wK ?_; try simp only [go_sem, hwn, hap1, List.length_append]) | (refine wE ?_; try simp only [go_sem, hwn, hap1, List.length_append]) | refine wX ?_)
              exact rd_end (s := s) (n := n) (s' := ⟨s1.out.set k1 (addI g1 (ownedI x)), s1.last⟩) (X := [_]) (Y := [_]) hsl (by simp only [List.length_set]; exact hle1) rfl (by simp only [chS, List.length_set, hk1, List.cons_append]; rfl) rfl
  case hy => exact ny_kill (ny_env rfl)
  case hb =>
    simp only [St.aft, List.all_append, Bool.and_eq_true]
    refine ⟨List.all_eq_true.2 (setAll_all _ _ _ ?_ ?_), ?_⟩
    · intro x hx
      obtain ⟨y, hy, rfl⟩ := List.mem_map.1 hx
      refine boxNY_killP _ _ ?_
      simp only [List.mem_cons, List.mem_replicate] at hy
      rcases hy with rfl | rfl | rfl | rfl | rfl | rfl | rfl | ⟨_, rfl⟩ <;> rfl
    · intro x hx
      obtain ⟨y, hy, rfl⟩ := List.mem_map.1 hx
      rw [boxNY_ren]
      exact chS_ny _ hy
    · refine List.all_eq_true.2 fun x hx => ?_
      obtain ⟨y, hy, rfl⟩ := List.mem_map.1 hx
      rw [boxNY_ren]
      exact chS_ny _ (List.mem_of_mem_drop hy)
  case h =>
    have hle := runC_le p d.gs (nIt d.gs)
    generalize runC p d.gs (nIt d.gs) = s at hle ⊢
    rw [← hK] at hle
    have hm2 : moved (1 :: 3 :: 4 :: 5 :: 6 :: List.range' 7 K) (chS K d.sig (.fn f [.dp ds]) (runC p d.gs 0) 0) (chS K d.sig (.fn f [.dp ds]) s (nIt d.gs)) 2 = false := moved_false fun i x y hi hx hy => by
      match i with
      | 0 | 1 | 2 | 3 | 4 => simp at hi
      | i + 5 =>
        simp only [List.getElem?_cons_succ] at hi
        obtain ⟨hl, he⟩ := List.getElem?_eq_some_iff.1 hi
        simp at he
        omega
    have hm3 : moved (1 :: 3 :: 4 :: 5 :: 6 :: List.range' 7 K) (chS K d.sig (.fn f [.dp ds]) (runC p d.gs 0) 0) (chS K d.sig (.fn f [.dp ds]) s (nIt d.gs)) 3 = false := moved_false fun i x y hi hx hy => by
      match i with
      | 0 | 2 | 3 | 4 => simp at hi
      | 1 => cases hx; cases hy; rfl
      | i + 5 =>
        simp only [List.getElem?_cons_succ] at hi
        obtain ⟨hl, he⟩ := List.getElem?_eq_some_iff.1 hi
        simp at he
        omega
    refine ⟨rfl, rfl, ?_⟩
    have he : ∀ q, killPB q emB = emB := fun _ => rfl
    have hd0 : (chS K d.sig (.fn f [.dp ds]) s (nIt d.gs)).drop (1 :: 3 :: 4 :: 5 :: 6 :: List.range' 7 K).length = [] := List.drop_eq_nil_of_le (by have h1 := chS_len (sig := d.sig) (is := .fn f [.dp ds]) (n := nIt d.gs) hle; simp only [List.length_cons, List.length_range']; omega)
    simp only [St.aft, List.map_cons, List.map_replicate, he, ch_aft hle, hd0, List.map_nil, List.append_nil]
    generalize moved (1 :: 3 :: 4 :: 5 :: 6 :: List.range' 7 K) (chS K d.sig (.fn f [.dp ds]) (runC p d.gs 0) 0) (chS K d.sig (.fn f [.dp ds]) s (nIt d.gs)) = pm at hm2 hm3 ⊢
    simp only [killPE, mapE, List.map_cons, List.map_nil, Option.map_some, Option.map_none, killP, killPL, killPB, killPL_ds, hm2, hm3, Bool.false_eq_true, if_false]
    refine A_seq ?_
    refine A_region (A_run ?_)
    simp only [go_sem]
    refine A_nil ?_
    simp only [Thn, InB]
    refine A_ret ⟨rfl, ⟨.agg [.d (.v (.int .u8 d.sig)), .sl 6 5 0 s.out.length], rfl, [], _, fin_all (x' := xa ⟨d.sig, s.out⟩) ?_ ?_, ⟨rfl, rfl⟩⟩, fun t x hx => ny_env ?_ t x hx, ?_⟩
    · simp only [go_sem]
    · intro E M m a w u hC hr
      simp only [xa, daD, List.map_cons, List.map_nil, RA] at hr ⊢
      obtain ⟨us, rfl, h1⟩ := hr
      refine ⟨us, rfl, ?_⟩
      match hus : us.toList, h1 with
      | [u0, u1], h1 =>
        simp only [RAs, RA, and_true] at h1 ⊢
        refine ⟨?_, ?_⟩
        · exact h1.1.mono (Fr.refl (fun _ => False) w) (fun _ _ x => x.elim) (fun k _ hk => hk.1)
        · refine tree_data hC (G := 6) (base := 7) (gs := s.out) rfl (fun i g hg => ?_) rfl (by simp only [RA]; exact h1.2)
          rw [show 7 + i = i + 7 by omega]
          simp only [List.getElem?_cons_succ]
          exact slots_at hg
    · simp only [List.all_cons, List.all_nil, noYd, noYds, ny_ds, apply_ite noYd, ite_self, Bool.and_self]
    · simp only [List.all_cons, boxNY, noYds, noYd, grC_ny, Bool.and_self, Bool.true_and]
      exact slots_all _ fun _ => rfl
end Go.Proofs.YtfbegbpipmgfiaaDoor.Lift
end
section
/- pdata: Split, Keep. No conditions but what types allow, and that utf8's tables lie as they are laid. -/
set_option linter.unusedVariables false
set_option linter.unusedSimpArgs false
set_option maxHeartbeats 4000000
set_option maxRecDepth 100000
namespace Go.Proofs.YtfbegbpipmgfiaaDoor.Lift
open Go Go.RowKit

theorem fst0_cons0 {c : Nat} {l : List Nat} (h : fst0 (c :: l) = 0) : c = 0 ∧ fst0 l = 0 := by
  by_cases hc : c = 0
  · subst hc
    exact ⟨rfl, by rwa [fst0_zero] at h⟩
  · rw [fst0_pos hc] at h
    exact (hc h).elim
theorem daE_ok {d : Da} (h : daE d = 0) : sigB d.sig = true ∧ d.gs.length ≤ 64 ∧ nIt d.gs ≤ 1024 ∧ fst0 (d.gs.map (grE d.sig)) = 0 := by
  unfold daE at h
  obtain ⟨h1, h⟩ := fst0_cons0 h
  obtain ⟨h2, h⟩ := fst0_cons0 h
  have hs : sigB d.sig = true := by
    cases hb : sigB d.sig with
    | true => rfl
    | false => rw [hb] at h1; cases h1
  have hm : manyB d = true := by
    cases hb : manyB d with
    | true => rfl
    | false => rw [hb] at h2; cases h2
  simp only [manyB, Bool.and_eq_true, decide_eq_true_eq] at hm
  exact ⟨hs, by omega, by omega, h⟩
def choD (d : Da) (p : Nat → Bool) : Da := ⟨d.sig, (runC p d.gs (nIt d.gs)).out⟩
def splE (d : Da) (n : Int) : Nat := fst0 [daE d, if decide (0 ≤ n) then 0 else 2]
theorem split1_c {W0 : World} (hT : Tabs W0) (d : Da) (hd : okD d) (n : Int) : ACalls Tryd.prog W0 26 [.ptr 0 0, .ptr 1 0] [.var ((daD d).map .d), .var [.d (.v (.int .i64 n))]] (fun r L' => r = ends (splE d n) ∧ L' = [.var ((daD d).map .d), .var [.d (.v (.int .i64 n))]]) := by
  have hc := check_c' (W0 := W0) hT d hd
  obtain ⟨b, hb⟩ : ∃ b, decide (0 ≤ n) = b := ⟨_, rfl⟩
  unfold splE
  rw [hb]
  refine A_body Tryd.func26 rfl (Nat.le_of_ble_eq_true rfl) ?_
  simp only [go_sem, Tryd.ntmps26, Tryd.results26, mkEnv]
  repeat (first | refine wS ?_ | refine wB ?_ | (refine wR ?_; simp only [go_sem]) | (refine wT ?_ ?_; focus (simp only [go_sem]; done)) | (refine wF ?_ ?_; focus (simp only [go_sem]; done)) | (refine wK ?_; try simp only [go_sem]) | (refine wE ?_; try simp only [go_sem]) | refine wX ?_)
  generalize daE d = e at hc ⊢
  by_cases h0 : e ≠ 0
  · rw [ends1 h0] at hc
    refine wP (hc) ?_
    try simp only [go_sem]
    exact wPanB [.var ((daD d).map .d), .var [.d (.v (.int .i64 n))]] ⟨by rw [fst0_pos h0, ends1 h0]; rfl, rfl⟩
  have h0 : e = 0 := by omega
  subst h0
  rw [ends0] at hc
  rw [fst0_zero]
  refine wC (hc) ?_
  simp only [go_sem, hb]
  repeat (first | refine wS ?_ | refine wB ?_ | (refine wR ?_; simp only [go_sem, hb]) | (refine wT ?_ ?_; focus (simp only [go_sem]; done)) | (refine wF ?_ ?_; focus (simp only [go_sem]; done)) | (refine wK ?_; try simp only [go_sem, hb]) | (refine wE ?_; try simp only [go_sem, hb]) | refine wX ?_)
  cases b with
  | false =>
    refine wP (pmust_no 2) ?_
    try simp only [go_sem, hb]
    exact wPanB [.var ((daD d).map .d), .var [.d (.v (.int .i64 n))]] ⟨rfl, rfl⟩
  | true =>
    refine wC (pmust_ok 2) ?_
    simp only [go_sem, hb]
    repeat (first | refine wS ?_ | refine wB ?_ | (refine wR ?_; simp only [go_sem, hb]) | (refine wT ?_ ?_; focus (simp only [go_sem]; done)) | (refine wF ?_ ?_; focus (simp only [go_sem]; done)) | (refine wK ?_; try simp only [go_sem, hb]) | (refine wE ?_; try simp only [go_sem, hb]) | refine wX ?_)
    exact wRetBN [.var ((daD d).map .d), .var [.d (.v (.int .i64 n))]] ⟨rfl, rfl⟩
theorem split2_c {W0 : World} (n : Int) (i : Int) : APure Tryd.prog W0 30 [.d (.v (.int .i64 i)), .dp [.v (.int .i64 n)]] (· = .ret (.d (.v (.bool (decide (i < n)))))) := by
  refine A_body Tryd.func30 rfl (Nat.le_of_ble_eq_true rfl) ?_
  simp only [go_sem, Tryd.ntmps30, Tryd.results30, mkEnv]
  repeat (first | refine wS ?_ | refine wB ?_ | (refine wR ?_; simp only [go_sem]) | (refine wT ?_ ?_; focus (simp only [go_sem]; done)) | (refine wF ?_ ?_; focus (simp only [go_sem]; done)) | (refine wK ?_; try simp only [go_sem]) | (refine wE ?_; try simp only [go_sem]) | refine wX ?_)
  exact wRq
theorem split3_c {W0 : World} (n : Int) (i : Int) : APure Tryd.prog W0 31 [.d (.v (.int .i64 i)), .dp [.v (.int .i64 n)]] (· = .ret (.d (.v (.bool (decide (n ≤ i)))))) := by
  refine A_body Tryd.func31 rfl (Nat.le_of_ble_eq_true rfl) ?_
  simp only [go_sem, Tryd.ntmps31, Tryd.results31, mkEnv]
  repeat (first | refine wS ?_ | refine wB ?_ | (refine wR ?_; simp only [go_sem]) | (refine wT ?_ ?_; focus (simp only [go_sem]; done)) | (refine wF ?_ ?_; focus (simp only [go_sem]; done)) | (refine wK ?_; try simp only [go_sem]) | (refine wE ?_; try simp only [go_sem]) | refine wX ?_)
  exact wRq
def d0 : Da := ⟨0, []⟩
theorem Le_d0 : Le (.agg [.d (.v (.int .u8 0)), .d .e]) (xa d0) := Le.agg (.cons (Le.refl _) (.cons (Le.nil (by decide)) .nil))
def splR (d : Da) (n : Int) : Da × Da × Nat := if splE d n = 0 then (choD d (fun i => decide ((i : Int) < n)), choD d (fun i => decide (n ≤ (i : Int))), 0) else (d0, d0, splE d n)
theorem Split_c {W0 : World} (hT : Tabs W0) (d : Da) (hd : okD d) (n : Int) : APure Tryd.prog W0 10 [xa d, .d (.v (.int .i64 n))] (· = .ret (.tup [xa (splR d n).1, xa (splR d n).2.1, .d (.v (.int .i64 ((splR d n).2.2 : Nat)))])) := by
  have hc := pcaught_ends (by simp only [go_sem]) (split1_c (W0 := W0) hT d hd n)
  simp only [go_sem] at hc
  unfold splR
  refine A_body Tryd.func10 rfl (Nat.le_of_ble_eq_true rfl) ?_
  simp only [go_sem, Tryd.ntmps10, Tryd.results10, mkEnv]
  repeat (first | refine wS ?_ | refine wB ?_ | (refine wR ?_; simp only [go_sem]) | (refine wT ?_ ?_; focus (simp only [go_sem]; done)) | (refine wF ?_ ?_; focus (simp only [go_sem]; done)) | (refine wK ?_; try simp only [go_sem]) | (refine wE ?_; try simp only [go_sem]) | refine wX ?_)
  refine wCB [0, 1] (hc) ?_
  simp only [go_sem]
  repeat (first | refine wS ?_ | refine wB ?_ | (refine wR ?_; simp only [go_sem]) | (refine wT ?_ ?_; focus (simp only [go_sem]; done)) | (refine wF ?_ ?_; focus (simp only [go_sem]; done)) | (refine wK ?_; try simp only [go_sem]) | (refine wE ?_; try simp only [go_sem]) | refine wX ?_)
  by_cases h0 : splE d n = 0
  · rw [if_pos h0]
    obtain ⟨hd0, _⟩ := fst0_cons0 (show fst0 [daE d, if decide (0 ≤ n) then 0 else 2] = 0 from h0)
    have hn := (daE_ok hd0).2.2.1
    have c1 := chosen_c (W0 := W0) d hd hn 30 (by simp only [go_sem]) [.v (.int .i64 n)] (fun i => decide ((i : Int) < n)) (fun i _ => split2_c n i)
    have c2 := chosen_c (W0 := W0) d hd hn 31 (by simp only [go_sem]) [.v (.int .i64 n)] (fun i => decide (n ≤ (i : Int))) (fun i _ => split3_c n i)
    simp only [go_sem, h0]
    repeat (first | refine wS ?_ | refine wB ?_ | (refine wR ?_; simp only [go_sem]) | (refine wT ?_ ?_; focus (simp only [go_sem]; done)) | (refine wF ?_ ?_; focus (simp only [go_sem]; done)) | (refine wK ?_; try simp only [go_sem]) | (refine wE ?_; try simp only [go_sem]) | refine wX ?_)
    refine A_sub _ (Sb.freezeV 1 rfl rfl (Nat.zero_le _)) ?_
    simp only [go_sem]
    refine wMp [(0, 0), (0, 3), (1, 3)] ?_ mixedO (by kernel_rfl)
    simp only [go_sem]
    repeat (first | refine wS ?_ | refine wB ?_ | (refine wR ?_; simp only [go_sem]) | (refine wT ?_ ?_; focus (simp only [go_sem]; done)) | (refine wF ?_ ?_; focus (simp only [go_sem]; done)) | (refine wK ?_; try simp only [go_sem]) | (refine wE ?_; try simp only [go_sem]) | refine wX ?_)
    refine wMC (c1) ?_
    simp only [go_sem]
    repeat (first | refine wS ?_ | refine wB ?_ | (refine wR ?_; simp only [go_sem]) | (refine wT ?_ ?_; focus (simp only [go_sem]; done)) | (refine wF ?_ ?_; focus (simp only [go_sem]; done)) | (refine wK ?_; try simp only [go_sem]) | (refine wE ?_; try simp only [go_sem]) | refine wX ?_)
    refine wMC (c2) ?_
    simp only [go_sem]
    repeat (first | refine wS ?_ | refine wB ?_ | (refine wR ?_; simp only [go_sem]) | (refine wT ?_ ?_; focus (simp only [go_sem]; done)) | (refine wF ?_ ?_; focus (simp only [go_sem]; done)) | (refine wK ?_; try simp only [go_sem]) | (refine wE ?_; try simp only [go_sem]) | refine wX ?_)
    exact wRet ⟨rfl, rfl⟩
  · rw [if_neg h0]
    have hne : (((splE d n : Nat) : Int) != 0) = true := by simp [h0]
    simp only [go_sem, hne]
    repeat (first | refine wS ?_ | refine wB ?_ | (refine wR ?_; simp only [go_sem]) | (refine wT ?_ ?_; focus (simp only [go_sem]; done)) | (refine wF ?_ ?_; focus (simp only [go_sem]; done)) | (refine wK ?_; try simp only [go_sem]) | (refine wE ?_; try simp only [go_sem]) | refine wX ?_)
    simp only [Thn, InB]
    exact wRet ⟨rfl, rfl⟩ (hle := Le.tup (LeL.cons Le_d0 (LeL.cons Le_d0 (LeL.refl _))))
def atB (wh : List Bool) (i : Nat) : Bool := wh[i]?.getD false
def bD (b : Bool) : List D := [.v (.bool b)]
theorem keep1_c {W0 : World} (wh : List Bool) (i : Nat) : APure Tryd.prog W0 34 [.d (.v (.int .i64 i)), .dp [.rows 1 1 (wh.map bD)]] (· = .ret (.d (.v (.bool (atB wh i))))) := by
  by_cases h : i < wh.length
  · have hlt : decide ((i : Int) < (wh.length : Int)) = true := decide_eq_true (by omega)
    have hx : (wh.map bD)[i]? = some (bD wh[i]) := by rw [List.getElem?_map, List.getElem?_eq_getElem h]; rfl
    have he : atB wh i = wh[i] := by rw [atB, List.getElem?_eq_getElem h]; rfl
    rw [he]
    refine A_body Tryd.func34 rfl (Nat.le_of_ble_eq_true rfl) ?_
    simp only [go_sem, Tryd.ntmps34, Tryd.results34, mkEnv, hlt, hx, bD]
    repeat (first | refine wS ?_ | refine wB ?_ | (refine wR ?_; simp only [go_sem, hlt, hx, bD]) | (refine wT ?_ ?_; focus (simp only [go_sem]; done)) | (refine wF ?_ ?_; focus (simp only [go_sem]; done)) | (refine wK ?_; try simp only [go_sem, hlt, hx, bD]) | (refine wE ?_; try simp only [go_sem, hlt, hx, bD]) | refine wX ?_)
    exact wRq
  · have hlt : decide ((i : Int) < (wh.length : Int)) = false := decide_eq_false (by omega)
    have hx : (wh.map bD)[i]? = none := by rw [List.getElem?_map, List.getElem?_eq_none (by omega)]; rfl
    have he : atB wh i = false := by rw [atB, List.getElem?_eq_none (by omega)]; rfl
    rw [he]
    refine A_body Tryd.func34 rfl (Nat.le_of_ble_eq_true rfl) ?_
    simp only [go_sem, Tryd.ntmps34, Tryd.results34, mkEnv, hlt, hx, bD]
    repeat (first | refine wS ?_ | refine wB ?_ | (refine wR ?_; simp only [go_sem, hlt, hx, bD]) | (refine wT ?_ ?_; focus (simp only [go_sem]; done)) | (refine wF ?_ ?_; focus (simp only [go_sem]; done)) | (refine wK ?_; try simp only [go_sem, hlt, hx, bD]) | (refine wE ?_; try simp only [go_sem, hlt, hx, bD]) | refine wX ?_)
    refine wCGn (.dp [.v (.bool false)]) ?_
    simp only [go_sem, hlt]
    repeat (first | refine wS ?_ | refine wB ?_ | (refine wR ?_; simp only [go_sem]) | (refine wT ?_ ?_; focus (simp only [go_sem]; done)) | (refine wF ?_ ?_; focus (simp only [go_sem]; done)) | (refine wK ?_; try simp only [go_sem]) | (refine wE ?_; try simp only [go_sem]) | refine wX ?_)
    exact wRq
def keepR (d : Da) (wh : List Bool) : Da × Nat := if daE d = 0 then (choD d (atB wh), 0) else (d0, daE d)
theorem Keep_c {W0 : World} (hT : Tabs W0) (d : Da) (hd : okD d) (wh : List Bool) : APure Tryd.prog W0 14 [xa d, .d (.rows 1 1 (wh.map bD))] (· = .ret (.tup [xa (keepR d wh).1, .d (.v (.int .i64 ((keepR d wh).2 : Nat)))])) := by
  have hc := PCheck_c (W0 := W0) hT d hd
  unfold keepR
  refine A_body Tryd.func14 rfl (Nat.le_of_ble_eq_true rfl) ?_
  simp only [go_sem, Tryd.ntmps14, Tryd.results14, mkEnv]
  repeat (first | refine wS ?_ | refine wB ?_ | (refine wR ?_; simp only [go_sem]) | (refine wT ?_ ?_; focus (simp only [go_sem]; done)) | (refine wF ?_ ?_; focus (simp only [go_sem]; done)) | (refine wK ?_; try simp only [go_sem]) | (refine wE ?_; try simp only [go_sem]) | refine wX ?_)
  refine wC (hc) ?_
  simp only [go_sem]
  repeat (first | refine wS ?_ | refine wB ?_ | (refine wR ?_; simp only [go_sem]) | (refine wT ?_ ?_; focus (simp only [go_sem]; done)) | (refine wF ?_ ?_; focus (simp only [go_sem]; done)) | (refine wK ?_; try simp only [go_sem]) | (refine wE ?_; try simp only [go_sem]) | refine wX ?_)
  by_cases h0 : daE d = 0
  · rw [if_pos h0]
    have hn := (daE_ok h0).2.2.1
    have c1 := chosen_c (W0 := W0) d hd hn 34 (by simp only [go_sem]) [.rows 1 1 (wh.map bD)] (atB wh) (fun i _ => keep1_c wh i)
    refine A_sub _ (Sb.freezeV 1 rfl rfl (Nat.zero_le _)) ?_
    simp only [go_sem, h0]
    repeat (first | refine wS ?_ | refine wB ?_ | (refine wR ?_; simp only [go_sem]) | (refine wT ?_ ?_; focus (simp only [go_sem]; done)) | (refine wF ?_ ?_; focus (simp only [go_sem]; done)) | (refine wK ?_; try simp only [go_sem]) | (refine wE ?_; try simp only [go_sem]) | refine wX ?_)
    refine wC (c1) ?_
    simp only [go_sem]
    repeat (first | refine wS ?_ | refine wB ?_ | (refine wR ?_; simp only [go_sem]) | (refine wT ?_ ?_; focus (simp only [go_sem]; done)) | (refine wF ?_ ?_; focus (simp only [go_sem]; done)) | (refine wK ?_; try simp only [go_sem]) | (refine wE ?_; try simp only [go_sem]) | refine wX ?_)
    exact wRet ⟨rfl, rfl⟩
  · rw [if_neg h0]
    have hne : (((daE d : Nat) : Int) != 0) = true := by simp [h0]
    simp only [go_sem, hne]
    repeat (first | refine wS ?_ | refine wB ?_ | (refine wR ?_; simp only [go_sem]) | (refine wT ?_ ?_; focus (simp only [go_sem]; done)) | (refine wF ?_ ?_; focus (simp only [go_sem]; done)) | (refine wK ?_; try simp only [go_sem]) | (refine wE ?_; try simp only [go_sem]) | refine wX ?_)
    simp only [Thn, InB]
    exact wRet ⟨rfl, rfl⟩ (hle := Le.tup (LeL.cons Le_d0 (LeL.refl _)))
end Go.Proofs.YtfbegbpipmgfiaaDoor.Lift
end
section
/- pdata: alike, which group it is. No conditions. -/
set_option linter.unusedVariables false
set_option linter.unusedSimpArgs false
set_option maxHeartbeats 4000000
set_option maxRecDepth 100000
namespace Go.Proofs.YtfbegbpipmgfiaaDoor.Lift
open Go Go.RowKit

/-- A group as it is looked at: whatever its items are. -/
def gaD (g : Gr) : List D := [.rows 8 112 (g.res.map pD), .v (.string g.scope), .v (.string g.ver), .rows 8 112 (g.attrs.map pD), .any]
theorem gaD_len (g : Gr) : (gaD g).length = 5 := rfl
def alikeB (a b : Gr) : Bool := (a.scope.toList == b.scope.toList) && (a.ver.toList == b.ver.toList) && sameP a.res b.res && sameP a.attrs b.attrs
theorem alike_c {W0 : World} (a b : Gr) : APure Tryd.prog W0 58 [ga a, .agg ((gaD b).map .d)] (· = .ret (.d (.v (.bool (alikeB a b))))) := by
  have h1 := samePairs_c (W0 := W0) a.res b.res
  have h2 := samePairs_c (W0 := W0) a.attrs b.attrs
  refine A_body Tryd.func58 rfl (Nat.le_of_ble_eq_true rfl) ?_
  simp only [go_sem, Tryd.ntmps58, Tryd.results58, mkEnv, gaD]
  repeat (first | refine wS ?_ | refine wB ?_ | (refine wR ?_; simp only [go_sem, gaD]) | (refine wT ?_ ?_; focus (simp only [go_sem]; done)) | (refine wF ?_ ?_; focus (simp only [go_sem]; done)) | (refine wK ?_; try simp only [go_sem, gaD]) | (refine wE ?_; try simp only [go_sem, gaD]) | refine wX ?_)
  refine wCG (fun hh => h1) ?_
  simp only [go_sem]
  repeat (first | refine wS ?_ | refine wB ?_ | (refine wR ?_; simp only [go_sem]) | (refine wT ?_ ?_; focus (simp only [go_sem]; done)) | (refine wF ?_ ?_; focus (simp only [go_sem]; done)) | (refine wK ?_; try simp only [go_sem]) | (refine wE ?_; try simp only [go_sem]) | refine wX ?_)
  refine wCG (fun hh => h2) ?_
  simp only [go_sem]
  repeat (first | refine wS ?_ | refine wB ?_ | (refine wR ?_; simp only [go_sem]) | (refine wT ?_ ?_; focus (simp only [go_sem]; done)) | (refine wF ?_ ?_; focus (simp only [go_sem]; done)) | (refine wK ?_; try simp only [go_sem]) | (refine wE ?_; try simp only [go_sem]) | refine wX ?_)
  exact wRq
theorem put1_c {W0 : World} (a b : Gr) : APure Tryd.prog W0 57 [.agg ((gaD b).map .d), .dp (grD a)] (· = .ret (.d (.v (.bool (alikeB a b))))) := by
  have h1 := alike_c (W0 := W0) a b
  simp only [gaD] at h1
  refine A_body Tryd.func57 rfl (Nat.le_of_ble_eq_true rfl) ?_
  simp only [go_sem, Tryd.ntmps57, Tryd.results57, mkEnv, gaD]
  repeat (first | refine wS ?_ | refine wB ?_ | (refine wR ?_; simp only [go_sem, gaD]) | (refine wT ?_ ?_; focus (simp only [go_sem]; done)) | (refine wF ?_ ?_; focus (simp only [go_sem]; done)) | (refine wK ?_; try simp only [go_sem, gaD]) | (refine wE ?_; try simp only [go_sem, gaD]) | refine wX ?_)
  refine wC (h1) ?_
  simp only [go_sem]
  repeat (first | refine wS ?_ | refine wB ?_ | (refine wR ?_; simp only [go_sem]) | (refine wT ?_ ?_; focus (simp only [go_sem]; done)) | (refine wF ?_ ?_; focus (simp only [go_sem]; done)) | (refine wK ?_; try simp only [go_sem]) | (refine wE ?_; try simp only [go_sem]) | refine wX ?_)
  exact wRq
theorem ixg_c {W0 : World} (a : Gr) (l : List Gr) (hl : l.length * 104 ≤ 140737488355328) : APure Tryd.prog W0 56 [.d (.rows 5 104 (l.map gaD)), .fn 57 [.dp (grD a)]] (· = .ret (.d (.v (.int .i64 (fN (fI (alikeB a) l)))))) := by
  refine A_body Tryd.func56 rfl (Nat.le_of_ble_eq_true rfl) ?_
  simp only [go_sem, Tryd.ntmps56, Tryd.results56, mkEnv]
  repeat (first | refine wS ?_ | refine wB ?_ | (refine wR ?_; simp only [go_sem]) | (refine wT ?_ ?_; focus (simp only [go_sem]; done)) | (refine wF ?_ ?_; focus (simp only [go_sem]; done)) | (refine wK ?_; try simp only [go_sem]) | (refine wE ?_; try simp only [go_sem]) | refine wX ?_)
  refine wL (fun i => ⟨19, ofL [(0, .d (.rows 5 104 (l.map gaD))), (1, .fn 57 [.dp (grD a)]), (6, .d (.rows 5 104 (l.map gaD))), (7, .d (.v (.int .i64 l.length))), (8, .d (.v (.int .i64 i)))], []⟩) (l.length) (fun i => (l.take i).any (alikeB a) = false) wSb (rfl) ?_
  intro i hi hinv R hR
  simp only [go_sem]
  repeat (first | refine wS ?_ | refine wB ?_ | (refine wR ?_; simp only [go_sem]) | (refine wT ?_ ?_; focus (simp only [go_sem]; done)) | (refine wF ?_ ?_; focus (simp only [go_sem]; done)) | (refine wK ?_; try simp only [go_sem]) | (refine wE ?_; try simp only [go_sem]) | refine wX ?_)
  refine wI (fun h => ?_) (fun h => ?_)
  · have hlt : i < l.length := by simpa using h
    have hlt2 : ((i : Int) < ((l.length : Nat) : Int)) = True := eq_true (by omega)
    have hw := wrap_succ (i := i) (by omega)
    have hx : (l.map gaD)[i]? = some (gaD l[i]) := by rw [List.getElem?_map, List.getElem?_eq_getElem hlt]; rfl
    have hxi : l[i]? = some l[i] := List.getElem?_eq_getElem hlt
    have htk : (l.take (i + 1)).any (alikeB a) = alikeB a l[i] := by rw [List.take_add_one, hxi, List.any_append, hinv]; simp
    have hc := put1_c (W0 := W0) a l[i]
    have hhit := fI_hit hinv hxi
    generalize l[i] = b at hx htk hc hhit
    simp only [gaD] at hc
    repeat (first | refine wS ?_ | refine wB ?_ | (refine wR ?_; simp only [go_sem, hx, gaD]) | (refine wT ?_ ?_; focus (simp only [go_sem]; done)) | (refine wF ?_ ?_; focus (simp only [go_sem]; done)) | (refine wK ?_; try simp only [go_sem, hx, gaD]) | (refine wE ?_; try simp only [go_sem, hx, gaD]) | refine wX ?_)
    refine wC (hc) ?_
    simp only [go_sem, hx, gaD]
    repeat (first | refine wS ?_ | refine wB ?_ | (refine wR ?_; simp only [go_sem, hx, gaD]) | (refine wT ?_ ?_; focus (simp only [go_sem]; done)) | (refine wF ?_ ?_; focus (simp only [go_sem]; done)) | (refine wK ?_; try simp only [go_sem, hx, gaD]) | (refine wE ?_; try simp only [go_sem, hx, gaD]) | refine wX ?_)
    cases hb : alikeB a b with
    | true =>
      rw [hhit hb]
      repeat (first | refine wS ?_ | refine wB ?_ | (refine wR ?_; simp only [go_sem]) | (refine wT ?_ ?_; focus (simp only [go_sem]; done)) | (refine wF ?_ ?_; focus (simp only [go_sem]; done)) | (refine wK ?_; try simp only [go_sem]) | (refine wE ?_; try simp only [go_sem]) | refine wX ?_)
      exact wRq
    | false =>
      repeat (first | refine wS ?_ | refine wB ?_ | (refine wR ?_; simp only [go_sem, hw]) | (refine wT ?_ ?_; focus (simp only [go_sem]; done)) | (refine wF ?_ ?_; focus (simp only [go_sem]; done)) | (refine wK ?_; try simp only [go_sem, hw]) | (refine wE ?_; try simp only [go_sem, hw]) | refine wX ?_)
      exact hR hlt (htk.trans hb) _ wSb
  · obtain rfl : i = l.length := by simp at h; omega
    rw [List.take_length] at hinv
    have he : fI (alikeB a) l = none := fI_none hinv
    rw [he]
    repeat (first | refine wS ?_ | refine wB ?_ | (refine wR ?_; simp only [go_sem]) | (refine wT ?_ ?_; focus (simp only [go_sem]; done)) | (refine wF ?_ ?_; focus (simp only [go_sem]; done)) | (refine wK ?_; try simp only [go_sem]) | (refine wE ?_; try simp only [go_sem]) | refine wX ?_)
    exact wRq
end Go.Proofs.YtfbegbpipmgfiaaDoor.Lift
end
section
/- pdata: put: a group is put to others. No conditions but that there are no more than may be. -/
set_option linter.unusedVariables false
set_option linter.unusedSimpArgs false
set_option maxHeartbeats 4000000
set_option maxRecDepth 100000
namespace Go.Proofs.YtfbegbpipmgfiaaDoor.Lift
open Go Go.RowKit

def addAt (out : List Gr) (i : Nat) (xs : List It) : List Gr := match out[i]? with
  | some g => out.set i { g with items := g.items ++ xs }
  | none => out
theorem addAt_some {out : List Gr} {i : Nat} {g : Gr} {xs : List It} (h : out[i]? = some g) : addAt out i xs = out.set i { g with items := g.items ++ xs } := by simp only [addAt, h]
theorem addAt_len (out : List Gr) (i : Nat) (xs : List It) : (addAt out i xs).length = out.length := by
  unfold addAt
  split
  · rw [List.length_set]
  · rfl
theorem addAt_nil {out : List Gr} {i : Nat} : addAt out i [] = out := by
  unfold addAt
  split
  · rename_i g hg
    rw [List.append_nil]
    exact set_same hg
  · rfl
theorem addAt_snoc {out : List Gr} {i : Nat} {xs : List It} {x : It} {g : Gr} (h : (addAt out i xs)[i]? = some g) : addAt out i (xs ++ [x]) = (addAt out i xs).set i (addI g x) := by
  unfold addAt at h ⊢
  split at h
  · rename_i g0 h0
    have hlt := (List.getElem?_eq_some_iff.1 h0).1
    rw [List.getElem?_set_self hlt] at h
    cases h
    simp only [List.set_set, addI, List.append_assoc]
  · rename_i h0
    rw [h0] at h
    cases h
def findG (out : List Gr) (g : Gr) (apart : Bool) : Option Nat := if apart then none else fI (alikeB g) out
def putG (out : List Gr) (g : Gr) (apart : Bool) : List Gr := match findG out g apart with
  | some i => addAt out i (g.items.map ownedI)
  | none => addAt (out ++ [ownedG g]) out.length (g.items.map ownedI)
/-- Groups of one's own, and places for the items of more. -/
def gbS (K : Nat) (out : List Gr) : List Box := .own 5 104 (grC 1 out) :: slots K out
theorem gbS_len {K : Nat} {out : List Gr} (h : out.length ≤ K) : (gbS K out).length = K + 1 := by simp [gbS, slots_len h]
theorem grC_view : ∀ {b : Nat} {gs : List Gr} {i : Nat} {x : AV} {d : D}, (grC b gs)[i]? = some x → (gs.map gaD).flatten[i]? = some d → x = .d d ∨ d = .any ∧ x.one = true
  | b, [], i, x, d, h, _ => by simp [grC] at h
  | b, g :: gs, i, x, d, h, h' => by
    have e1 : grC b (g :: gs) = ((ghD g).map .d ++ [.sl b 34 0 g.items.length]) ++ grC (b + 1) gs := by simp [grC]
    have e2 : ((g :: gs).map gaD).flatten = gaD g ++ (gs.map gaD).flatten := by simp
    rw [e1] at h
    rw [e2] at h'
    by_cases hi : i < 5
    · rw [List.getElem?_append_left (by simp [ghD]; omega)] at h
      rw [List.getElem?_append_left (by rw [gaD_len]; omega)] at h'
      match i, hi with
      | 0, _ => simp [ghD, gaD] at h h'; left; rw [← h, ← h']
      | 1, _ => simp [ghD, gaD] at h h'; left; rw [← h, ← h']
      | 2, _ => simp [ghD, gaD] at h h'; left; rw [← h, ← h']
      | 3, _ => simp [ghD, gaD] at h h'; left; rw [← h, ← h']
      | 4, _ =>
        simp [ghD, gaD] at h h'
        exact .inr ⟨h'.symm, by rw [← h]; rfl⟩
    · rw [List.getElem?_append_right (by simp [ghD]; omega)] at h
      rw [List.getElem?_append_right (by rw [gaD_len]; omega)] at h'
      have hl : ((ghD g).map AV.d ++ [AV.sl b 34 0 g.items.length]).length = 5 := by simp [ghD]
      rw [hl] at h
      rw [gaD_len] at h'
      exact grC_view h h'
theorem gbS_below {K : Nat} {out : List Gr} (h : out.length ≤ K) : (gbS K out).all (boxBelow (K + 1)) = true := by
  simp only [gbS, List.all_cons, boxBelow, Bool.and_eq_true]
  exact ⟨grC_names fun i hi => decide_eq_true (by omega), slots_all _ fun _ => rfl⟩
theorem fvL_app (b : Nat) (ds : List D) : ∀ l l' : List AV, fvL b ds (l ++ l') = fvL b ds l ++ fvL b ds l'
  | [], _ => rfl
  | x :: l, l' => by simp only [List.cons_append, fvL, fvL_app b ds l l']
theorem grC_fv {c : Nat} {ds : List D} : ∀ {b : Nat} {gs : List Gr}, (∀ i, i < gs.length → b + i ≠ c) → fvL c ds (grC b gs) = grC b gs
  | b, [], _ => rfl
  | b, g :: gs, h => by
    simp only [grC, fvL_app, fvL_ds, fvL, fvA]
    rw [if_neg (by simpa using h 0 (by simp)), grC_fv fun i hi => by have := h (i + 1) (by simpa using hi); omega]
theorem put_sb {W0 : World} {K i : Nat} {o1 : List Gr} {g : Gr} {st : St} {X : List Box} (h : o1.length ≤ K) (hbs : st.bs = gbS K o1 ++ X) (he : eSub st.env [(0, .sl 0 5 0 o1.length), (4, .dp (grD g)), (7, .d (.v (.int .i64 (i : Nat))))]) (hN : 47 = st.N) :
    Sb W0 (K + 1) st ⟨47, ofL [(0, .sl 0 5 0 o1.length), (4, .dp (grD g)), (7, .d (.v (.int .i64 (i : Nat))))], gbS K o1⟩ := by
  have hl := gbS_len h
  exact SbP (X := X) hbs hN he (by rw [hl]; exact Nat.le_refl _) (by simp [envBelow, AV.names, hl]) (by rw [hl]; exact gbS_below h)
theorem loop_sb {W0 : World} {K i j ol : Nat} {o1 : List Gr} {l : List It} {st : St} {X : List Box} (h : o1.length ≤ K) (hbs : st.bs = gbS K o1 ++ X) (he : eSub st.env [(0, .sl 0 5 0 ol), (7, .d (.v (.int .i64 (i : Nat)))), (26, rI l), (27, .d (.v (.int .i64 l.length))), (28, .d (.v (.int .i64 (j : Nat))))]) (hN : 47 = st.N) :
    Sb W0 (K + 1) st ⟨47, ofL [(0, .sl 0 5 0 ol), (7, .d (.v (.int .i64 (i : Nat)))), (26, rI l), (27, .d (.v (.int .i64 l.length))), (28, .d (.v (.int .i64 (j : Nat))))], gbS K o1⟩ := by
  have hl := gbS_len h
  exact SbP (X := X) hbs hN he (by rw [hl]; exact Nat.le_refl _) (by simp [envBelow, AV.names, hl, rI]) (by rw [hl]; exact gbS_below h)
theorem put_push {W0 : World} {K : Nat} {out : List Gr} {g og : Gr} {st : St} {X : List Box} (h : out.length < K) (hg : og.items = [])
    (hbs : st.bs = .own 5 104 (grC 1 out ++ [.d (.rows 8 112 (og.res.map pD)), .d (.v (.string og.scope)), .d (.v (.string og.ver)), .d (.rows 8 112 (og.attrs.map pD)), .d .e]) :: (slots K out ++ X))
    (he : eSub st.env [(0, .sl 0 5 0 (out.length + 1)), (4, .dp (grD g)), (7, .d (.v (.int .i64 (out.length : Nat))))]) (hN : 47 = st.N) :
    Sb W0 (K + 1) st ⟨47, ofL [(0, .sl 0 5 0 (out ++ [og]).length), (4, .dp (grD g)), (7, .d (.v (.int .i64 (out.length : Nat))))], gbS K (out ++ [og])⟩ := by
  have hsl := slots_len (Nat.le_of_lt h)
  have hgl := grC_len 1 out
  rw [show (out ++ [og]).length = out.length + 1 by simp]
  have A := SbP (W0 := W0) (n := K + 1) (st := st) (S := .own 5 104 (grC 1 out ++ [.d (.rows 8 112 (og.res.map pD)), .d (.v (.string og.scope)), .d (.v (.string og.ver)), .d (.rows 8 112 (og.attrs.map pD)), .d .e]) :: slots K out) (X := X) (by rw [hbs]; rfl) hN he (by simp [hsl]) (by simp [envBelow, AV.names, hsl]) (by
    simp only [List.all_cons, boxBelow, namesAll, AV.names, Bool.and_true, Bool.and_eq_true, List.length_cons, hsl, names_app]
    exact ⟨grC_names fun q hq => decide_eq_true (by omega), slots_all _ fun _ => rfl⟩)
  refine A.trans (Sb.trans (Sb.reopen (b := out.length + 1) (g := 0) (j := out.length * 5 + 4) (sz := 34) (bt := 416) (sz0 := 34) (bt0 := 416) (l0 := []) ?_ rfl ?_ ?_ ?_ (by decide) (by decide)) ?_)
  · simp only [List.getElem?_cons_succ]
    exact slots_free h
  · rw [List.getElem?_append_right (by omega), hgl, show out.length * 5 + 4 - out.length * 5 = 4 by omega]
    rfl
  · simp [envNo, ofL, putE, put2, put1, AV.names]
  · simp only [List.all_cons, boxNo, namesAll, AV.names, Bool.and_true, Bool.and_eq_true, names_app]
    exact ⟨grC_names fun q hq => by simp; omega, slots_all _ fun _ => rfl⟩
  · have e1 : (grC 1 out ++ [.d (.rows 8 112 (og.res.map pD)), .d (.v (.string og.scope)), .d (.v (.string og.ver)), .d (.rows 8 112 (og.attrs.map pD)), AV.d .e]).set (out.length * 5 + 4) (.sl (out.length + 1) 34 0 0) = grC 1 (out ++ [og]) := by
      rw [List.set_append_right _ _ (by omega), hgl, show out.length * 5 + 4 - out.length * 5 = 4 by omega, grC_app, hg, Nat.add_comm 1]
      rfl
    have e2 : (slots K out).set out.length (.vec 34 416 []) = slots K out := set_same (slots_free h)
    simp only [List.set_cons_succ, List.set_cons_zero, e1, e2, gbS, slots_push h hg]
    exact Sb.refl _
theorem pput_c {W0 : World} {K : Nat} (out : List Gr) (g : Gr) (apart : Bool) (hK : out.length < K) (hK2 : K ≤ 4096) (hl : ∀ h ∈ out, h.items.length ≤ 4096) (hg : g.items.length ≤ 4096) :
    ACalls Tryd.prog W0 38 [.sl 0 5 0 out.length, ga g, .d (.v (.bool apart))] (gbS K out) (fun r L' => r = .ret (.sl 0 5 0 (putG out g apart).length) ∧ L' = gbS K (putG out g apart)) := by
  have hix := ixg_c (W0 := W0) g out (by omega)
  refine A_body Tryd.func38 rfl (Nat.le_of_ble_eq_true rfl) ?_
  simp only [go_sem, Tryd.ntmps38, Tryd.results38, mkEnv]
  have hle := Nat.le_of_lt hK
  rw [gbS_len hle]
  have hsl := slots_len hle
  have hap : ∀ X : List Box, (slots K out ++ X)[K]? = X[0]? := fun X => by
    have h1 := ap0 (slots K out) X
    rwa [hsl] at h1
  have hst : ∀ (X : List Box) (v : Box), (slots K out ++ X).set K v = slots K out ++ X.set 0 v := fun X v => by
    have h1 := st0 (slots K out) X v
    rwa [hsl] at h1
  have hfg : ∀ ds, fvL (K + 1) ds (grC 1 out) = grC 1 out := fun ds => grC_fv fun i hi => by omega
  have hfs : ∀ ds, (slots K out).map (fvB (K + 1) ds) = slots K out := fun ds => slots_map _ fun _ => rfl
  have q0 : (0 = K + 1) = False := eq_false (by omega)
  simp only [gbS]
  refine wS ?_
  refine wR ?_
  simp only [go_sem, hsl, hap, hst]
  refine A_sub _ (Sb.freezeV (K + 1) (cs := (grD g).map .d) (ds := grD g) ?fb (toDs_map _) (Nat.le_refl _)) ?_
  case fb =>
    simp only [List.getElem?_cons_succ, hap]
    rfl
  simp only [go_sem, q0, hfg, hfs, hst, List.map_append]
  repeat (first | refine wS ?_ | refine wB ?_ | (refine wR ?_; simp only [go_sem]) | (refine wT ?_ ?_; focus (simp only [go_sem]; done)) | (refine wF ?_ ?_; focus (simp only [go_sem]; done)) | (refine wK ?_; try simp only [go_sem]) | (refine wE ?_; try simp only [go_sem]) | refine wX ?_)
  refine wLO (sz := 5) (bt := 104) (cs := grC 1 out) 0 (out.map gaD) hix ?_ (hrow := ?hrow) (hlen := by rw [grC_len, List.length_map]) (hv := fun i x d => grC_view) (hz := ?hz)
  case hrow => intro row hr; obtain ⟨h, _, rfl⟩ := List.mem_map.1 hr; rfl
  case hz =>
    simp only [List.append_nil, List.cons_append, List.nil_append, fzL, fzA, List.length_map, Nat.zero_add, Nat.le_refl, and_self, if_true, List.drop_zero, take_map]
    rfl
  simp only [go_sem]
  refine wS ?_
  refine ACode.mono (Q := fun ax st' => ax = .normal ∧ ∃ (o1 : List Gr) (i : Nat) (g1 : Gr), o1[i]? = some g1 ∧ o1.length ≤ K ∧ putG out g apart = addAt o1 i (g.items.map ownedI) ∧ (∀ h ∈ o1, h.items.length ≤ 4096) ∧ Sb W0 (K + 1) st' ⟨47, ofL [(0, .sl 0 5 0 o1.length), (4, .dp (grD g)), (7, .d (.v (.int .i64 (i : Nat))))], gbS K o1⟩) ?part1 ?part2
  case part1 =>
    cases hr : findG out g apart with
    | some i =>
      have hap : apart = false := by
        cases apart with
        | true => simp [findG] at hr
        | false => rfl
      subst hap
      have hfi : fI (alikeB g) out = some i := by simpa [findG] using hr
      obtain ⟨g1, hg1, _⟩ := fI_some hfi
      have hlt : decide ((i : Int) < 0) = false := decide_eq_false (by omega)
      repeat (first | refine wS ?_ | refine wB ?_ | (refine wR ?_; simp only [go_sem, hfi, fN, hlt]) | (refine wT ?_ ?_; focus (simp only [go_sem]; done)) | (refine wF ?_ ?_; focus (simp only [go_sem]; done)) | (refine wK ?_; try simp only [go_sem, hfi, fN, hlt]) | (refine wE ?_; try simp only [go_sem, hfi, fN, hlt]) | refine wX ?_)
      exact ⟨out, i, g1, hg1, hle, by simp only [putG, hr], hl, put_sb (X := [_]) hle rfl (by repeat (first | exact eSub_nil _ | refine eSub_cons rfl ?_)) rfl⟩
    | none =>
      have hor : (decide (fN (fI (alikeB g) out) < 0) || apart) = true := by
        cases apart with
        | true => simp
        | false =>
          have : fI (alikeB g) out = none := by simpa [findG] using hr
          rw [this]
          rfl
      have hog := ownGroupE_c (W0 := W0) g
      simp only [ghD, List.cons_append, List.nil_append, List.map_cons, List.map_nil] at hog
      have hap2 : ∀ X : List Box, (slots K out ++ X)[K + 1]? = X[1]? := fun X => by
        have h1 := apk (slots K out) X 1
        rwa [hsl] at h1
      have hkg : killL 0 (grC 1 out) = grC 1 out := grC_kill fun i _ => by omega
      have hks : (slots K out).map (killB 0) = slots K out := slots_map _ fun _ => rfl
      repeat (first | refine wS ?_ | refine wB ?_ | (refine wR ?_; simp only [go_sem, hor]) | (refine wT ?_ ?_; focus (simp only [go_sem]; done)) | (refine wF ?_ ?_; focus (simp only [go_sem]; done)) | (refine wK ?_; try simp only [go_sem, hor]) | (refine wE ?_; try simp only [go_sem, hor]) | refine wX ?_)
      refine wC (hog) ?_
      simp only [go_sem, hsl, hap, hst]
      repeat (first | refine wS ?_ | refine wB ?_ | (refine wR ?_; simp only [go_sem, hsl, hap, hst]) | (refine wT ?_ ?_; focus (simp only [go_sem]; done)) | (refine wF ?_ ?_; focus (simp only [go_sem]; done)) | (refine wK ?_; try simp only [go_sem, hsl, hap, hst]) | (refine wE ?_; try simp only [go_sem, hsl, hap, hst]) | refine wX ?_)
      simp only [go_sem, hsl, List.length_append]
      refine wAO (sz := 5) (bt := 104) (b := 0) (grC 1 out) [ghD (ownedG g) ++ [D.e]] ?_ (hk := grC_len 1 out) (hX := ?hX) (hbound := ?hbd)
      case hX => simp only [apR, List.cons_append, List.append_assoc, List.nil_append, List.getElem?_cons_succ, hap2]; rfl
      case hbd => simp; omega
      simp only [go_sem, hkg, hks, ghD, List.flatten_cons, List.flatten_nil, List.map_append, List.append_assoc]
      have hgl : (ownedG g).items = [] := rfl
      refine ⟨out ++ [ownedG g], out.length, ownedG g, by simp, by simp; omega, by simp only [putG, hr], fun y hy => ?_, ?_⟩
      · rcases List.mem_append.1 hy with hy | hy
        · exact hl y hy
        · rw [List.mem_singleton.1 hy, hgl]
          exact Nat.zero_le _
      · exact put_push (X := [_, _]) hK hgl rfl (by repeat (first | exact eSub_nil _ | refine eSub_cons rfl ?_)) rfl
  case part2 =>
    rintro ax st' ⟨rfl, o1, i, g1, hg1, hle1, hput, hl1, hsb⟩
    refine A_sub _ hsb ?_
    rw [hput, addAt_len]
    have hlt1 := (List.getElem?_eq_some_iff.1 hg1).1
    have hsl1 := slots_len hle1
    simp only [gbS]
    repeat (first | refine wS ?_ | refine wB ?_ | (refine wR ?_; simp only [go_sem]) | (refine wT ?_ ?_; focus (simp only [go_sem]; done)) | (refine wF ?_ ?_; focus (simp only [go_sem]; done)) | (refine wK ?_; try simp only [go_sem]) | (refine wE ?_; try simp only [go_sem]) | refine wX ?_)
    refine wL (fun j => ⟨47, ofL [(0, .sl 0 5 0 o1.length), (7, .d (.v (.int .i64 (i : Nat)))), (26, rI g.items), (27, .d (.v (.int .i64 g.items.length))), (28, .d (.v (.int .i64 (j : Nat))))], gbS K (addAt o1 i ((g.items.take j).map ownedI))⟩) g.items.length (fun _ => True) ?h0 trivial ?round
    case h0 =>
      rw [List.take_zero, List.map_nil, addAt_nil]
      exact loop_sb (X := []) hle1 (by rw [List.append_nil]; rfl) (by repeat (first | exact eSub_nil _ | refine eSub_cons rfl ?_)) rfl
    case round =>
      intro j hi _ R hR
      obtain ⟨oj, hoj⟩ : ∃ oj, oj = addAt o1 i ((g.items.take j).map ownedI) := ⟨_, rfl⟩
      have hojl : oj.length = o1.length := by rw [hoj, addAt_len]
      have hgj : oj[i]? = some { g1 with items := g1.items ++ (g.items.take j).map ownedI } := by rw [hoj, addAt_some hg1, List.getElem?_set_self hlt1]
      have hgjl : (g1.items ++ (g.items.take j).map ownedI).length ≤ 8192 := by
        have h1 := hl1 g1 (List.mem_of_getElem? hg1)
        simp
        omega
      obtain ⟨gj, hgj2⟩ : ∃ gj : Gr, gj = { g1 with items := g1.items ++ (g.items.take j).map ownedI } := ⟨_, rfl⟩
      rw [← hgj2] at hgj
      have hgjl2 : gj.items.length ≤ 8192 := by rw [hgj2]; exact hgjl
      have hsnoc := fun (x : It) => addAt_snoc (xs := (g.items.take j).map ownedI) (x := ownedI x) (by rw [← hoj]; exact hgj)
      rw [← hoj] at hsnoc ⊢
      have hslj := slots_len (K := K) (gs := oj) (by omega)
      simp only [gbS]
      repeat (first | refine wS ?_ | refine wB ?_ | (refine wR ?_; simp only [go_sem]) | (refine wT ?_ ?_; focus (simp only [go_sem]; done)) | (refine wF ?_ ?_; focus (simp only [go_sem]; done)) | (refine wK ?_; try simp only [go_sem]) | (refine wE ?_; try simp only [go_sem]) | refine wX ?_)
      refine wI (fun h => ?_) (fun h => ?_)
      · have hlt : j < g.items.length := by simpa using h
        have hlt2 : ((j : Int) < ((g.items.length : Nat) : Int)) = True := eq_true (by omega)
        have hw := wrap_succ (i := j) (by omega)
        have hx : (g.items.map itD)[j]? = some (itD g.items[j]) := by rw [List.getElem?_map, List.getElem?_eq_getElem hlt]; rfl
        have htk : (g.items.take (j + 1)).map ownedI = (g.items.take j).map ownedI ++ [ownedI g.items[j]] := by rw [List.take_add_one, List.getElem?_eq_getElem hlt, List.map_append]; rfl
        have hnext := hsnoc g.items[j]
        rw [← htk] at hnext
        generalize g.items[j] = x at hx hnext
        have hap1 : ∀ X : List Box, (slots K oj ++ X)[K]? = X[0]? := fun X => by
          have h1 := ap0 (slots K oj) X
          rwa [hslj] at h1
        have hst1 : ∀ (X : List Box) (v : Box), (slots K oj ++ X).set K v = slots K oj ++ X.set 0 v := fun X v => by
          have h1 := st0 (slots K oj) X v
          rwa [hslj] at h1
        have hlt3 : ((i : Int) < ((o1.length : Nat) : Int)) = True := eq_true (by omega)
        have hcl : (i * 5 + 5 ≤ (grC 1 oj).length) = True := eq_true (by rw [grC_len, hojl]; omega)
        have hkl : (i * 5 + 5 ≤ (killL (i + 1) (grC 1 oj)).length) = True := eq_true (by rw [killL_len, grC_len, hojl]; omega)
        have hat : ((grC 1 oj).drop (i * 5)).take 5 = [.d (.rows 8 112 (gj.res.map pD)), .d (.v (.string gj.scope)), .d (.v (.string gj.ver)), .d (.rows 8 112 (gj.attrs.map pD)), .sl (i + 1) 34 0 gj.items.length] := by rw [grC_at hgj, Nat.add_comm 1]; rfl
        have hbx : ∀ (a : Box) (X : List Box), (a :: (slots K oj ++ X))[i + 1]? = some (.vec 34 416 (gj.items.map itD)) := fun a X => by
          simp only [List.getElem?_cons_succ]
          rw [List.getElem?_append_left (by rw [hslj]; omega)]
          exact slots_at hgj
        have hks : (slots K oj).map (killB (i + 1)) = slots K oj := slots_map _ fun _ => rfl
        obtain ⟨row, hrow⟩ : ∃ row, row = itD (ownedI x) := ⟨_, rfl⟩
        have hset : ∀ X : List Box, (slots K oj ++ X).set i (.vec 34 416 (gj.items.map itD ++ [row])) = slots K (oj.set i (addI gj (ownedI x))) ++ X := fun X => by
          rw [List.set_append_left _ _ (by rw [hslj]; omega), ← slots_set (by omega), hrow]
          simp [itB, addI]
        have hov2 : over (killL (i + 1) (grC 1 oj)) (i * 5 + 4) [.sl (i + 1) 34 0 (gj.items.length + 1)] = grC 1 (oj.set i (addI gj (ownedI x))) := by
          have h1 := grC_over (b := 1) (g' := addI gj (ownedI x)) hgj rfl
          rw [Nat.add_comm 1] at h1
          rw [← h1]
          simp [addI]
        simp only [over, List.length_cons, List.length_nil, Nat.zero_add] at hov2
        have q0 : (0 = i + 1) = False := eq_false (by omega)
        have qK : (K = i) = False := eq_false (by omega)
        have hoi := ownItem_c (W0 := W0) x
        repeat (first | refine wS ?_ | refine wB ?_ | (refine wR ?_; simp only [go_sem, hx, itD, hslj, hap1, hst1, List.length_append]) | (refine wT ?_ ?_; focus (simp only [go_sem]; done)) | (refine wF ?_ ?_; focus (simp only [go_sem]; done)) | (refine wK ?_; try simp only [go_sem, hx, itD, hslj, hap1, hst1, List.length_append]) | (refine wE ?_; try simp only [go_sem, hx, itD, hslj, hap1, hst1, List.length_append]) | refine wX ?_)
        refine wDI [2, 3, 4, 5, 6, 7, 8, 9] [0, 1] ?_ mixedO (by kernel_rfl)
        simp only [go_sem, hap1, hcl, hat, hlt3]
        repeat (first | refine wS ?_ | refine wB ?_ | (refine wR ?_; simp only [go_sem, hap1, hcl, hat, hlt3]) | (refine wT ?_ ?_; focus (simp only [go_sem]; done)) | (refine wF ?_ ?_; focus (simp only [go_sem]; done)) | (refine wK ?_; try simp only [go_sem, hap1, hcl, hat, hlt3]) | (refine wE ?_; try simp only [go_sem, hap1, hcl, hat, hlt3]) | refine wX ?_)
        refine wQC (hoi) ?_
        simp only [go_sem, hap1, hcl, hat, hlt3]
        repeat (first | refine wS ?_ | refine wB ?_ | (refine wR ?_; simp only [go_sem, hap1, hcl, hat, hlt3]) | (refine wT ?_ ?_; focus (simp only [go_sem]; done)) | (refine wF ?_ ?_; focus (simp only [go_sem]; done)) | (refine wK ?_; try simp only [go_sem, hap1, hcl, hat, hlt3]) | (refine wE ?_; try simp only [go_sem, hap1, hcl, hat, hlt3]) | refine wX ?_)
        repeat' (first | (refine wDc 0 1 10 ?_ ?_ ?_ (by decide +kernel)) | (refine wDb 0 1 ?_ ?_ (by decide +kernel)) | (refine wDa 0 ?_ (by decide +kernel)) | (refine wDa 1 ?_ (by decide +kernel)) | (refine wDb 0 10 ?_ ?_ (by decide +kernel)) | (refine wDa 10 ?_ (by decide +kernel)) | (refine wDb 1 10 ?_ ?_ (by decide +kernel)) | (refine sQ ?_) | (refine sT ?_) | (refine wA (b := i + 1) (gj.items.map itD) [row] (hb := hbx _ _) (hX := by rw [hrow]; rfl) (hbound := by simp; omega) (hk := by simp) ?_) | (simp only [go_sem, hap1, hcl, hat, hkl, hov2, hset, hks, List.map_append, q0, qK, hlt3, List.length_append, List.getElem_toArray, List.getElem_cons_succ, List.getElem_cons_zero, List.getElem_toArray, List.getElem_cons_succ, List.getElem_cons_zero]; (try simp only [TQ, true_and])))
        all_goals
          refine wD1 11 ?_ (by kernel_rfl)
          simp only [go_sem, hap1, hcl, hat, hkl, hov2, hset, hks, List.map_append, q0, qK, hlt3, List.length_append, List.getElem_toArray, List.getElem_cons_succ, List.getElem_cons_zero]
          try simp only [TQ, true_and]
          refine wD1 12 ?_ (by kernel_rfl)
          simp only [go_sem, hap1, hcl, hat, hkl, hov2, hset, hks, List.map_append, q0, qK, hlt3, List.length_append, List.getElem_toArray, List.getElem_cons_succ, List.getElem_cons_zero]
          try simp only [TQ, true_and]
          refine wD1 13 ?_ (by kernel_rfl)
          simp only [go_sem, hap1, hcl, hat, hkl, hov2, hset, hks, List.map_append, q0, qK, hlt3, List.length_append, List.getElem_toArray, List.getElem_cons_succ, List.getElem_cons_zero]
          try simp only [TQ, true_and]
          refine wD0 ?_ (by kernel_rfl)
          try simp only [go_sem, hw, hap1, List.length_append]
          repeat (first | refine wS ?_ | refine wB ?_ | (refine wR ?_; simp only [go_sem, hw, hap1, List.length_append]) | (refine wT ?_ ?_; focus (simp only [go_sem]; done)) | (refine wF ?_ ?_; focus (simp only [go_sem]; done)) | (refine wK ?_; try simp only [go_sem, hw, hap1, List.length_append]) | (refine wE ?_; try simp only [go_sem, hw, hap1, List.length_append]) | refine wX ?_)
          refine hR hlt trivial _ ?_
          rw [hnext]
          exact loop_sb (X := [_]) (by rw [List.length_set]; omega) rfl (by repeat (first | exact eSub_nil _ | refine eSub_cons rfl ?_)) rfl
      · obtain rfl : j = g.items.length := by simp at h; omega
        rw [List.take_length] at hoj
        rw [← hoj]
        repeat (first | refine wS ?_ | refine wB ?_ | (refine wR ?_; simp only [go_sem]) | (refine wT ?_ ?_; focus (simp only [go_sem]; done)) | (refine wF ?_ ?_; focus (simp only [go_sem]; done)) | (refine wK ?_; try simp only [go_sem]) | (refine wE ?_; try simp only [go_sem]) | refine wX ?_)
        have hgl2 := gbS_len (K := K) (out := oj) (by omega)
        exact wRetB (x' := .sl 0 5 0 o1.length) (gbS K oj) ⟨rfl, rfl⟩ (hb := ⟨[], by rw [List.append_nil]; rfl⟩) (hl := by rw [hgl2]; exact Nat.le_refl _) (h1 := by simp [AV.names, hgl2]) (h2 := by rw [hgl2]; exact gbS_below (by omega))
end Go.Proofs.YtfbegbpipmgfiaaDoor.Lift
end
section
/- pdata: Merge: what it makes, and the walk of its inner function. -/
set_option linter.unusedVariables false
set_option linter.unusedSimpArgs false
set_option maxHeartbeats 4000000
set_option maxRecDepth 100000
namespace Go.Proofs.YtfbegbpipmgfiaaDoor.Lift
open Go Go.RowKit

def putAll (out : List Gr) (apart : Bool) (gs : List Gr) : List Gr := gs.foldl (fun o g => putG o g apart) out
def mgOut (a b : Da) : List Gr := putAll (putAll [] true a.gs) false b.gs
/-- What stands in the way of a merging, ahead of its work. -/
def mgE (a b : Da) : Nat := fst0 [daE a, daE b, if a.sig = b.sig then 0 else 5, if nIt a.gs + nIt b.gs ≤ 1024 then 0 else 3]
theorem nIt_app (l l' : List Gr) : nIt (l ++ l') = nIt l + nIt l' := by simp [nIt]
theorem nIt_set {o : List Gr} {i : Nat} {g : Gr} {xs : List It} (h : o[i]? = some g) : nIt (o.set i { g with items := g.items ++ xs }) = nIt o + xs.length := by
  induction o generalizing i with
  | nil => simp at h
  | cons y o ih =>
    cases i with
    | zero =>
      obtain rfl : y = g := by simpa using h
      rw [List.set_cons_zero, nIt_cons, nIt_cons, List.length_append]
      omega
    | succ i =>
      rw [List.set_cons_succ, nIt_cons, nIt_cons, ih (by simpa using h)]
      omega
theorem addAt_nIt {o : List Gr} {i : Nat} {xs : List It} (h : i < o.length) : nIt (addAt o i xs) = nIt o + xs.length := by
  rw [addAt_some (List.getElem?_eq_getElem h), nIt_set (List.getElem?_eq_getElem h)]
theorem putG_nIt (o : List Gr) (g : Gr) (ap : Bool) : nIt (putG o g ap) = nIt o + g.items.length := by
  unfold putG
  split
  · rename_i i hi
    have hlt : i < o.length := by
      unfold findG at hi
      split at hi
      · cases hi
      · obtain ⟨x, hx, _⟩ := fI_some hi
        exact (List.getElem?_eq_some_iff.1 hx).1
    rw [addAt_nIt hlt, List.length_map]
  · rw [addAt_nIt (by simp), List.length_map, nIt_app]
    simp [nIt, ownedG]
theorem putG_le (o : List Gr) (g : Gr) (ap : Bool) : (putG o g ap).length ≤ o.length + 1 := by
  unfold putG
  split
  · rw [addAt_len]; omega
  · rw [addAt_len]; simp
theorem putAll_le (ap : Bool) : ∀ (gs o : List Gr), (putAll o ap gs).length ≤ o.length + gs.length
  | [], o => Nat.le_refl _
  | g :: gs, o => by
    have h1 := putAll_le ap gs (putG o g ap)
    have h2 := putG_le o g ap
    simp only [putAll, List.foldl_cons, List.length_cons] at h1 ⊢
    omega
theorem putAll_nIt (ap : Bool) : ∀ (gs o : List Gr), nIt (putAll o ap gs) = nIt o + nIt gs
  | [], o => rfl
  | g :: gs, o => by
    have h1 := putAll_nIt ap gs (putG o g ap)
    have h2 := putG_nIt o g ap
    simp only [putAll, List.foldl_cons] at h1 ⊢
    rw [h1, h2, nIt_cons]
    omega
theorem putAll_snoc {o gs : List Gr} {ap : Bool} {j : Nat} (h : j < gs.length) : putAll o ap (gs.take (j + 1)) = putG (putAll o ap (gs.take j)) gs[j] ap := by
  unfold putAll
  rw [List.take_add_one, List.getElem?_eq_getElem h, List.foldl_append]
  rfl
theorem nIt_mem {o : List Gr} {g : Gr} (h : g ∈ o) : g.items.length ≤ nIt o := by
  induction o with
  | nil => cases h
  | cons y o ih =>
    rw [nIt_cons]
    rcases List.mem_cons.1 h with rfl | h
    · omega
    · have := ih h
      omega
theorem nIt_take (gs : List Gr) (j : Nat) : nIt (gs.take j) ≤ nIt gs := by
  have h := nIt_app (gs.take j) (gs.drop j)
  rw [List.take_append_drop] at h
  omega
/-- The boxes of a merging. -/
def mgS (K : Nat) (a b : Da) (o : List Gr) : List Box := .var ((daD a).map .d) :: .var ((daD b).map .d) :: .var [.d (.v (.int .u8 a.sig)), .sl 3 5 0 o.length] :: .own 5 104 (grC 4 o) :: slots K o
def mgL (a b : Da) : List Box := [.var ((daD a).map .d), .var ((daD b).map .d), .var [.d (.v (.int .u8 a.sig)), .d .e]]
theorem mgS_len {K : Nat} {a b : Da} {o : List Gr} (h : o.length ≤ K) : (mgS K a b o).length = K + 4 := by simp [mgS, slots_len h]
theorem mgS_below {K : Nat} {a b : Da} {o : List Gr} (h : o.length ≤ K) : (mgS K a b o).all (boxBelow (K + 4)) = true := by
  simp only [mgS, List.all_cons, boxBelow, namesAll, AV.names, names_ds, Bool.and_true, Bool.true_and, Bool.and_eq_true, decide_eq_true_eq]
  exact ⟨by omega, grC_names fun i hi => decide_eq_true (by omega), slots_all _ fun _ => rfl⟩
theorem mg_kinds {K : Nat} {o o' : List Gr} : kindsOk (gbS K o) (gbS K o') = true := by
  simp only [gbS, kindsOk, isVar, Bool.not_false, Bool.or_true, Bool.true_and]
  exact kinds_slots (K := K) slots_nv slots_nv
theorem mg_sg {K i len : Nat} (h : i < K + 1) : sg (3 :: List.range' 4 K) len i = 3 + i := sg_lt (by
  match i with
  | 0 => rfl
  | i + 1 =>
    simp only [List.getElem?_cons_succ]
    rw [List.getElem?_eq_getElem (by simp; omega), List.getElem_range']
    congr 1
    omega)
theorem mg_ren {K len : Nat} {o : List Gr} (h : o.length ≤ K) : (gbS K o).map (renB (sg (3 :: List.range' 4 K) len)) = .own 5 104 (grC 4 o) :: slots K o := by
  have hr : renL (sg (3 :: List.range' 4 K) len) (grC 1 o) = grC 4 o := grC_ren fun i hi => by rw [mg_sg (by omega)]; omega
  have hs : (slots K o).map (renB (sg (3 :: List.range' 4 K) len)) = slots K o := slots_map _ fun _ => rfl
  simp only [gbS, List.map_cons, hs, renB, hr]
theorem mg_sel {K : Nat} {o : List Gr} (h : o.length ≤ K) {x0 x1 x2 : Box} {X : List Box} (len i b : Nat) (hi : (3 :: List.range' 4 K)[i]? = some b) : (x0 :: x1 :: x2 :: .own 5 104 (grC 4 o) :: (slots K o ++ X))[b]? = ((gbS K o)[i]?).map (renB (sg (3 :: List.range' 4 K) len)) := by
  rw [← List.getElem?_map, mg_ren h]
  obtain ⟨hl, he⟩ := List.getElem?_eq_some_iff.1 hi
  have hsl := slots_len h
  match i with
  | 0 => obtain rfl : b = 3 := by simpa using he.symm
         rfl
  | i + 1 =>
    simp only [List.length_cons, List.length_range'] at hl
    obtain rfl : b = 4 + i := by simp at he; omega
    rw [show 4 + i = i + 1 + 1 + 1 + 1 by omega]
    simp only [List.getElem?_cons_succ]
    rw [List.getElem?_append_left (by omega)]
theorem mg_set {K : Nat} {o o' : List Gr} (h : o.length ≤ K) (h' : o'.length ≤ K) {x0 x1 x2 y : Box} {X : List Box} (len : Nat) : setAll (x0 :: x1 :: x2 :: y :: (slots K o ++ X)) (3 :: List.range' 4 K) ((gbS K o').map (renB (sg (3 :: List.range' 4 K) len))) = x0 :: x1 :: x2 :: .own 5 104 (grC 4 o') :: (slots K o' ++ X) := by
  rw [mg_ren h']
  simp only [setAll, List.set_cons_succ, List.set_cons_zero]
  have h1 := setAll_range (slots K o') [x0, x1, x2, .own 5 104 (grC 4 o')] (slots K o ++ X) (by simp [slots_len h, slots_len h'])
  rw [slots_len h', List.drop_append, List.drop_eq_nil_of_le (by rw [slots_len h]; exact Nat.le_refl _), slots_len h, Nat.sub_self, List.drop_zero, List.nil_append] at h1
  exact h1
end Go.Proofs.YtfbegbpipmgfiaaDoor.Lift
end
section
/- pdata: Merge: the walk of its inner function. -/
set_option linter.unusedVariables false
set_option linter.unusedSimpArgs false
set_option maxHeartbeats 4000000
set_option maxRecDepth 100000
namespace Go.Proofs.YtfbegbpipmgfiaaDoor.Lift
open Go Go.RowKit

/-- A call that is handed many boxes. -/
theorem wCBL {P : Program} {W0 : World} {n : Nat} {Q : Ax → St → Prop} {st : St} {ops : Array Oper} {o : Oper} {rest : List Oper} {gs : List (Option (Option Nat × Bool))} {fo : Operand} {args : Array Operand} {ts : Array TypeId} {f : FuncId} {caps xs : List AV} (sel : List Nat) {cargs : List AV} {L L' : List Box} {x : AV} (hcall : ACalls P W0 f cargs L (fun r K => r = .ret x ∧ K = L'))
    (hlen : L.length = sel.length) (hL : ∀ (i b : Nat), sel[i]? = some b → st.bs[b]? = (L[i]?).map (renB (sg sel st.bs.length))) (hn : sel.Nodup) (hk : kindsOk L L' = true)
    (h : run2 P W0 n ops Q rest gs ((st.aft sel L L').put o.dst (renA (sg sel st.bs.length) x)))
    (hargs : renL (sg sel st.bs.length) cargs = xs ++ caps)
    (ho : o.op = .call ⟨.value fo, args, ts⟩ := by rfl) (hf : evo (lk st.env) fo = some (.fn f caps) := by rfl) (ha : evl (lk st.env) args.toList = some xs := by rfl) (hc : callable P f = true := by first | assumption | simp only [go_sem]) (hd : dOk st.N o.dst = true := by rfl) : AOpsG P W0 n ops (o :: rest) (none :: gs) Q st := fun hG => let ⟨hg, hG⟩ := gsl_none hG;
  A_callB sel hcall hg ho hf ha hc hd hn hlen hL hargs (by rintro r K ⟨rfl, rfl⟩; exact ⟨hk, run2_ops h hG⟩)
theorem daE_many {d : Da} (h : daE d = 0) : d.gs.length ≤ 64 ∧ nIt d.gs ≤ 1024 := by
  unfold daE at h
  by_cases h1 : sigB d.sig = true
  · rw [if_pos h1, fst0_zero] at h
    by_cases h2 : manyB d = true
    · simp only [manyB, Bool.and_eq_true, decide_eq_true_eq] at h2
      omega
    · rw [if_neg h2, fst0_pos (by decide)] at h
      cases h
  · rw [if_neg h1, fst0_pos (by decide)] at h
    cases h
theorem envBelow_le {k k' : Nat} (h : k ≤ k') {env : List (Nat × AV)} (he : envBelow k env = true) : envBelow k' env = true := List.all_eq_true.2 fun p hp => names_le h p.2 (List.all_eq_true.1 he p hp)
theorem mg_sb {W0 : World} {K : Nat} {a b : Da} {o : List Gr} {st : St} {X : List Box} {env : List (Nat × AV)} (h : o.length ≤ K) (hbs : st.bs = mgS K a b o ++ X) (he : eSub st.env env) (hN : 55 = st.N) (h1 : envBelow 4 env = true) : Sb W0 3 st ⟨55, ofL env, mgS K a b o⟩ := by
  have hl := mgS_len (a := a) (b := b) h
  exact SbP hbs hN he (by omega) (envBelow_le (by omega) h1) (by rw [hl]; exact mgS_below h)
theorem mg_moved {K c : Nat} {L L' : List Box} (h : c < 3 ∨ K + 4 ≤ c) : moved (3 :: List.range' 4 K) L L' c = false := moved_false fun i x y hi hx hy => by
  obtain ⟨hl, he⟩ := List.getElem?_eq_some_iff.1 hi
  match i with
  | 0 => simp at he; omega
  | i + 1 =>
    simp only [List.length_cons, List.length_range'] at hl
    simp at he
    omega
theorem mg_nodup {K : Nat} : (3 :: List.range' 4 K).Nodup := by simp [List.mem_range'_1, List.nodup_range']
def mgR (K : Nat) (a b : Da) : Res × List Box := if mgE a b = 0 then (ends (if (mgOut a b).length ≤ 64 then 0 else 3), mgS K a b (mgOut a b)) else (ends (mgE a b), mgL a b)
theorem mgR_no {K : Nat} {a b : Da} {c : Nat} (h : mgE a b = c) (hc : c ≠ 0) : mgR K a b = (.panic (err c), mgL a b) := by
  subst h
  rw [mgR, if_neg hc, ends1 hc]
theorem mgR_yes {K : Nat} {a b : Da} (h : mgE a b = 0) : mgR K a b = (ends (if (mgOut a b).length ≤ 64 then 0 else 3), mgS K a b (mgOut a b)) := by
  rw [mgR, if_pos h]
theorem pmrg1_c {W0 : World} (hT : Tabs W0) (a b : Da) (ha : okD a) (hb : okD b) :
    ∃ K, (mgOut a b).length ≤ K ∧ ACalls Tryd.prog W0 37 [.ptr 0 0, .ptr 1 0, .ptr 2 0] (mgL a b) (fun r L' => r = (mgR K a b).1 ∧ L' = (mgR K a b).2) := by
  have hca := check_c' (W0 := W0) hT a ha
  have hcb := check_c' (W0 := W0) hT b hb
  have hia := items_n (W0 := W0) a ha
  have hib := items_n (W0 := W0) b hb
  obtain ⟨K, hK⟩ : ∃ K, K = a.gs.length + b.gs.length := ⟨_, rfl⟩
  have hmo : (mgOut a b).length ≤ K := by
    have h1 := putAll_le false b.gs (putAll [] true a.gs)
    have h2 := putAll_le true a.gs []
    simp only [mgOut, List.length_nil] at h1 h2 ⊢
    omega
  refine ⟨K, hmo, ?_⟩
  refine A_body Tryd.func37 rfl (Nat.le_of_ble_eq_true rfl) ?_
  simp only [go_sem, Tryd.ntmps37, Tryd.results37, mkEnv, mgL]
  repeat (first | refine wS ?_ | refine wB ?_ | (refine wR ?_; simp only [go_sem]) | (refine wT ?_ ?_; focus (simp only [go_sem]; done)) | (refine wF ?_ ?_; focus (simp only [go_sem]; done)) | (refine wK ?_; try simp only [go_sem]) | (refine wE ?_; try simp only [go_sem]) | refine wX ?_)
  by_cases h0 : daE a ≠ 0
  · have he : mgE a b = daE a := fst0_pos h0
    rw [ends1 h0] at hca
    rw [mgR_no he h0]
    refine wP (hca) ?_
    try simp only [go_sem]
    exact wPanB (mgL a b) ⟨rfl, rfl⟩
  have h0 : daE a = 0 := by omega
  rw [h0, ends0] at hca
  refine wC (hca) ?_
  simp only [go_sem]
  repeat (first | refine wS ?_ | refine wB ?_ | (refine wR ?_; simp only [go_sem]) | (refine wT ?_ ?_; focus (simp only [go_sem]; done)) | (refine wF ?_ ?_; focus (simp only [go_sem]; done)) | (refine wK ?_; try simp only [go_sem]) | (refine wE ?_; try simp only [go_sem]) | refine wX ?_)
  by_cases h1 : daE b ≠ 0
  · have he : mgE a b = daE b := by unfold mgE; rw [h0, fst0_zero, fst0_pos h1]
    rw [ends1 h1] at hcb
    rw [mgR_no he h1]
    refine wP (hcb) ?_
    try simp only [go_sem]
    exact wPanB (mgL a b) ⟨rfl, rfl⟩
  have h1 : daE b = 0 := by omega
  rw [h1, ends0] at hcb
  obtain ⟨e, hse⟩ : ∃ e, ((a.sig : Int) == (b.sig : Int)) = e := ⟨_, rfl⟩
  have hse2 : (if a.sig = b.sig then 0 else 5) = (if e then 0 else 5) := by
    subst hse
    by_cases h : a.sig = b.sig
    · simp [h]
    · have : ¬ (a.sig : Int) = b.sig := by omega
      simp [h, this]
  refine wC (hcb) ?_
  simp only [go_sem, hse]
  repeat (first | refine wS ?_ | refine wB ?_ | (refine wR ?_; simp only [go_sem, hse]) | (refine wT ?_ ?_; focus (simp only [go_sem]; done)) | (refine wF ?_ ?_; focus (simp only [go_sem]; done)) | (refine wK ?_; try simp only [go_sem, hse]) | (refine wE ?_; try simp only [go_sem, hse]) | refine wX ?_)
  cases e with
  | false =>
    have he : mgE a b = 5 := by unfold mgE; rw [h0, fst0_zero, h1, fst0_zero, hse2]; rfl
    rw [mgR_no he (by decide)]
    refine wP (pmust_no 5) ?_
    try simp only [go_sem, hse]
    exact wPanB (mgL a b) ⟨rfl, rfl⟩
  | true =>
    refine wC (pmust_ok 5) ?_
    simp only [go_sem, hse]
    repeat (first | refine wS ?_ | refine wB ?_ | (refine wR ?_; simp only [go_sem, hse]) | (refine wT ?_ ?_; focus (simp only [go_sem]; done)) | (refine wF ?_ ?_; focus (simp only [go_sem]; done)) | (refine wK ?_; try simp only [go_sem, hse]) | (refine wE ?_; try simp only [go_sem, hse]) | refine wX ?_)
    have hle := daE_many h0
    have hle2 := daE_many h1
    have wa : IntKind.i64.wrap (nIt a.gs : Nat) = (nIt a.gs : Int) := wrap_in (by omega) (by omega)
    have wb : IntKind.i64.wrap (nIt b.gs : Nat) = (nIt b.gs : Int) := wrap_in (by omega) (by omega)
    have wab : IntKind.i64.wrap ((nIt a.gs : Int) + (nIt b.gs : Int)) = ((nIt a.gs + nIt b.gs : Nat) : Int) := by rw [wrap_in (by omega) (by omega)]; omega
    rw [wa] at hia
    rw [wb] at hib
    obtain ⟨e, hsm⟩ : ∃ e, decide (((nIt a.gs + nIt b.gs : Nat) : Int) ≤ 1024) = e := ⟨_, rfl⟩
    have hsm2 : (if nIt a.gs + nIt b.gs ≤ 1024 then 0 else 3) = (if e then 0 else 3) := by
      subst hsm
      by_cases h : nIt a.gs + nIt b.gs ≤ 1024
      · simp [h]; omega
      · simp [h]; omega
    cases e with
    | false =>
      have he : mgE a b = 3 := by unfold mgE; rw [h0, fst0_zero, h1, fst0_zero, hse2, hsm2]; rfl
      rw [mgR_no he (by decide)]
      refine wD 6 ?_ mixedO (by kernel_rfl)
      simp only [go_sem]
      repeat (first | refine wS ?_ | refine wB ?_ | (refine wR ?_; simp only [go_sem]) | (refine wT ?_ ?_; focus (simp only [go_sem]; done)) | (refine wF ?_ ?_; focus (simp only [go_sem]; done)) | (refine wK ?_; try simp only [go_sem]) | (refine wE ?_; try simp only [go_sem]) | refine wX ?_)
      refine wQC (hia) ?_
      simp only [go_sem, wab, hsm]
      repeat (first | refine wS ?_ | refine wB ?_ | (refine wR ?_; simp only [go_sem, wab, hsm]) | (refine wT ?_ ?_; focus (simp only [go_sem]; done)) | (refine wF ?_ ?_; focus (simp only [go_sem]; done)) | (refine wK ?_; try simp only [go_sem, wab, hsm]) | (refine wE ?_; try simp only [go_sem, wab, hsm]) | refine wX ?_)
      refine wQC (hib) ?_
      simp only [go_sem, wab, hsm]
      repeat (first | refine wS ?_ | refine wB ?_ | (refine wR ?_; simp only [go_sem, wab, hsm]) | (refine wT ?_ ?_; focus (simp only [go_sem]; done)) | (refine wF ?_ ?_; focus (simp only [go_sem]; done)) | (refine wK ?_; try simp only [go_sem, wab, hsm]) | (refine wE ?_; try simp only [go_sem, wab, hsm]) | refine wX ?_)
      refine wD1 6 ?_ (by kernel_rfl)
      simp only [go_sem, wab, hsm]
      refine wP (pmust_no 3) ?_
      try simp only [go_sem, hsm]
      exact wPanB (mgL a b) ⟨rfl, rfl⟩
    | true =>
      have he : mgE a b = 0 := by unfold mgE; rw [h0, fst0_zero, h1, fst0_zero, hse2, hsm2]; rfl
      have htot : nIt a.gs + nIt b.gs ≤ 1024 := by have := of_decide_eq_true hsm; omega
      rw [mgR_yes he]
      refine wD 6 ?_ mixedO (by kernel_rfl)
      simp only [go_sem]
      repeat (first | refine wS ?_ | refine wB ?_ | (refine wR ?_; simp only [go_sem]) | (refine wT ?_ ?_; focus (simp only [go_sem]; done)) | (refine wF ?_ ?_; focus (simp only [go_sem]; done)) | (refine wK ?_; try simp only [go_sem]) | (refine wE ?_; try simp only [go_sem]) | refine wX ?_)
      refine wQC (hia) ?_
      simp only [go_sem, wab, hsm]
      repeat (first | refine wS ?_ | refine wB ?_ | (refine wR ?_; simp only [go_sem, wab, hsm]) | (refine wT ?_ ?_; focus (simp only [go_sem]; done)) | (refine wF ?_ ?_; focus (simp only [go_sem]; done)) | (refine wK ?_; try simp only [go_sem, wab, hsm]) | (refine wE ?_; try simp only [go_sem, wab, hsm]) | refine wX ?_)
      refine wQC (hib) ?_
      simp only [go_sem, wab, hsm]
      repeat (first | refine wS ?_ | refine wB ?_ | (refine wR ?_; simp only [go_sem, wab, hsm]) | (refine wT ?_ ?_; focus (simp only [go_sem]; done)) | (refine wF ?_ ?_; focus (simp only [go_sem]; done)) | (refine wK ?_; try simp only [go_sem, wab, hsm]) | (refine wE ?_; try simp only [go_sem, wab, hsm]) | refine wX ?_)
      refine wD1 6 ?_ (by kernel_rfl)
      simp only [go_sem, wab, hsm]
      refine wC (pmust_ok 3) ?_
      simp only [go_sem, hsm]
      repeat (first | refine wS ?_ | refine wB ?_ | (refine wR ?_; simp only [go_sem, hsm]) | (refine wT ?_ ?_; focus (simp only [go_sem]; done)) | (refine wF ?_ ?_; focus (simp only [go_sem]; done)) | (refine wK ?_; try simp only [go_sem, hsm]) | (refine wE ?_; try simp only [go_sem, hsm]) | refine wX ?_)
      try simp only [TQ, true_and]
      refine wD0 ?_ (by kernel_rfl)
      try simp only [go_sem]
      repeat (first | refine wS ?_ | refine wB ?_ | (refine wR ?_; simp only [go_sem]) | (refine wT ?_ ?_; focus (simp only [go_sem]; done)) | (refine wF ?_ ?_; focus (simp only [go_sem]; done)) | (refine wK ?_; try simp only [go_sem]) | (refine wE ?_; try simp only [go_sem]) | refine wX ?_)
      refine A_sub _ (Sb.opnC (b := 2) (j := 1) (sz := 5) (bt := 104) rfl rfl (by decide) (by decide)) ?_
      simp only [go_sem]
      refine A_sub _ (Sb.toOwn 3 rfl) ?_
      simp only [List.flatten_nil, go_sem]
      refine A_sub _ (Sb.addVs K) ?_
      simp only [List.cons_append, List.nil_append]
      refine wL (fun j => ⟨55, ofL [(0, .ptr 0 0), (1, .ptr 1 0), (2, .ptr 2 0), (25, rG a.gs), (26, .d (.v (.int .i64 a.gs.length))), (27, .d (.v (.int .i64 (j : Nat))))], mgS K a b (putAll [] true (a.gs.take j))⟩) a.gs.length (fun _ => True) ?h0 trivial ?round
      case h0 =>
        exact mg_sb (X := []) (by simp [putAll]; try omega) (by simp [mgS, putAll, slots, grC, daD, emB]) (by repeat (first | exact eSub_nil _ | refine eSub_cons rfl ?_)) rfl rfl
      case round =>
        intro j hi _ R hR
        obtain ⟨oj, hoj⟩ : ∃ oj, oj = putAll [] true (a.gs.take j) := ⟨_, rfl⟩
        have hojl : oj.length ≤ 0 + j := by
          have h1 := putAll_le true (a.gs.take j) []
          rw [List.length_take] at h1
          rw [hoj]
          try simp only [List.length_nil] at h1 ⊢
          omega
        have hojn : nIt oj ≤ 1024 := by
          have h1 := putAll_nIt true (a.gs.take j) []
          have h2 := nIt_take a.gs j
          rw [hoj]
          have h3 : nIt ([] : List Gr) = 0 := rfl
          omega
        have hsnoc := fun h => putAll_snoc (o := []) (gs := a.gs) (ap := true) (j := j) h
        rw [← hoj] at hsnoc ⊢
        have hKj : oj.length ≤ K := by omega
        have hslj := slots_len (K := K) (gs := oj) hKj
        simp only [mgS]
        repeat (first | refine wS ?_ | refine wB ?_ | (refine wR ?_; simp only [go_sem]) | (refine wT ?_ ?_; focus (simp only [go_sem]; done)) | (refine wF ?_ ?_; focus (simp only [go_sem]; done)) | (refine wK ?_; try simp only [go_sem]) | (refine wE ?_; try simp only [go_sem]) | refine wX ?_)
        refine wI (fun h => ?_) (fun h => ?_)
        · have hlt : j < a.gs.length := by simpa using h
          have hlt2 : ((j : Int) < ((a.gs.length : Nat) : Int)) = True := eq_true (by omega)
          have hw := wrap_succ (i := j) (by omega)
          have hx : (a.gs.map grD)[j]? = some (grD a.gs[j]) := by rw [List.getElem?_map, List.getElem?_eq_getElem hlt]; rfl
          have hnext := hsnoc hlt
          have hgi : a.gs[j].items.length ≤ 4096 := by
            have h1 := nIt_mem (List.getElem_mem hlt)
            omega
          generalize a.gs[j] = g at hx hnext hgi
          have hap1 : ∀ X : List Box, (slots K oj ++ X)[K]? = X[0]? := fun X => by
            have h1 := ap0 (slots K oj) X
            rwa [hslj] at h1
          have hst1 : ∀ (X : List Box) (v : Box), (slots K oj ++ X).set K v = slots K oj ++ X.set 0 v := fun X v => by
            have h1 := st0 (slots K oj) X v
            rwa [hslj] at h1
          have hput := pput_c (W0 := W0) (K := K) oj g true (by omega) (by omega) (fun h hh => by have := nIt_mem hh; omega) hgi
          have hpl := putG_le oj g true
          simp only [hnext] at hR
          generalize putG oj g true = o2 at hput hpl hR
          have hK2 : o2.length ≤ K := by omega
          have hks : ∀ p, (slots K oj).map (killPB p) = slots K oj := fun p => slots_map _ fun _ => rfl
          repeat (first | refine wS ?_ | refine wB ?_ | (refine wR ?_; simp only [go_sem, hx, grD, hslj, hap1, hst1, List.length_append]) | (refine wT ?_ ?_; focus (simp only [go_sem]; done)) | (refine wF ?_ ?_; focus (simp only [go_sem]; done)) | (refine wK ?_; try simp only [go_sem, hx, grD, hslj, hap1, hst1, List.length_append]) | (refine wE ?_; try simp only [go_sem, hx, grD, hslj, hap1, hst1, List.length_append]) | refine wX ?_)
          refine wCBL (3 :: List.range' 4 K) hput ?c1 ?c2 mg_nodup mg_kinds ?_ ?c3
          case c1 => simp [gbS_len hKj]
          case c2 => exact mg_sel hKj _
          case c3 => rfl
          have hm0 := mg_moved (K := K) (c := 0) (L := gbS K oj) (L' := gbS K o2) (.inl (by decide))
          have hm1 := mg_moved (K := K) (c := 1) (L := gbS K oj) (L' := gbS K o2) (.inl (by decide))
          have hm2 := mg_moved (K := K) (c := 2) (L := gbS K oj) (L' := gbS K o2) (.inl (by decide))
          have hmK := mg_moved (K := K) (c := K + 1 + 1 + 1 + 1) (L := gbS K oj) (L' := gbS K o2) (.inr (Nat.le_refl _))
          have hd0 : (gbS K o2).drop (3 :: List.range' 4 K).length = [] := List.drop_eq_nil_of_le (by simp [gbS_len hK2])
          simp only [St.aft, List.map_cons, List.map_append, List.map_nil, hks, mg_set hKj hK2, hd0, List.append_nil]
          generalize moved (3 :: List.range' 4 K) (gbS K oj) (gbS K o2) = pm at hm0 hm1 hm2 hmK ⊢
          simp only [killPE, mapE, List.map_cons, List.map_nil, Option.map_some, Option.map_none, killP, killPL, killPB, killPL_ds, hm0, hm1, hm2, hmK, Bool.false_eq_true, if_false]
          simp only [go_sem, renA, renL, sg_c0, hw]
          repeat (first | refine wS ?_ | refine wB ?_ | (refine wR ?_; simp only [go_sem, hw]) | (refine wT ?_ ?_; focus (simp only [go_sem]; done)) | (refine wF ?_ ?_; focus (simp only [go_sem]; done)) | (refine wK ?_; try simp only [go_sem, hw]) | (refine wE ?_; try simp only [go_sem, hw]) | refine wX ?_)
          refine hR hlt trivial _ ?_
          exact mg_sb (X := [_]) hK2 rfl (by repeat (first | exact eSub_nil _ | refine eSub_cons rfl ?_)) rfl rfl
        · obtain rfl : j = a.gs.length := by simp at h; omega
          simp only [List.take_length] at hoj
          obtain ⟨oj2, ho2⟩ : ∃ o, o = oj := ⟨_, rfl⟩
          rw [← ho2] at hojl hojn hKj hslj hoj ⊢
          have hoa := hoj
          have hjn2 : nIt oj2 = nIt a.gs := by
            have h1 := putAll_nIt true a.gs []
            have h3 : nIt ([] : List Gr) = 0 := rfl
            rw [hoj]
            omega
          clear hsnoc ho2 hR
          repeat (first | refine wS ?_ | refine wB ?_ | (refine wR ?_; simp only [go_sem]) | (refine wT ?_ ?_; focus (simp only [go_sem]; done)) | (refine wF ?_ ?_; focus (simp only [go_sem]; done)) | (refine wK ?_; try simp only [go_sem]) | (refine wE ?_; try simp only [go_sem]) | refine wX ?_)
          refine wL (fun j => ⟨55, ofL [(0, .ptr 0 0), (1, .ptr 1 0), (2, .ptr 2 0), (38, rG b.gs), (39, .d (.v (.int .i64 b.gs.length))), (40, .d (.v (.int .i64 (j : Nat))))], mgS K a b (putAll oj2 false (b.gs.take j))⟩) b.gs.length (fun _ => True) ?h0 trivial ?round
          case h0 =>
            exact mg_sb (X := []) (by simp [putAll]; try omega) (by rw [List.append_nil]; rfl) (by repeat (first | exact eSub_nil _ | refine eSub_cons rfl ?_)) rfl rfl
          case round =>
            intro j hi _ R hR
            obtain ⟨oj, hoj⟩ : ∃ oj, oj = putAll oj2 false (b.gs.take j) := ⟨_, rfl⟩
            have hojl : oj.length ≤ oj2.length + j := by
              have h1 := putAll_le false (b.gs.take j) oj2
              rw [List.length_take] at h1
              rw [hoj]
              try simp only [List.length_nil] at h1 ⊢
              omega
            have hojn : nIt oj ≤ 1024 := by
              have h1 := putAll_nIt false (b.gs.take j) oj2
              have h2 := nIt_take b.gs j
              rw [hoj]
              skip
              omega
            have hsnoc := fun h => putAll_snoc (o := oj2) (gs := b.gs) (ap := false) (j := j) h
            rw [← hoj] at hsnoc ⊢
            have hKj : oj.length ≤ K := by omega
            have hslj := slots_len (K := K) (gs := oj) hKj
            simp only [mgS]
            repeat (first | refine wS ?_ | refine wB ?_ | (refine wR ?_; simp only [go_sem]) | (refine wT ?_ ?_; focus (simp only [go_sem]; done)) | (refine wF ?_ ?_; focus (simp only [go_sem]; done)) | (refine wK ?_; try simp only [go_sem]) | (refine wE ?_; try simp only [go_sem]) | refine wX ?_)
            refine wI (fun h => ?_) (fun h => ?_)
            · have hlt : j < b.gs.length := by simpa using h
              have hlt2 : ((j : Int) < ((b.gs.length : Nat) : Int)) = True := eq_true (by omega)
              have hw := wrap_succ (i := j) (by omega)
              have hx : (b.gs.map grD)[j]? = some (grD b.gs[j]) := by rw [List.getElem?_map, List.getElem?_eq_getElem hlt]; rfl
              have hnext := hsnoc hlt
              have hgi : b.gs[j].items.length ≤ 4096 := by
                have h1 := nIt_mem (List.getElem_mem hlt)
                omega
              generalize b.gs[j] = g at hx hnext hgi
              have hap1 : ∀ X : List Box, (slots K oj ++ X)[K]? = X[0]? := fun X => by
                have h1 := ap0 (slots K oj) X
                rwa [hslj] at h1
              have hst1 : ∀ (X : List Box) (v : Box), (slots K oj ++ X).set K v = slots K oj ++ X.set 0 v := fun X v => by
                have h1 := st0 (slots K oj) X v
                rwa [hslj] at h1
              have hput := pput_c (W0 := W0) (K := K) oj g false (by omega) (by omega) (fun h hh => by have := nIt_mem hh; omega) hgi
              have hpl := putG_le oj g false
              simp only [hnext] at hR
              generalize putG oj g false = o2 at hput hpl hR
              have hK2 : o2.length ≤ K := by omega
              have hks : ∀ p, (slots K oj).map (killPB p) = slots K oj := fun p => slots_map _ fun _ => rfl
              repeat (first | refine wS ?_ | refine wB ?_ | (refine wR ?_; simp only [go_sem, hx, grD, hslj, hap1, hst1, List.length_append]) | (refine wT ?_ ?_; focus (simp only [go_sem]; done)) | (refine wF ?_ ?_; focus (simp only [go_sem]; done)) | (refine wK ?_; try simp only [go_sem, hx, grD, hslj, hap1, hst1, List.length_append]) | (refine wE ?_; try simp only [go_sem, hx, grD, hslj, hap1, hst1, List.length_append]) | refine wX ?_)
              refine wCBL (3 :: List.range' 4 K) hput ?c1 ?c2 mg_nodup mg_kinds ?_ ?c3
              case c1 => simp [gbS_len hKj]
              case c2 => exact mg_sel hKj _
              case c3 => rfl
              have hm0 := mg_moved (K := K) (c := 0) (L := gbS K oj) (L' := gbS K o2) (.inl (by decide))
              have hm1 := mg_moved (K := K) (c := 1) (L := gbS K oj) (L' := gbS K o2) (.inl (by decide))
              have hm2 := mg_moved (K := K) (c := 2) (L := gbS K oj) (L' := gbS K o2) (.inl (by decide))
              have hmK := mg_moved (K := K) (c := K + 1 + 1 + 1 + 1) (L := gbS K oj) (L' := gbS K o2) (.inr (Nat.le_refl _))
              have hd0 : (gbS K o2).drop (3 :: List.range' 4 K).length = [] := List.drop_eq_nil_of_le (by simp [gbS_len hK2])
              simp only [St.aft, List.map_cons, List.map_append, List.map_nil, hks, mg_set hKj hK2, hd0, List.append_nil]
              generalize moved (3 :: List.range' 4 K) (gbS K oj) (gbS K o2) = pm at hm0 hm1 hm2 hmK ⊢
              simp only [killPE, mapE, List.map_cons, List.map_nil, Option.map_some, Option.map_none, killP, killPL, killPB, killPL_ds, hm0, hm1, hm2, hmK, Bool.false_eq_true, if_false]
              simp only [go_sem, renA, renL, sg_c0, hw]
              repeat (first | refine wS ?_ | refine wB ?_ | (refine wR ?_; simp only [go_sem, hw]) | (refine wT ?_ ?_; focus (simp only [go_sem]; done)) | (refine wF ?_ ?_; focus (simp only [go_sem]; done)) | (refine wK ?_; try simp only [go_sem, hw]) | (refine wE ?_; try simp only [go_sem, hw]) | refine wX ?_)
              refine hR hlt trivial _ ?_
              exact mg_sb (X := [_]) hK2 rfl (by repeat (first | exact eSub_nil _ | refine eSub_cons rfl ?_)) rfl rfl
            · obtain rfl : j = b.gs.length := by simp at h; omega
              simp only [List.take_length] at hoj
              have hout : oj = mgOut a b := by rw [hoj, hoa]; rfl
              repeat (first | refine wS ?_ | refine wB ?_ | (refine wR ?_; simp only [go_sem]) | (refine wT ?_ ?_; focus (simp only [go_sem]; done)) | (refine wF ?_ ?_; focus (simp only [go_sem]; done)) | (refine wK ?_; try simp only [go_sem]) | (refine wE ?_; try simp only [go_sem]) | refine wX ?_)
              rw [← hout] at hmo ⊢
              obtain ⟨e, hse⟩ : ∃ e, decide ((oj.length : Int) ≤ 64) = e := ⟨_, rfl⟩
              have hse2 : (if oj.length ≤ 64 then 0 else 3) = (if e then 0 else 3) := by
                subst hse
                by_cases h : oj.length ≤ 64
                · have : (oj.length : Int) ≤ 64 := by omega
                  simp [h, this]
                · have : ¬ (oj.length : Int) ≤ 64 := by omega
                  simp [h, this]
              rw [hse, hse2]
              have hl := mgS_len (a := a) (b := b) hmo
              cases e with
              | true =>
                refine wC (pmust_ok 3) ?_
                simp only [go_sem]
                repeat (first | refine wS ?_ | refine wB ?_ | (refine wR ?_; simp only [go_sem]) | (refine wT ?_ ?_; focus (simp only [go_sem]; done)) | (refine wF ?_ ?_; focus (simp only [go_sem]; done)) | (refine wK ?_; try simp only [go_sem]) | (refine wE ?_; try simp only [go_sem]) | refine wX ?_)
                exact wRetBN (mgS K a b oj) ⟨rfl, rfl⟩ (hb := ⟨[], by rw [List.append_nil]; rfl⟩) (hl := by rw [hl]; omega) (h2 := by rw [hl]; exact mgS_below hmo)
              | false =>
                refine wP (pmust_no 3) ?_
                try simp only [go_sem]
                exact wPanB (mgS K a b oj) ⟨rfl, rfl⟩ (hb := ⟨[], by rw [List.append_nil]; rfl⟩) (hl := by rw [hl]; omega) (h2 := by rw [hl]; exact mgS_below hmo)
end Go.Proofs.YtfbegbpipmgfiaaDoor.Lift
end
section
/- pdata: Merge, Tidy. No conditions but what types allow, and that utf8's tables lie as they are laid. -/
set_option linter.unusedVariables false
set_option linter.unusedSimpArgs false
set_option maxHeartbeats 4000000
set_option maxRecDepth 100000
namespace Go.Proofs.YtfbegbpipmgfiaaDoor.Lift
open Go Go.RowKit

def mergeR (a b : Da) : Da × Nat := if mgE a b = 0 then (if (mgOut a b).length ≤ 64 then (⟨a.sig, mgOut a b⟩, 0) else (d0, 3)) else (d0, mgE a b)
theorem Merge_c {W0 : World} (hT : Tabs W0) (a b : Da) (ha : okD a) (hb : okD b) : APure Tryd.prog W0 17 [xa a, xa b] (· = .ret (.tup [xa (mergeR a b).1, .d (.v (.int .i64 ((mergeR a b).2 : Nat)))])) := by
  obtain ⟨K, hK, hm⟩ := pmrg1_c (W0 := W0) hT a b ha hb
  unfold mergeR
  refine A_body Tryd.func17 rfl (Nat.le_of_ble_eq_true rfl) ?_
  simp only [go_sem, Tryd.ntmps17, Tryd.results17, mkEnv]
  repeat (first | refine wS ?_ | refine wB ?_ | (refine wR ?_; simp only [go_sem]) | (refine wT ?_ ?_; focus (simp only [go_sem]; done)) | (refine wF ?_ ?_; focus (simp only [go_sem]; done)) | (refine wK ?_; try simp only [go_sem]) | (refine wE ?_; try simp only [go_sem]) | refine wX ?_)
  by_cases h0 : mgE a b = 0
  · rw [mgR_yes h0] at hm
    have hc := pcaught_ends (by simp only [go_sem]) hm
    simp only [go_sem, mgL] at hc
    rw [if_pos h0]
    generalize mgOut a b = out at hK hc ⊢
    have hr : renL (sg [0, 1, 3] 4) (grC 4 out) = grC 5 out := grC_ren fun i hi => by
      have h1 : ([0, 1, 3] : List Nat)[4 + i]? = none := List.getElem?_eq_none (by simp; omega)
      simp only [sg, h1]
      simp
      omega
    have hs : ∀ σ, (slots K out).map (renB σ) = slots K out := fun σ => slots_map _ fun _ => rfl
    have hks : ∀ p, (slots K out).map (killPB p) = slots K out := fun p => slots_map _ fun _ => rfl
    refine wCB [0, 1, 3] hc ?_
    simp only [mgS, go_sem, hr, hs, hks]
    by_cases h64 : out.length ≤ 64
    · rw [if_pos h64, if_pos h64]
      simp only [go_sem]
      repeat (first | refine wS ?_ | refine wB ?_ | (refine wR ?_; simp only [go_sem]) | (refine wT ?_ ?_; focus (simp only [go_sem]; done)) | (refine wF ?_ ?_; focus (simp only [go_sem]; done)) | (refine wK ?_; try simp only [go_sem]) | (refine wE ?_; try simp only [go_sem]) | refine wX ?_)
      refine ⟨.tup [.agg [.d (.v (.int .u8 a.sig)), .sl 4 5 0 out.length], .d (.v (.int .i64 0))], rfl, [], _, fin_all (x' := .tup [xa ⟨a.sig, out⟩, .d (.v (.int .i64 0))]) rfl ?_, ⟨rfl, rfl⟩⟩
      intro E M m aa w u hC hr
      simp only [xa, daD, List.map_cons, List.map_nil, RA] at hr ⊢
      obtain ⟨us, rfl, h1⟩ := hr
      refine ⟨us, rfl, ?_⟩
      match hus : us.toList, h1 with
      | [u0, u1], h1 =>
        simp only [RAs, RA, and_true] at h1 ⊢
        obtain ⟨⟨vs, rfl, h2⟩, h3⟩ := h1
        refine ⟨⟨vs, rfl, ?_⟩, h3.mono (Fr.refl (fun _ => False) w) (fun _ _ x => x.elim) (fun k _ hk => hk.1)⟩
        match hvs : vs.toList, h2 with
        | [v0, v1], h2 =>
          simp only [RAs, RA, and_true] at h2 ⊢
          refine ⟨h2.1.mono (Fr.refl (fun _ => False) w) (fun _ _ x => x.elim) (fun k _ hk => hk.1), ?_⟩
          refine tree_data hC (G := 4) (base := 5) (gs := out) rfl (fun i g hg => ?_) rfl (by simp only [RA]; exact h2.2)
          rw [show 5 + i = i + 5 by omega]
          simp only [List.getElem?_cons_succ]
          exact slots_at hg
    · rw [if_neg h64, if_neg h64]
      simp only [go_sem]
      repeat (first | refine wS ?_ | refine wB ?_ | (refine wR ?_; simp only [go_sem]) | (refine wT ?_ ?_; focus (simp only [go_sem]; done)) | (refine wF ?_ ?_; focus (simp only [go_sem]; done)) | (refine wK ?_; try simp only [go_sem]) | (refine wE ?_; try simp only [go_sem]) | refine wX ?_)
      simp only [Thn, InB]
      exact wRet ⟨rfl, rfl⟩ (hle := Le.tup (LeL.cons Le_d0 (LeL.refl _)))
  · have hm := (mgR_no (K := K) rfl h0) ▸ hm
    rw [← ends1 h0] at hm
    have hc := pcaught_ends (by simp only [go_sem]) hm
    simp only [go_sem, mgL] at hc
    rw [if_neg h0]
    have hne : (((mgE a b : Nat) : Int) != 0) = true := by simp [h0]
    refine wCB [0, 1, 3] (hc) ?_
    simp only [go_sem, hne]
    repeat (first | refine wS ?_ | refine wB ?_ | (refine wR ?_; simp only [go_sem, hne]) | (refine wT ?_ ?_; focus (simp only [go_sem]; done)) | (refine wF ?_ ?_; focus (simp only [go_sem]; done)) | (refine wK ?_; try simp only [go_sem, hne]) | (refine wE ?_; try simp only [go_sem, hne]) | refine wX ?_)
    simp only [Thn, InB]
    exact wRet ⟨rfl, rfl⟩ (hle := Le.tup (LeL.cons Le_d0 (LeL.refl _)))
end Go.Proofs.YtfbegbpipmgfiaaDoor.Lift
end
section
/- pdata: what types allow holds of what is made. -/
set_option linter.unusedVariables false
set_option linter.unusedSimpArgs false
set_option maxHeartbeats 4000000
set_option maxRecDepth 100000
namespace Go.Proofs.YtfbegbpipmgfiaaDoor.Lift
open Go Go.RowKit

theorem okP_drop {key : ByteArray} {m : List (ByteArray × V)} (h : okP m) : okP (dropV key m) := by
  refine ⟨?_, fun p hp => h.2 p (List.mem_filter.1 hp).1⟩
  have h1 := List.length_filter_le (fun p => !isK key p) m
  have h2 := h.1
  simp only [dropV]
  omega
theorem okI_own {x : It} (h : okI x) : okI (ownedI x) := { h with attrs := okP_drop h.attrs }
/-- All but the items' number. -/
structure okH (g : Gr) : Prop where
  res : okP g.res
  scope : g.scope.size ≤ 140737488351232
  ver : g.ver.size ≤ 140737488351232
  attrs : okP g.attrs
  items : ∀ x ∈ g.items, okI x
theorem okG.h {g : Gr} (h : okG g) : okH g := ⟨h.res, h.scope, h.ver, h.attrs, h.items.2⟩
theorem okH.g {g : Gr} (h : okH g) (hl : g.items.length ≤ 8192) : okG g := ⟨h.res, h.scope, h.ver, h.attrs, by omega, h.items⟩
theorem okH_own {g : Gr} (h : okH g) : okH (ownedG g) := ⟨okP_drop h.res, h.scope, h.ver, okP_drop h.attrs, fun x hx => by cases hx⟩
theorem okH_add {g : Gr} {x : It} (h : okH g) (hx : okI x) : okH (addI g x) := by
  refine ⟨h.res, h.scope, h.ver, h.attrs, fun y hy => ?_⟩
  rcases List.mem_append.1 hy with hy | hy
  · exact h.items y hy
  · rw [List.mem_singleton.1 hy]; exact hx
theorem okH_push {out : List Gr} {x : It} (h : ∀ g ∈ out, okH g) (hx : okI x) : ∀ g ∈ pushI out x, okH g := by
  unfold pushI
  split
  · rename_i g0 h0
    intro g hg
    rcases List.mem_or_eq_of_mem_set hg with hg | rfl
    · exact h g hg
    · exact okH_add (h g0 (List.mem_of_getElem? h0)) hx
  · exact h
theorem flI_mem {gs : List Gr} {i : Nat} {x : It} (h : (i, x) ∈ flI gs) : ∃ g ∈ gs, gs[i]? = some g ∧ x ∈ g.items := by
  obtain ⟨⟨g, k⟩, hg, hx⟩ := List.mem_flatMap.1 h
  obtain ⟨y, hy, he⟩ := List.mem_map.1 hx
  cases he
  rw [List.mem_zipIdx_iff_getElem?] at hg
  exact ⟨g, List.mem_of_getElem? hg, hg, hy⟩
theorem runC_ok {p : Nat → Bool} {gs : List Gr} (h : ∀ g ∈ gs, okH g) : ∀ n, ∀ g ∈ (runC p gs n).out, okH g
  | 0 => fun g hg => by cases hg
  | n + 1 => by
    have ih := runC_ok (p := p) h n
    unfold runC
    split
    · rename_i i x hx
      obtain ⟨g0, hg0, hi, hx0⟩ := flI_mem (List.mem_of_getElem? hx)
      have hxo := okI_own ((h g0 hg0).items x hx0)
      unfold stepC
      split
      · split
        · exact okH_push ih hxo
        · refine okH_push (fun g hg => ?_) hxo
          rcases List.mem_append.1 hg with hg | hg
          · exact ih g hg
          · rw [List.mem_singleton.1 hg, hi]
            exact okH_own (h g0 hg0)
      · exact ih
    · exact ih
theorem okD_of {s : Nat} {gs : List Gr} {n : Nat} (hs : s < 256) (h : ∀ g ∈ gs, okH g) (hn : n ≤ 8192) (hl : gs.length ≤ n) (hi : ∀ g ∈ gs, g.items.length ≤ n) : okD ⟨s, gs⟩ := ⟨hs, by simp only; omega, fun g hg => (h g hg).g (by have := hi g hg; omega)⟩
theorem okD.h {d : Da} (h : okD d) : ∀ g ∈ d.gs, okH g := fun g hg => (h.gs.2 g hg).h
theorem okD_d0 : okD d0 := ⟨by decide, by simp [d0], fun g hg => by cases hg⟩
theorem choD_ok {d : Da} {p : Nat → Bool} (h : okD d) (hn : nIt d.gs ≤ 1024) : okD (choD d p) :=
  have hv := runC_inv p d.gs (nIt d.gs)
  okD_of h.sig (runC_ok h.h _) (by omega) hv.many hv.long
theorem okH_addAt {out : List Gr} {i : Nat} {xs : List It} (h : ∀ g ∈ out, okH g) (hx : ∀ x ∈ xs, okI x) : ∀ g ∈ addAt out i xs, okH g := by
  unfold addAt
  split
  · rename_i g0 h0
    intro g hg
    rcases List.mem_or_eq_of_mem_set hg with hg | rfl
    · exact h g hg
    · have h1 := h g0 (List.mem_of_getElem? h0)
      refine ⟨h1.res, h1.scope, h1.ver, h1.attrs, fun y hy => ?_⟩
      rcases List.mem_append.1 hy with hy | hy
      · exact h1.items y hy
      · exact hx y hy
  · exact h
theorem okH_put {out : List Gr} {g : Gr} {ap : Bool} (h : ∀ g ∈ out, okH g) (hg : okH g) : ∀ y ∈ putG out g ap, okH y := by
  have hx : ∀ x ∈ g.items.map ownedI, okI x := fun x hx => by
    obtain ⟨y, hy, rfl⟩ := List.mem_map.1 hx
    exact okI_own (hg.items y hy)
  unfold putG
  split
  · exact okH_addAt h hx
  · refine okH_addAt (fun y hy => ?_) hx
    rcases List.mem_append.1 hy with hy | hy
    · exact h y hy
    · rw [List.mem_singleton.1 hy]; exact okH_own hg
theorem okH_putAll {ap : Bool} : ∀ {gs out : List Gr}, (∀ g ∈ out, okH g) → (∀ g ∈ gs, okH g) → ∀ y ∈ putAll out ap gs, okH y
  | [], _, h, _ => h
  | g :: gs, out, h, hg => by
    have h1 := okH_putAll (ap := ap) (okH_put (ap := ap) h (hg g (List.mem_cons_self ..))) fun y hy => hg y (List.mem_cons_of_mem _ hy)
    exact h1
theorem mgE_ok {a b : Da} (h : mgE a b = 0) : daE a = 0 ∧ daE b = 0 ∧ a.sig = b.sig ∧ nIt a.gs + nIt b.gs ≤ 1024 := by
  unfold mgE at h
  obtain ⟨h1, h⟩ := fst0_cons0 h
  obtain ⟨h2, h⟩ := fst0_cons0 h
  obtain ⟨h3, h⟩ := fst0_cons0 h
  obtain ⟨h4, h⟩ := fst0_cons0 h
  refine ⟨h1, h2, ?_, ?_⟩
  · by_cases e : a.sig = b.sig
    · exact e
    · rw [if_neg e] at h3; cases h3
  · by_cases e : nIt a.gs + nIt b.gs ≤ 1024
    · exact e
    · rw [if_neg e] at h4; cases h4
theorem mgOut_nIt (a b : Da) : nIt (mgOut a b) = nIt a.gs + nIt b.gs := by
  rw [mgOut, putAll_nIt, putAll_nIt]
  simp [nIt]
theorem mergeR_ok {a b : Da} (ha : okD a) (hb : okD b) : okD (mergeR a b).1 := by
  unfold mergeR
  split
  · rename_i h0
    split
    · rename_i h1
      obtain ⟨_, _, _, hn⟩ := mgE_ok h0
      have hm := mgOut_nIt a b
      exact okD_of (n := 1024) ha.sig (okH_putAll (okH_putAll (fun g hg => by cases hg) ha.h) hb.h) (by omega) (by omega) fun g hg => by have := nIt_mem hg; omega
    · exact okD_d0
  · exact okD_d0
theorem splR_ok {d : Da} {n : Int} (h : okD d) : okD (splR d n).1 ∧ okD (splR d n).2.1 := by
  unfold splR
  split
  · rename_i h0
    have hn := (daE_ok (fst0_cons0 (show fst0 [daE d, if decide (0 ≤ n) then 0 else 2] = 0 from h0)).1).2.2.1
    exact ⟨choD_ok h hn, choD_ok h hn⟩
  · exact ⟨okD_d0, okD_d0⟩
def tidyR (d : Da) : Da × Nat := if (splR d 1024).2.2 = 0 then mergeR ⟨d.sig, []⟩ (splR d 1024).1 else (d0, (splR d 1024).2.2)
theorem Tidy_c {W0 : World} (hT : Tabs W0) (d : Da) (hd : okD d) : APure Tryd.prog W0 22 [xa d] (· = .ret (.tup [xa (tidyR d).1, .d (.v (.int .i64 ((tidyR d).2 : Nat)))])) := by
  have c1 := Split_c (W0 := W0) hT d hd 1024
  have hok := (splR_ok (n := 1024) hd).1
  have c2 := Merge_c (W0 := W0) hT ⟨d.sig, []⟩ (splR d 1024).1 ⟨hd.sig, by simp, fun g hg => by cases hg⟩ hok
  unfold tidyR
  generalize splR d 1024 = s at c1 c2 ⊢
  have c3 := pure_le (args' := [.agg [.d (.v (.int .u8 d.sig)), .d .e], xa s.1]) c2 (LeL.cons (Le.agg (.cons (Le.refl _) (.cons (Le.nil (by decide)) .nil))) (LeL.refl _))
  clear c2
  generalize mergeR ⟨d.sig, []⟩ s.1 = r at c3 ⊢
  obtain ⟨s1, s2, e⟩ := s
  simp only at c1 c3 ⊢
  refine A_body Tryd.func22 rfl (Nat.le_of_ble_eq_true rfl) ?_
  simp only [go_sem, Tryd.ntmps22, Tryd.results22, mkEnv]
  repeat (first | refine wS ?_ | refine wB ?_ | (refine wR ?_; simp only [go_sem]) | (refine wT ?_ ?_; focus (simp only [go_sem]; done)) | (refine wF ?_ ?_; focus (simp only [go_sem]; done)) | (refine wK ?_; try simp only [go_sem]) | (refine wE ?_; try simp only [go_sem]) | refine wX ?_)
  refine wC (c1) ?_
  simp only [go_sem]
  repeat (first | refine wS ?_ | refine wB ?_ | (refine wR ?_; simp only [go_sem]) | (refine wT ?_ ?_; focus (simp only [go_sem]; done)) | (refine wF ?_ ?_; focus (simp only [go_sem]; done)) | (refine wK ?_; try simp only [go_sem]) | (refine wE ?_; try simp only [go_sem]) | refine wX ?_)
  by_cases h0 : e = 0
  · subst h0
    rw [if_pos rfl]
    simp only [go_sem]
    repeat (first | refine wS ?_ | refine wB ?_ | (refine wR ?_; simp only [go_sem]) | (refine wT ?_ ?_; focus (simp only [go_sem]; done)) | (refine wF ?_ ?_; focus (simp only [go_sem]; done)) | (refine wK ?_; try simp only [go_sem]) | (refine wE ?_; try simp only [go_sem]) | refine wX ?_)
    refine wC (c3) ?_
    simp only [go_sem]
    repeat (first | refine wS ?_ | refine wB ?_ | (refine wR ?_; simp only [go_sem]) | (refine wT ?_ ?_; focus (simp only [go_sem]; done)) | (refine wF ?_ ?_; focus (simp only [go_sem]; done)) | (refine wK ?_; try simp only [go_sem]) | (refine wE ?_; try simp only [go_sem]) | refine wX ?_)
    exact wRet ⟨rfl, rfl⟩
  · rw [if_neg h0]
    have hne : (((e : Nat) : Int) != 0) = true := by simp [h0]
    simp only [go_sem, hne]
    repeat (first | refine wS ?_ | refine wB ?_ | (refine wR ?_; simp only [go_sem]) | (refine wT ?_ ?_; focus (simp only [go_sem]; done)) | (refine wF ?_ ?_; focus (simp only [go_sem]; done)) | (refine wK ?_; try simp only [go_sem]) | (refine wE ?_; try simp only [go_sem]) | refine wX ?_)
    simp only [Thn, InB]
    exact wRet ⟨rfl, rfl⟩ (hle := Le.tup (LeL.cons Le_d0 (LeL.refl _)))
end Go.Proofs.YtfbegbpipmgfiaaDoor.Lift
end
section
/- pdata: what is chosen, group by group; of right data all is as it was. Plain laws. No conditions. -/
set_option linter.unusedVariables false
set_option linter.unusedSimpArgs false
set_option maxHeartbeats 4000000
set_option maxRecDepth 100000
namespace Go.Proofs.YtfbegbpipmgfiaaDoor.Lift
open Go Go.RowKit

def pickT (p : Nat → Bool) : Nat → List It → List It
  | _, [] => []
  | k, x :: l => if p k = true then x :: pickT p (k + 1) l else pickT p (k + 1) l
def withI (g : Gr) (l : List It) : Gr := { g with items := l }
def keepG (p : Nat → Bool) : Nat → List Gr → List Gr
  | _, [] => []
  | k, g :: gs => if pickT p k g.items = [] then keepG p (k + g.items.length) gs else withI (ownedG g) ((pickT p k g.items).map ownedI) :: keepG p (k + g.items.length) gs
def foldC (p : Nat → Bool) (gs0 : List Gr) : CS → Nat → List (Nat × It) → CS
  | s, _, [] => s
  | s, n, q :: l => foldC p gs0 (stepC p gs0 s n q.1 q.2) (n + 1) l
theorem foldC_app (p : Nat → Bool) (gs0 : List Gr) : ∀ (l l' : List (Nat × It)) (s : CS) (n : Nat), foldC p gs0 s n (l ++ l') = foldC p gs0 (foldC p gs0 s n l) (n + l.length) l'
  | [], _, _, _ => rfl
  | q :: l, l', s, n => by
    simp only [List.cons_append, foldC, foldC_app p gs0 l l', List.length_cons]
    rw [show n + 1 + l.length = n + (l.length + 1) by omega]
theorem runC_fold (p : Nat → Bool) (gs : List Gr) : ∀ n, n ≤ (flI gs).length → runC p gs n = foldC p gs ⟨[], -1⟩ 0 ((flI gs).take n)
  | 0, _ => rfl
  | n + 1, h => by
    have hx : (flI gs)[n]? = some (flI gs)[n] := List.getElem?_eq_getElem (by omega)
    rw [List.take_add_one, hx, foldC_app, ← runC_fold p gs n (by omega), runC, hx]
    simp only [Option.toList_some, foldC, List.length_take, Nat.zero_add]
    rw [show min n (flI gs).length = n by omega]
theorem pushI_snoc (o : List Gr) (h : Gr) (x : It) : pushI (o ++ [h]) x = o ++ [addI h x] := by
  rw [pushI_some (g := h) (by simp)]
  simp
theorem foldC_same (p : Nat → Bool) (gs0 : List Gr) (i : Nat) : ∀ (l : List It) (n : Nat) (o : List Gr) (h : Gr), foldC p gs0 ⟨o ++ [h], i⟩ n (l.map fun x => (i, x)) = ⟨o ++ [withI h (h.items ++ (pickT p n l).map ownedI)], i⟩
  | [], n, o, h => by simp [foldC, pickT, withI]
  | x :: l, n, o, h => by
    simp only [List.map_cons, foldC, stepC, if_true]
    by_cases hp : p n = true
    · rw [if_pos hp, pushI_snoc, foldC_same p gs0 i l, pickT, if_pos hp]
      simp [addI, withI]
    · rw [if_neg hp, foldC_same p gs0 i l, pickT, if_neg hp]
theorem foldC_new (p : Nat → Bool) (gs0 : List Gr) (i : Nat) (g : Gr) (hg : gs0[i]? = some g) : ∀ (l : List It) (n : Nat) (s : CS), (i : Int) ≠ s.last →
    foldC p gs0 s n (l.map fun x => (i, x)) = if pickT p n l = [] then s else ⟨s.out ++ [withI (ownedG g) ((pickT p n l).map ownedI)], i⟩
  | [], n, s, _ => by simp [foldC, pickT]
  | x :: l, n, s, h => by
    simp only [List.map_cons, foldC, stepC]
    by_cases hp : p n = true
    · rw [if_pos hp, if_neg h, hg, Option.getD_some, pushI_snoc, foldC_same, pickT, if_pos hp, if_neg (List.cons_ne_nil _ _)]
      simp [addI, withI, ownedG]
    · rw [if_neg hp, foldC_new p gs0 i g hg l (n + 1) s h, pickT, if_neg hp]
theorem foldC_all (p : Nat → Bool) (gs0 : List Gr) : ∀ (gs : List Gr) (k n : Nat) (s : CS), gs0.drop k = gs → s.last < k → (foldC p gs0 s n ((gs.zipIdx k).flatMap fun g => g.1.items.map fun x => (g.2, x))).out = s.out ++ keepG p n gs
  | [], k, n, s, _, _ => by simp [foldC, keepG]
  | g :: gs, k, n, s, h, hl => by
    have hg : gs0[k]? = some g := by
      have : (gs0.drop k)[0]? = some g := by rw [h]; rfl
      rwa [List.getElem?_drop, Nat.add_zero] at this
    have hd : gs0.drop (k + 1) = gs := by rw [← List.drop_drop, h]; rfl
    rw [List.zipIdx_cons, List.flatMap_cons, foldC_app, foldC_new p gs0 k g hg _ _ _ (by omega), List.length_map, keepG]
    by_cases hp : pickT p n g.items = []
    · rw [if_pos hp, if_pos hp, foldC_all p gs0 gs (k + 1) _ s hd (by omega)]
    · rw [if_neg hp, if_neg hp, foldC_all p gs0 gs (k + 1) _ _ hd (by simp only; omega)]
      simp
theorem choD_keep (d : Da) (p : Nat → Bool) : choD d p = ⟨d.sig, keepG p 0 d.gs⟩ := by
  have hl := flI_len d.gs
  unfold choD
  rw [runC_fold p d.gs _ (by omega), ← hl, List.take_length]
  have := foldC_all p d.gs d.gs 0 0 ⟨[], -1⟩ rfl (by decide)
  rw [List.nil_append] at this
  exact congrArg (Da.mk d.sig) this

theorem fst0_all {l : List Nat} : fst0 l = 0 ↔ ∀ c ∈ l, c = 0 := by
  induction l with
  | nil => simp [fst0]
  | cons c l ih =>
    rw [fst0]
    by_cases h : c = 0
    · rw [if_pos h, ih]; simp [h]
    · rw [if_neg h]; simp [h]
theorem toList_inj {a b : ByteArray} (h : a.toList = b.toList) : a = b := by
  rw [ByteArray.toList_eq, ByteArray.toList_eq] at h
  exact ByteArray.ext (Array.toList_inj.1 h)
theorem badKey_no : Lib.validD badKey.data.toList = false := by kernel_rfl
theorem chkAll_bad {m : List (ByteArray × V)} (h : chkAll m = 0) : dropV badKey m = m := by
  unfold chkAll at h
  split at h
  · cases h
  · unfold chkPs at h
    split at h
    · rename_i h1
      exact absurd h h1
    · rename_i h1
      have h2 : chkP m 0 = 0 := Decidable.byContradiction fun e => h1 e
      rw [chkP_fst, fst0_all] at h2
      unfold dropV
      refine List.filter_eq_self.2 fun p hp => ?_
      have h3 := h2 _ (List.mem_map_of_mem hp)
      unfold chk1 at h3
      split at h3
      · rename_i h4
        cases hk : isK badKey p with
        | false => rfl
        | true =>
          exfalso
          have h5 : p.1 = badKey := by
            simp only [isK, beq_iff_eq] at hk
            exact toList_inj hk
          rw [h5] at h4
          unfold keyE at h4
          rw [badKey_no] at h4
          split at h4 <;> cases h4
      · rename_i h4
        exact absurd h3 h4
theorem itE_own {x : It} {s : Nat} (h : itE x s = 0) : ownedI x = x := by
  unfold itE at h
  rw [fst0_all] at h
  have h1 := chkAll_bad (h (chkAll x.attrs) (by simp))
  unfold ownedI
  rw [h1]
theorem grE_ok {g : Gr} {s : Nat} (h : grE s g = 0) : chkAll g.res = 0 ∧ keyE g.scope = 0 ∧ keyE g.ver = 0 ∧ chkAll g.attrs = 0 ∧ ∀ x ∈ g.items, itE x s = 0 := by
  unfold grE at h
  rw [fst0_all] at h
  exact ⟨h _ (by simp), h _ (by simp), h _ (by simp), h _ (by simp), fun x hx => h _ (List.mem_append_right _ (List.mem_map_of_mem (f := (itE · s)) hx))⟩
theorem grE_mk {g : Gr} {s : Nat} (h1 : chkAll g.res = 0) (h2 : keyE g.scope = 0) (h3 : keyE g.ver = 0) (h4 : chkAll g.attrs = 0) (h5 : ∀ x ∈ g.items, itE x s = 0) : grE s g = 0 := by
  unfold grE
  rw [fst0_all]
  intro c hc
  rcases List.mem_append.1 hc with hc | hc
  · simp only [List.mem_cons, List.not_mem_nil, or_false] at hc
    rcases hc with rfl | rfl | rfl | rfl <;> assumption
  · obtain ⟨x, hx, rfl⟩ := List.mem_map.1 hc
    exact h5 x hx
theorem grE_own {g : Gr} {s : Nat} (h : grE s g = 0) : ownedG g = withI g [] ∧ ∀ l, (∀ x ∈ l, itE x s = 0) → withI (ownedG g) (l.map ownedI) = withI g l := by
  obtain ⟨h1, _, _, h4, _⟩ := grE_ok h
  have e : ownedG g = withI g [] := by
    unfold ownedG withI
    rw [chkAll_bad h1, chkAll_bad h4]
  refine ⟨e, fun l hl => ?_⟩
  rw [e, show l.map ownedI = l from (List.map_congr_left fun x hx => itE_own (hl x hx)).trans (List.map_id _)]
  rfl
theorem grE_with {g : Gr} {s : Nat} (h : grE s g = 0) {l : List It} (hl : ∀ x ∈ l, itE x s = 0) : grE s (withI g l) = 0 :=
  have ⟨h1, h2, h3, h4, _⟩ := grE_ok h
  grE_mk h1 h2 h3 h4 hl
theorem daE_iff {d : Da} : daE d = 0 ↔ sigB d.sig = true ∧ d.gs.length ≤ 64 ∧ nIt d.gs ≤ 1024 ∧ ∀ g ∈ d.gs, grE d.sig g = 0 := by
  refine ⟨fun h => ?_, fun ⟨h1, h2, h3, h4⟩ => ?_⟩
  · obtain ⟨h1, h2, h3, h4⟩ := daE_ok h
    rw [fst0_all] at h4
    exact ⟨h1, h2, h3, fun g hg => h4 _ (List.mem_map_of_mem hg)⟩
  · unfold daE
    have hm : manyB d = true := by
      unfold manyB
      simp only [Bool.and_eq_true, decide_eq_true_eq]
      omega
    rw [h1, hm, fst0_all]
    intro c hc
    simp only [if_true, List.mem_cons] at hc
    rcases hc with rfl | rfl | hc
    · rfl
    · rfl
    · obtain ⟨g, hg, rfl⟩ := List.mem_map.1 hc
      exact h4 g hg
theorem pickT_mem {p : Nat → Bool} : ∀ {l : List It} {k : Nat} {x : It}, x ∈ pickT p k l → x ∈ l
  | [], _, _, h => h
  | y :: l, k, x, h => by
    rw [pickT] at h
    split at h
    · rcases List.mem_cons.1 h with rfl | h
      · exact List.mem_cons_self ..
      · exact List.mem_cons_of_mem _ (pickT_mem h)
    · exact List.mem_cons_of_mem _ (pickT_mem h)
theorem pickT_app (p : Nat → Bool) : ∀ (l l' : List It) (k : Nat), pickT p k (l ++ l') = pickT p k l ++ pickT p (k + l.length) l'
  | [], l', k => rfl
  | x :: l, l', k => by
    simp only [List.cons_append, pickT, pickT_app p l l' (k + 1), List.length_cons, show k + 1 + l.length = k + (l.length + 1) by omega]
    split <;> rfl
theorem pickT_lt (n : Int) : ∀ (l : List It) (k : Nat), pickT (fun i => decide ((i : Int) < n)) k l = l.take (n - k).toNat
  | [], _ => by simp [pickT]
  | x :: l, k => by
    rw [pickT]
    by_cases h : (k : Int) < n
    · rw [if_pos (decide_eq_true h), pickT_lt n l (k + 1), show (n - (k : Int)).toNat = (n - ((k + 1 : Nat) : Int)).toNat + 1 by omega, List.take_succ_cons]
    · rw [if_neg (by simpa using h), pickT_lt n l (k + 1), show (n - (k : Int)).toNat = 0 by omega, show (n - ((k + 1 : Nat) : Int)).toNat = 0 by omega]
      rfl
theorem pickT_ge (n : Int) : ∀ (l : List It) (k : Nat), pickT (fun i => decide (n ≤ (i : Int))) k l = l.drop (n - k).toNat
  | [], _ => by simp [pickT]
  | x :: l, k => by
    rw [pickT]
    by_cases h : (k : Int) < n
    · rw [if_neg (by simpa using h), pickT_ge n l (k + 1), show (n - (k : Int)).toNat = (n - ((k + 1 : Nat) : Int)).toNat + 1 by omega, List.drop_succ_cons]
    · rw [if_pos (by simpa using h), pickT_ge n l (k + 1), show (n - (k : Int)).toNat = 0 by omega, show (n - ((k + 1 : Nat) : Int)).toNat = 0 by omega]
      rfl
/-- What is kept of right data. -/
def rawG (p : Nat → Bool) : Nat → List Gr → List Gr
  | _, [] => []
  | k, g :: gs => if pickT p k g.items = [] then rawG p (k + g.items.length) gs else withI g (pickT p k g.items) :: rawG p (k + g.items.length) gs
theorem keepG_raw {p : Nat → Bool} {s : Nat} : ∀ {gs : List Gr} {k : Nat}, (∀ g ∈ gs, grE s g = 0) → keepG p k gs = rawG p k gs
  | [], _, _ => rfl
  | g :: gs, k, h => by
    have hg := h g (List.mem_cons_self ..)
    have hi := (grE_ok hg).2.2.2.2
    rw [keepG, rawG, keepG_raw fun g hg => h g (List.mem_cons_of_mem _ hg), (grE_own hg).2 _ fun x hx => hi x (pickT_mem hx)]
def allI (gs : List Gr) : List It := gs.flatMap (·.items)
theorem allI_cons (g : Gr) (gs : List Gr) : allI (g :: gs) = g.items ++ allI gs := rfl
theorem allI_len (gs : List Gr) : (allI gs).length = nIt gs := by
  induction gs with
  | nil => rfl
  | cons g gs ih => rw [allI_cons, List.length_append, ih, nIt_cons]
theorem rawG_all (p : Nat → Bool) : ∀ (gs : List Gr) (k : Nat), allI (rawG p k gs) = pickT p k (allI gs)
  | [], _ => rfl
  | g :: gs, k => by
    rw [rawG, allI_cons, pickT_app]
    split
    · rename_i h
      rw [h, rawG_all p gs, List.nil_append]
    · rw [allI_cons, rawG_all p gs]
      rfl
theorem rawG_len (p : Nat → Bool) : ∀ (gs : List Gr) (k : Nat), (rawG p k gs).length ≤ gs.length
  | [], _ => Nat.le_refl _
  | g :: gs, k => by
    have := rawG_len p gs (k + g.items.length)
    rw [rawG]
    split <;> simp only [List.length_cons] <;> omega
theorem pickT_len (p : Nat → Bool) : ∀ (l : List It) (k : Nat), (pickT p k l).length ≤ l.length
  | [], _ => Nat.le_refl _
  | x :: l, k => by
    have := pickT_len p l (k + 1)
    rw [pickT]
    split <;> simp only [List.length_cons] <;> omega
theorem rawG_nIt (p : Nat → Bool) (gs : List Gr) (k : Nat) : nIt (rawG p k gs) ≤ nIt gs := by
  rw [← allI_len, ← allI_len, rawG_all]
  exact pickT_len p _ _
theorem rawG_mem {p : Nat → Bool} : ∀ {gs : List Gr} {k : Nat} {g : Gr}, g ∈ rawG p k gs → g.items ≠ [] ∧ ∃ g0 ∈ gs, ∃ l, g = withI g0 l ∧ ∀ x ∈ l, x ∈ g0.items
  | [], _, _, h => by cases h
  | g0 :: gs, k, g, h => by
    have key : g ∈ rawG p (k + g0.items.length) gs → g.items ≠ [] ∧ ∃ g1 ∈ g0 :: gs, ∃ l, g = withI g1 l ∧ ∀ x ∈ l, x ∈ g1.items := fun h => by
      obtain ⟨h1, g1, h2, h3⟩ := rawG_mem h
      exact ⟨h1, g1, List.mem_cons_of_mem _ h2, h3⟩
    rw [rawG] at h
    split at h
    · exact key h
    · rename_i hp
      rcases List.mem_cons.1 h with rfl | h
      · exact ⟨hp, g0, List.mem_cons_self .., _, rfl, fun x hx => pickT_mem hx⟩
      · exact key h
theorem rawG_ok {p : Nat → Bool} {d : Da} (h : daE d = 0) (k : Nat) : daE ⟨d.sig, rawG p k d.gs⟩ = 0 := by
  obtain ⟨h1, h2, h3, h4⟩ := daE_iff.1 h
  have hl := rawG_len p d.gs k
  have hn := rawG_nIt p d.gs k
  refine daE_iff.2 ⟨h1, by simp only; omega, by simp only; omega, fun g hg => ?_⟩
  obtain ⟨_, g0, hg0, l, rfl, hx⟩ := rawG_mem hg
  have hi := h4 g0 hg0
  exact grE_with hi fun x hx0 => (grE_ok hi).2.2.2.2 x (hx x hx0)
theorem choD_raw {d : Da} (h : daE d = 0) (p : Nat → Bool) : choD d p = ⟨d.sig, rawG p 0 d.gs⟩ := by
  rw [choD_keep, keepG_raw (daE_iff.1 h).2.2.2]
end Go.Proofs.YtfbegbpipmgfiaaDoor.Lift
end
section
/- pdata: what is the same is one. Plain laws. No conditions. -/
set_option linter.unusedVariables false
set_option linter.unusedSimpArgs false
set_option maxHeartbeats 4000000
set_option maxRecDepth 100000
namespace Go.Proofs.YtfbegbpipmgfiaaDoor.Lift
open Go Go.RowKit

theorem eqL_iff {α : Type} {p : α → α → Bool} : ∀ {l l' : List α}, (∀ x ∈ l, ∀ y, p x y = true ↔ x = y) → (eqL p l l' = true ↔ l = l')
  | [], [], _ => by simp [eqL]
  | x :: l, y :: l', h => by
    have h1 := h x (List.mem_cons_self ..) y
    have h2 := eqL_iff (l := l) (l' := l') fun x hx => h x (List.mem_cons_of_mem _ hx)
    rw [eqL, Bool.and_eq_true, h1, h2, List.cons.injEq]
  | [], _ :: _, _ => by simp [eqL]
  | _ :: _, [], _ => by simp [eqL]
theorem tlB {a b : ByteArray} : (a.toList == b.toList) = true ↔ a = b := by
  rw [beq_iff_eq]
  exact ⟨toList_inj, fun h => by rw [h]⟩
theorem tlE {a b : ByteArray} : a.toList = b.toList ↔ a = b := ⟨toList_inj, fun h => by rw [h]⟩
theorem natB {a b : Nat} : ((a : Int) == (b : Int)) = true ↔ a = b := by
  rw [beq_iff_eq]
  omega
theorem same_iff (x y : V) : same x y = true ↔ x = y := by
  revert y
  refine V.ind (p := fun x => ∀ y, same x y = true ↔ x = y) (fun k s b n f l m hl hm y => ?_) x
  obtain ⟨k', s', b', n', f', l', m'⟩ := y
  have h1 := eqL_iff (p := same) (l := l) (l' := l') hl
  have h2 := eqL_iff (p := sameK) (l := m) (l' := m') fun p hp q => by
    rw [sameK, Bool.and_eq_true, tlB, hm p hp]
    exact ⟨fun ⟨a, b⟩ => Prod.ext a b, fun h => by rw [h]; exact ⟨rfl, rfl⟩⟩
  simp only [same, flat, Bool.and_eq_true, sames_eqL, sameP_eqL, h1, h2, beq_iff_eq, Int.natCast_inj, tlE, V.mk.injEq]
  exact ⟨fun ⟨⟨⟨⟨⟨⟨⟨⟨a, b⟩, c⟩, d⟩, e⟩, _⟩, _⟩, g⟩, h⟩ => ⟨a, b, c, d, e, g, h⟩, fun ⟨a, b, c, d, e, g, h⟩ => ⟨⟨⟨⟨⟨⟨⟨⟨a, b⟩, c⟩, d⟩, e⟩, by rw [g]⟩, by rw [h]⟩, g⟩, h⟩⟩
theorem sameP_iff {l l' : List (ByteArray × V)} : sameP l l' = true ↔ l = l' := by
  rw [sameP_eqL]
  exact eqL_iff fun p _ q => by
    rw [sameK, Bool.and_eq_true, tlB, same_iff]
    exact ⟨fun ⟨a, b⟩ => Prod.ext a b, fun h => by rw [h]; exact ⟨rfl, rfl⟩⟩
theorem bitsB_iff {x y : Nat} : bitsB x y = true ↔ x = y := natB
theorem samePt_iff {a b : Pt} : samePt a b = true ↔ a = b := by
  obtain ⟨a1, a2, a3, a4, a5, a6, a7, a8, a9, a10, a11, a12, a13, a14⟩ := a
  obtain ⟨b1, b2, b3, b4, b5, b6, b7, b8, b9, b10, b11, b12, b13, b14⟩ := b
  have hq : ∀ l l' : List (Nat × Nat), eqL quantB l l' = true ↔ l = l' := fun l l' => eqL_iff fun x _ y => by
    rw [quantB, Bool.and_eq_true, bitsB_iff, bitsB_iff]
    exact ⟨fun ⟨a, b⟩ => Prod.ext a b, fun h => by rw [h]; exact ⟨rfl, rfl⟩⟩
  have hb : ∀ l l' : List Nat, eqL bitsB l l' = true ↔ l = l' := fun l l' => eqL_iff fun x _ y => bitsB_iff
  simp only [samePt, headPt, Bool.and_eq_true, hq, hb, bitsB_iff, beq_iff_eq, Int.natCast_inj, Pt.mk.injEq]
  exact ⟨fun h => by simp [h], fun h => by simp [h]⟩
theorem sameI_iff {a b : It} : sameI a b = true ↔ a = b := by
  obtain ⟨a1, a2, a3, a4, a5, a6, a7, a8, a9, a10, a11, a12, a13, a14, a15⟩ := a
  obtain ⟨b1, b2, b3, b4, b5, b6, b7, b8, b9, b10, b11, b12, b13, b14, b15⟩ := b
  simp only [sameI, idsB, namesB, Bool.and_eq_true, samePt_iff, sameP_iff, same_iff, beq_iff_eq, Int.natCast_inj, tlE, It.mk.injEq]
  exact ⟨fun h => by simp [h], fun h => by simp [h]⟩
/-- Two groups of one head. -/
theorem alikeB_iff {a b : Gr} : alikeB a b = true ↔ withI a [] = withI b [] := by
  obtain ⟨a1, a2, a3, a4, a5⟩ := a
  obtain ⟨b1, b2, b3, b4, b5⟩ := b
  simp only [alikeB, withI, Bool.and_eq_true, sameP_iff, beq_iff_eq, tlE, Gr.mk.injEq, and_true]
  exact ⟨fun ⟨⟨⟨a, b⟩, c⟩, d⟩ => ⟨c, a, b, d⟩, fun ⟨c, a, b, d⟩ => ⟨⟨⟨a, b⟩, c⟩, d⟩⟩
end Go.Proofs.YtfbegbpipmgfiaaDoor.Lift
end
section
/- pdata: what is put together: no two groups alike, all items, in order; tidied, split and put together. Plain laws. No conditions. -/
set_option linter.unusedVariables false
set_option linter.unusedSimpArgs false
set_option maxHeartbeats 4000000
set_option maxRecDepth 100000
namespace Go.Proofs.YtfbegbpipmgfiaaDoor.Lift
open Go Go.RowKit

def headG (g : Gr) : Gr := withI g []
theorem withI_self (g : Gr) : withI g g.items = g := rfl
def uniqG (gs : List Gr) : Prop := gs.Pairwise fun a b => headG a ≠ headG b
def putR (o : List Gr) (g : Gr) : List Gr := match fI (alikeB g) o with
  | some i => addAt o i g.items
  | none => o ++ [g]
def putsR (o gs : List Gr) : List Gr := gs.foldl putR o
theorem addAt_last (o : List Gr) (g : Gr) (xs : List It) : addAt (o ++ [g]) o.length xs = o ++ [withI g (g.items ++ xs)] := by
  rw [addAt_some (g := g) (by simp)]
  simp [withI]
theorem own_items {g : Gr} {s : Nat} (h : grE s g = 0) : g.items.map ownedI = g.items := (List.map_congr_left fun x hx => itE_own ((grE_ok h).2.2.2.2 x hx)).trans (List.map_id _)
theorem putG_true {o : List Gr} {g : Gr} {s : Nat} (h : grE s g = 0) : putG o g true = o ++ [g] := by
  simp only [putG, findG, if_true, own_items h, (grE_own h).1, addAt_last]
  rfl
theorem putG_false {o : List Gr} {g : Gr} {s : Nat} (h : grE s g = 0) : putG o g false = putR o g := by
  simp only [putG, findG, Bool.false_eq_true, if_false, own_items h, (grE_own h).1, addAt_last, putR]
  rfl
theorem putAll_true {s : Nat} : ∀ {gs : List Gr} (o : List Gr), (∀ g ∈ gs, grE s g = 0) → putAll o true gs = o ++ gs
  | [], o, _ => by simp [putAll]
  | g :: gs, o, h => by
    have h1 := putAll_true (gs := gs) (o ++ [g]) fun g hg => h g (List.mem_cons_of_mem _ hg)
    simp only [putAll, List.foldl_cons] at h1 ⊢
    rw [putG_true (h g (List.mem_cons_self ..)), h1]
    simp
theorem putAll_false {s : Nat} : ∀ {gs : List Gr} (o : List Gr), (∀ g ∈ gs, grE s g = 0) → putAll o false gs = putsR o gs
  | [], o, _ => rfl
  | g :: gs, o, h => by
    have h1 := putAll_false (gs := gs) (putR o g) fun g hg => h g (List.mem_cons_of_mem _ hg)
    simp only [putAll, putsR, List.foldl_cons] at h1 ⊢
    rw [putG_false (h g (List.mem_cons_self ..)), h1]
theorem fI_at {g : Gr} : ∀ {o : List Gr} {i : Nat}, fI (alikeB g) o = some i → ∃ x, o[i]? = some x ∧ headG g = headG x
  | [], _, h => by cases h
  | y :: o, i, h => by
    rw [fI] at h
    by_cases ha : alikeB g y = true
    · rw [if_pos ha] at h
      cases h
      exact ⟨y, rfl, alikeB_iff.1 ha⟩
    · rw [if_neg ha] at h
      obtain ⟨j, hj, rfl⟩ : ∃ j, fI (alikeB g) o = some j ∧ i = j + 1 := by
        cases hf : fI (alikeB g) o with
        | none => rw [hf] at h; cases h
        | some j => rw [hf] at h; cases h; exact ⟨j, rfl, rfl⟩
      obtain ⟨x, h1, h2⟩ := fI_at hj
      exact ⟨x, h1, h2⟩
theorem fI_not {g : Gr} : ∀ {o : List Gr}, fI (alikeB g) o = none → ∀ x ∈ o, headG x ≠ headG g
  | [], _, x, h => by cases h
  | y :: o, h, x, hx => by
    rw [fI] at h
    by_cases ha : alikeB g y = true
    · rw [if_pos ha] at h; cases h
    · rw [if_neg ha] at h
      have hf : fI (alikeB g) o = none := by
        cases hf : fI (alikeB g) o with
        | none => rfl
        | some j => rw [hf] at h; cases h
      rcases List.mem_cons.1 hx with rfl | hx
      · exact fun e => ha (alikeB_iff.2 e.symm)
      · exact fI_not hf x hx
theorem fI_free {g : Gr} {o : List Gr} (h : ∀ x ∈ o, headG x ≠ headG g) : fI (alikeB g) o = none := by
  cases hf : fI (alikeB g) o with
  | none => rfl
  | some i =>
    obtain ⟨x, h1, h2⟩ := fI_at hf
    exact absurd h2.symm (h x (List.mem_of_getElem? h1))
theorem fI_last {g y : Gr} {o : List Gr} (h : ∀ x ∈ o, headG x ≠ headG g) (hy : headG g = headG y) : fI (alikeB g) (o ++ [y]) = some o.length := by
  induction o with
  | nil => rw [List.nil_append, fI, if_pos (alikeB_iff.2 hy)]; rfl
  | cons x o ih =>
    have h1 := ih fun z hz => h z (List.mem_cons_of_mem _ hz)
    rw [List.cons_append, fI, if_neg (fun e => h x (List.mem_cons_self ..) (alikeB_iff.1 e).symm), h1]
    rfl
theorem heads_addAt (o : List Gr) (i : Nat) (xs : List It) : (addAt o i xs).map headG = o.map headG := by
  unfold addAt
  split
  · rename_i g hg
    rw [List.map_set]
    exact set_same (by rw [List.getElem?_map, hg]; rfl)
  · rfl
theorem uniq_heads {gs : List Gr} : uniqG gs ↔ (gs.map headG).Pairwise (· ≠ ·) := by
  rw [List.pairwise_map]
  rfl
theorem putR_uniq {o : List Gr} {g : Gr} (h : uniqG o) : uniqG (putR o g) := by
  unfold putR
  split
  · rw [uniq_heads, heads_addAt, ← uniq_heads]
    exact h
  · rename_i hf
    refine List.pairwise_append.2 ⟨h, List.pairwise_singleton .., fun x hx y hy => ?_⟩
    rw [List.mem_singleton.1 hy]
    exact fI_not hf x hx
theorem putsR_uniq : ∀ {gs o : List Gr}, uniqG o → uniqG (putsR o gs)
  | [], _, h => h
  | g :: gs, o, h => putsR_uniq (gs := gs) (putR_uniq h)
theorem putR_grow (o : List Gr) (g : Gr) : o.length ≤ (putR o g).length := by
  unfold putR
  split
  · rw [addAt_len]; exact Nat.le_refl _
  · simp
theorem putsR_grow : ∀ (gs o : List Gr), o.length ≤ (putsR o gs).length
  | [], _ => Nat.le_refl _
  | g :: gs, o => Nat.le_trans (putR_grow o g) (putsR_grow gs (putR o g))
theorem addAt_mem {o : List Gr} {i : Nat} {xs : List It} {g : Gr} (h : g ∈ addAt o i xs) : g ∈ o ∨ ∃ g0, o[i]? = some g0 ∧ g = withI g0 (g0.items ++ xs) := by
  unfold addAt at h
  split at h
  · rename_i g0 h0
    rcases List.mem_or_eq_of_mem_set h with h | rfl
    · exact .inl h
    · exact .inr ⟨g0, h0, rfl⟩
  · exact .inl h
theorem putR_right {o : List Gr} {g : Gr} {s : Nat} (h : ∀ x ∈ o, grE s x = 0) (hg : grE s g = 0) : ∀ x ∈ putR o g, grE s x = 0 := by
  unfold putR
  split
  · intro x hx
    rcases addAt_mem hx with hx | ⟨g0, h0, rfl⟩
    · exact h x hx
    · have h1 := h g0 (List.mem_of_getElem? h0)
      refine grE_with h1 fun x hx => ?_
      rcases List.mem_append.1 hx with hx | hx
      · exact (grE_ok h1).2.2.2.2 x hx
      · exact (grE_ok hg).2.2.2.2 x hx
  · intro x hx
    rcases List.mem_append.1 hx with hx | hx
    · exact h x hx
    · rw [List.mem_singleton.1 hx]; exact hg
theorem putsR_right {s : Nat} : ∀ {gs o : List Gr}, (∀ x ∈ o, grE s x = 0) → (∀ g ∈ gs, grE s g = 0) → ∀ x ∈ putsR o gs, grE s x = 0
  | [], _, h, _ => h
  | g :: gs, o, h, hg => putsR_right (gs := gs) (putR_right h (hg g (List.mem_cons_self ..))) fun y hy => hg y (List.mem_cons_of_mem _ hy)
theorem putR_some {o : List Gr} {g : Gr} (h : ∀ x ∈ o, x.items ≠ []) (hg : g.items ≠ []) : ∀ x ∈ putR o g, x.items ≠ [] := by
  unfold putR
  split
  · intro x hx
    rcases addAt_mem hx with hx | ⟨g0, h0, rfl⟩
    · exact h x hx
    · exact fun e => hg (List.append_eq_nil_iff.1 e).2
  · intro x hx
    rcases List.mem_append.1 hx with hx | hx
    · exact h x hx
    · rw [List.mem_singleton.1 hx]; exact hg
theorem putsR_some : ∀ {gs o : List Gr}, (∀ x ∈ o, x.items ≠ []) → (∀ g ∈ gs, g.items ≠ []) → ∀ x ∈ putsR o gs, x.items ≠ []
  | [], _, h, _ => h
  | g :: gs, o, h, hg => putsR_some (gs := gs) (putR_some h (hg g (List.mem_cons_self ..))) fun y hy => hg y (List.mem_cons_of_mem _ hy)
/-- The items of all groups of one head. -/
def ofH (h : Gr) : List Gr → List It
  | [] => []
  | g :: gs => if alikeB h g = true then g.items ++ ofH h gs else ofH h gs
theorem alk {a b : Gr} : alikeB a b = true ↔ headG a = headG b := alikeB_iff
theorem alk_eq {h a b : Gr} (e : headG a = headG b) : alikeB h a = alikeB h b := by
  rw [Bool.eq_iff_iff, alk, alk, e]
theorem ofH_app (h : Gr) : ∀ (l l' : List Gr), ofH h (l ++ l') = ofH h l ++ ofH h l'
  | [], _ => rfl
  | g :: l, l' => by
    rw [List.cons_append, ofH, ofH, ofH_app h l l']
    split
    · rw [List.append_assoc]
    · rfl
theorem putR_of {o : List Gr} {g : Gr} (hu : uniqG o) (h : Gr) : ofH h (putR o g) = ofH h (o ++ [g]) := by
  unfold putR
  split
  · rename_i i hi
    obtain ⟨y, hy, hh⟩ := fI_at hi
    clear hi
    rw [addAt_some hy, ofH_app]
    induction o generalizing i with
    | nil => cases hy
    | cons x o ih =>
      obtain ⟨hx, hu2⟩ := List.pairwise_cons.1 hu
      cases i with
      | zero =>
        obtain rfl : x = y := by simpa using hy
        rw [List.set_cons_zero, ofH, ofH, ofH, ofH]
        rw [alk_eq (h := h) (show headG { x with items := x.items ++ g.items } = headG x from rfl), alk_eq (h := h) hh]
        by_cases e : alikeB h x = true
        · have ho : ofH h o = [] := by
            clear hu ih hy hu2
            induction o with
            | nil => rfl
            | cons z o ih =>
              rw [ofH, if_neg (fun e2 => hx z (List.mem_cons_self ..) ((alk.1 e).symm.trans (alk.1 e2)))]
              exact ih fun z hz => hx z (List.mem_cons_of_mem _ hz)
          simp only [if_pos e, ho, List.append_nil]
        · simp only [if_neg e, List.append_nil]
      | succ i =>
        rw [List.set_cons_succ, ofH, ofH, ih hu2 i (by simpa using hy)]
        split
        · rw [List.append_assoc]
        · rfl
  · rfl
theorem putsR_of (h : Gr) : ∀ {gs o : List Gr}, uniqG o → ofH h (putsR o gs) = ofH h (o ++ gs)
  | [], o, _ => by rw [List.append_nil]; rfl
  | g :: gs, o, hu => by
    have h1 := putsR_of h (gs := gs) (putR_uniq (g := g) hu)
    simp only [putsR, List.foldl_cons] at h1 ⊢
    rw [h1, ofH_app, putR_of hu, ← ofH_app, List.append_assoc]
    rfl
theorem ofH_uniq {gs : List Gr} (hu : uniqG gs) : ∀ g ∈ gs, ofH g gs = g.items := by
  induction gs with
  | nil => intro g hg; cases hg
  | cons x gs ih =>
    obtain ⟨hx, hu2⟩ := List.pairwise_cons.1 hu
    have hno : ∀ {h : Gr}, (∀ y ∈ gs, headG y ≠ headG h) → ofH h gs = [] := by
      intro h hh
      clear hu ih hx hu2
      induction gs with
      | nil => rfl
      | cons z o ih =>
        rw [ofH, if_neg (fun e => hh z (List.mem_cons_self ..) (alk.1 e).symm)]
        exact ih fun z hz => hh z (List.mem_cons_of_mem _ hz)
    intro g hg
    rcases List.mem_cons.1 hg with rfl | hg
    · rw [ofH, if_pos (alk.2 rfl), hno fun y hy => (hx y hy).symm, List.append_nil]
    · rw [ofH, if_neg (fun e => hx g hg (alk.1 e).symm), ih hu2 g hg]
theorem putsR_uniq_id : ∀ {gs o : List Gr}, uniqG (o ++ gs) → putsR o gs = o ++ gs
  | [], o, _ => by rw [List.append_nil]; rfl
  | g :: gs, o, h => by
    have h1 : ∀ x ∈ o, headG x ≠ headG g := fun x hx => (List.pairwise_append.1 h).2.2 x hx g (List.mem_cons_self ..)
    have h2 : putR o g = o ++ [g] := by rw [putR, fI_free h1]
    simp only [putsR, List.foldl_cons, h2]
    have h3 := putsR_uniq_id (gs := gs) (o := o ++ [g]) (by rw [List.append_assoc]; exact h)
    simp only [putsR, List.append_assoc, List.cons_append, List.nil_append] at h3 ⊢
    exact h3
/-- Split anywhere, and put together again. -/
theorem split_back (n : Int) : ∀ {gs o : List Gr} {k : Nat}, uniqG (o ++ gs) → (∀ g ∈ gs, g.items ≠ []) →
    putsR (o ++ rawG (fun i => decide ((i : Int) < n)) k gs) (rawG (fun i => decide (n ≤ (i : Int))) k gs) = o ++ gs
  | [], o, k, _, _ => by simp [rawG, putsR]
  | g :: gs, o, k, hu, hs => by
    have hs1 := hs g (List.mem_cons_self ..)
    have hs2 := fun g hg => hs g (List.mem_cons_of_mem _ hg)
    have hlen : 0 < g.items.length := List.length_pos_iff.2 hs1
    rw [rawG, rawG, pickT_lt, pickT_ge]
    by_cases h1 : (k : Int) + g.items.length ≤ n
    · rw [List.take_of_length_le (by omega), List.drop_eq_nil_of_le (by omega), if_neg hs1, if_pos rfl, withI_self]
      have := split_back n (gs := gs) (o := o ++ [g]) (k := k + g.items.length) (by rw [List.append_assoc]; exact hu) hs2
      rw [List.append_assoc, List.append_assoc] at this
      exact this
    · have hno : ∀ {k : Nat} {gs : List Gr}, n ≤ (k : Int) → (∀ g ∈ gs, g.items ≠ []) → rawG (fun i => decide ((i : Int) < n)) k gs = [] ∧ rawG (fun i => decide (n ≤ (i : Int))) k gs = gs := by
        intro k gs hk hgs
        induction gs generalizing k with
        | nil => exact ⟨rfl, rfl⟩
        | cons y gs ih =>
          have h2 := ih (k := k + y.items.length) (by omega) fun g hg => hgs g (List.mem_cons_of_mem _ hg)
          rw [rawG, rawG, pickT_lt, pickT_ge, show (n - (k : Int)).toNat = 0 by omega, List.take_zero, List.drop_zero, if_pos rfl, if_neg (hgs y (List.mem_cons_self ..)), h2.1, h2.2]
          exact ⟨rfl, rfl⟩
      obtain ⟨e1, e2⟩ := hno (k := k + g.items.length) (gs := gs) (by omega) hs2
      rw [e1, e2]
      by_cases h2 : n ≤ (k : Int)
      · rw [show (n - (k : Int)).toNat = 0 by omega, List.take_zero, List.drop_zero, if_pos rfl, if_neg hs1, withI_self, List.append_nil]
        exact putsR_uniq_id hu
      · obtain ⟨j, hj⟩ : ∃ j, (n - (k : Int)).toNat = j + 1 := ⟨(n - (k : Int)).toNat - 1, by omega⟩
        have e1 : g.items.take (n - (k : Int)).toNat ≠ [] := fun e => by
          have h3 : (g.items.take (n - (k : Int)).toNat).length = 0 := by rw [e]; rfl
          rw [List.length_take] at h3
          omega
        have e2 : g.items.drop (n - (k : Int)).toNat ≠ [] := fun e => by
          have h3 : (g.items.drop (n - (k : Int)).toNat).length = 0 := by rw [e]; rfl
          rw [List.length_drop] at h3
          omega
        rw [if_neg e1, if_neg e2]
        have h3 : ∀ x ∈ o, headG x ≠ headG (withI g (g.items.drop (n - (k : Int)).toNat)) := fun x hx => (List.pairwise_append.1 hu).2.2 x hx g (List.mem_cons_self ..)
        have h4 : putR (o ++ [withI g (g.items.take (n - (k : Int)).toNat)]) (withI g (g.items.drop (n - (k : Int)).toNat)) = o ++ [g] := by
          have h5 : fI (alikeB (withI g (g.items.drop (n - (k : Int)).toNat))) (o ++ [withI g (g.items.take (n - (k : Int)).toNat)]) = some o.length := fI_last h3 rfl
          simp only [putR, h5, addAt_last]
          simp [withI]
        simp only [putsR, List.foldl_cons, h4]
        have := putsR_uniq_id (gs := gs) (o := o ++ [g]) (by rw [List.append_assoc]; exact hu)
        simpa [putsR] using this
end Go.Proofs.YtfbegbpipmgfiaaDoor.Lift
end
section
/- pdata: the answers that lives asks for, as plain data. -/
set_option linter.unusedVariables false
set_option linter.unusedSimpArgs false
set_option maxHeartbeats 4000000
set_option maxRecDepth 100000
namespace Go.Proofs.YtfbegbpipmgfiaaDoor.Lift
open Go Go.RowKit

def v0 : V := .mk 0 ByteArray.empty false 0 0 [] []
def it0 (t : Nat) : It := ⟨ByteArray.empty, ByteArray.empty, 0, 0, false, 0, t, ByteArray.empty, ByteArray.empty, ByteArray.empty, 0, ByteArray.empty, [], v0, ⟨0, 0, 0, 0, 0, false, [], [], 0, 0, 0, 0, [], []⟩⟩
def lvG (c : UInt8) : Gr := ⟨[], ⟨#[c]⟩, ByteArray.empty, [], [it0 0, it0 1]⟩
def lv : Da := ⟨2, [lvG 97, lvG 98]⟩
theorem lv_ok : daE lv = 0 := by kernel_rfl
theorem lv_n : nIt lv.gs = 4 := rfl
theorem lv_no : daE d0 = 5 := by kernel_rfl
theorem lv_s : (splR lv 3).2.2 = 0 := by kernel_rfl
theorem lv_s1 : nIt (splR lv 3).1.gs = 3 := by kernel_rfl
theorem lv_s2 : (splR lv 3).2.1.gs.length = 1 := by kernel_rfl
theorem lv_m : (mergeR lv lv).2 = 0 := by kernel_rfl
theorem lv_m1 : (mergeR lv lv).1.gs.length = 2 := by kernel_rfl
theorem lv_m2 : nIt (mergeR lv lv).1.gs = 8 := by kernel_rfl
theorem lv_k : (keepR lv [false, true]).2 = 0 := by kernel_rfl
theorem lv_k1 : nIt (keepR lv [false, true]).1.gs = 1 := by kernel_rfl
end Go.Proofs.YtfbegbpipmgfiaaDoor.Lift
end
section
/- pdata: lives, given what logs answers. -/
set_option linter.unusedVariables false
set_option linter.unusedSimpArgs false
set_option maxHeartbeats 4000000
set_option maxRecDepth 100000
namespace Go.Proofs.YtfbegbpipmgfiaaDoor.Lift
open Go Go.RowKit

theorem okT_0 : okT ⟨0, 0, 0, 0, 0, false, [], [], 0, 0, 0, 0, [], []⟩ :=
  ⟨by decide, by decide, by decide, by decide, by decide, ⟨by decide, fun x h => by cases h⟩, ⟨by decide, fun x h => by cases h⟩, by decide, by decide, by decide, by decide, ⟨by decide, fun x h => by cases h⟩, ⟨by decide, fun x h => by cases h⟩⟩
theorem okV_0 : okV v0 := .mk _ _ _ _ _ _ _ (by decide) (Nat.zero_le _) (by decide) (by decide) (Nat.zero_le _) (Nat.zero_le _) (fun x h => by cases h) (fun x h => by cases h) (fun x h => by cases h)
theorem okI_0 (t : Nat) (h : t < 2 ^ 64) : okI (it0 t) :=
  ⟨Nat.zero_le _, Nat.zero_le _, (by decide : (-2147483648 : Int) ≤ 0 ∧ (0 : Int) ≤ 2147483647), (by decide : 0 < 256), (by decide : 0 < 2 ^ 64), h, Nat.zero_le _, Nat.zero_le _, Nat.zero_le _, (by decide : 0 < 256), Nat.zero_le _, ⟨Nat.zero_le _, fun p hp => by cases hp⟩, okV_0, okT_0⟩
theorem lvG_ok (c : UInt8) : okG (lvG c) := ⟨⟨by simp [lvG], fun p hp => by cases hp⟩, by simp [lvG, ByteArray.size], by simp [lvG], ⟨by simp [lvG], fun p hp => by cases hp⟩, by simp [lvG], fun x hx => by
  simp only [lvG, List.mem_cons, List.not_mem_nil, or_false] at hx
  rcases hx with rfl | rfl <;> exact okI_0 _ (by decide)⟩
theorem lv_okD : okD lv := ⟨by decide, by simp [lv], fun g hg => by
  simp only [lv, List.mem_cons, List.not_mem_nil, or_false] at hg
  rcases hg with rfl | rfl <;> exact lvG_ok _⟩
theorem lives_of {W0 : World} (hT : Tabs W0) (hl : APure Tryd.prog W0 24 [.d (.v (.int .i64 2)), .d (.v (.int .i64 2))] (· = .ret (xa lv))) : APure Tryd.prog W0 9 [] (· = .ret (.d (.v (.bool true)))) := by
  have hs := Split_c (W0 := W0) hT lv lv_okD 3
  have hm := Merge_c (W0 := W0) hT lv lv lv_okD lv_okD
  have hk := Keep_c (W0 := W0) hT lv lv_okD [false, true]
  have hc := PCheck_c (W0 := W0) hT lv lv_okD
  have hc0 := PCheck_c (W0 := W0) hT d0 okD_d0
  have hi := items_n (W0 := W0) lv lv_okD
  have hi1 := items_n (W0 := W0) (splR lv 3).1 (splR_ok lv_okD).1
  have hi2 := items_n (W0 := W0) (mergeR lv lv).1 (mergeR_ok lv_okD lv_okD)
  have hkok : okD (keepR lv [false, true]).1 := by
    unfold keepR
    rw [if_pos lv_ok]
    exact choD_ok lv_okD (by rw [lv_n]; decide)
  have hi3 := items_n (W0 := W0) (keepR lv [false, true]).1 hkok
  rw [lv_n] at hi
  rw [lv_s1] at hi1
  rw [lv_m2] at hi2
  rw [lv_k1] at hi3
  rw [lv_s] at hs
  rw [lv_m] at hm
  rw [lv_k] at hk
  rw [lv_ok] at hc
  rw [lv_no] at hc0
  have e1 := lv_s2
  have e2 := lv_m1
  generalize (splR lv 3).1 = A at hs hi1
  generalize (splR lv 3).2.1 = B at hs e1
  generalize (mergeR lv lv).1 = D at hm hi2 e2
  generalize (keepR lv [false, true]).1 = G at hk hi3
  generalize lv = l at *
  refine A_body Tryd.func9 rfl (Nat.le_of_ble_eq_true rfl) ?_
  simp only [go_sem, Tryd.ntmps9, Tryd.results9, mkEnv]
  repeat (first | refine wS ?_ | refine wB ?_ | (refine wR ?_; simp only [go_sem]) | (refine wT ?_ ?_; focus (simp only [go_sem]; done)) | (refine wF ?_ ?_; focus (simp only [go_sem]; done)) | (refine wK ?_; try simp only [go_sem]) | (refine wE ?_; try simp only [go_sem]) | refine wX ?_)
  refine wC (hl) ?_
  simp only [go_sem]
  repeat (first | refine wS ?_ | refine wB ?_ | (refine wR ?_; simp only [go_sem]) | (refine wT ?_ ?_; focus (simp only [go_sem]; done)) | (refine wF ?_ ?_; focus (simp only [go_sem]; done)) | (refine wK ?_; try simp only [go_sem]) | (refine wE ?_; try simp only [go_sem]) | refine wX ?_)
  refine wC (hs) ?_
  simp only [go_sem]
  repeat (first | refine wS ?_ | refine wB ?_ | (refine wR ?_; simp only [go_sem]) | (refine wT ?_ ?_; focus (simp only [go_sem]; done)) | (refine wF ?_ ?_; focus (simp only [go_sem]; done)) | (refine wK ?_; try simp only [go_sem]) | (refine wE ?_; try simp only [go_sem]) | refine wX ?_)
  refine wC (hm) ?_
  simp only [go_sem]
  repeat (first | refine wS ?_ | refine wB ?_ | (refine wR ?_; simp only [go_sem]) | (refine wT ?_ ?_; focus (simp only [go_sem]; done)) | (refine wF ?_ ?_; focus (simp only [go_sem]; done)) | (refine wK ?_; try simp only [go_sem]) | (refine wE ?_; try simp only [go_sem]) | refine wX ?_)
  refine wFzO 4 ?_
  simp only [go_sem]
  repeat (first | refine wS ?_ | refine wB ?_ | (refine wR ?_; simp only [go_sem]) | (refine wT ?_ ?_; focus (simp only [go_sem]; done)) | (refine wF ?_ ?_; focus (simp only [go_sem]; done)) | (refine wK ?_; try simp only [go_sem]) | (refine wE ?_; try simp only [go_sem]) | refine wX ?_)
  refine wC (hk) ?_
  simp only [go_sem]
  repeat (first | refine wS ?_ | refine wB ?_ | (refine wR ?_; simp only [go_sem]) | (refine wT ?_ ?_; focus (simp only [go_sem]; done)) | (refine wF ?_ ?_; focus (simp only [go_sem]; done)) | (refine wK ?_; try simp only [go_sem]) | (refine wE ?_; try simp only [go_sem]) | refine wX ?_)
  refine wC (hc) ?_
  simp only [go_sem]
  repeat (first | refine wS ?_ | refine wB ?_ | (refine wR ?_; simp only [go_sem]) | (refine wT ?_ ?_; focus (simp only [go_sem]; done)) | (refine wF ?_ ?_; focus (simp only [go_sem]; done)) | (refine wK ?_; try simp only [go_sem]) | (refine wE ?_; try simp only [go_sem]) | refine wX ?_)
  refine wCG (fun hh => hi) ?_
  simp only [go_sem]
  repeat (first | refine wS ?_ | refine wB ?_ | (refine wR ?_; simp only [go_sem]) | (refine wT ?_ ?_; focus (simp only [go_sem]; done)) | (refine wF ?_ ?_; focus (simp only [go_sem]; done)) | (refine wK ?_; try simp only [go_sem]) | (refine wE ?_; try simp only [go_sem]) | refine wX ?_)
  refine wCG (fun hh => hi1) ?_
  simp only [go_sem, e1]
  repeat (first | refine wS ?_ | refine wB ?_ | (refine wR ?_; simp only [go_sem, e1]) | (refine wT ?_ ?_; focus (simp only [go_sem]; done)) | (refine wF ?_ ?_; focus (simp only [go_sem]; done)) | (refine wK ?_; try simp only [go_sem, e1]) | (refine wE ?_; try simp only [go_sem, e1]) | refine wX ?_)
  refine wCG (fun hh => hi2) ?_
  simp only [go_sem, e2]
  repeat (first | refine wS ?_ | refine wB ?_ | (refine wR ?_; simp only [go_sem, e2]) | (refine wT ?_ ?_; focus (simp only [go_sem]; done)) | (refine wF ?_ ?_; focus (simp only [go_sem]; done)) | (refine wK ?_; try simp only [go_sem, e2]) | (refine wE ?_; try simp only [go_sem, e2]) | refine wX ?_)
  refine wCG (fun hh => hi3) ?_
  simp only [go_sem]
  repeat (first | refine wS ?_ | refine wB ?_ | (refine wR ?_; simp only [go_sem]) | (refine wT ?_ ?_; focus (simp only [go_sem]; done)) | (refine wF ?_ ?_; focus (simp only [go_sem]; done)) | (refine wK ?_; try simp only [go_sem]) | (refine wE ?_; try simp only [go_sem]) | refine wX ?_)
  refine wCG (fun hh => pure_le hc0 (LeL.cons Le_d0 (LeL.refl _))) ?_
  simp only [go_sem]
  repeat (first | refine wS ?_ | refine wB ?_ | (refine wR ?_; simp only [go_sem]) | (refine wT ?_ ?_; focus (simp only [go_sem]; done)) | (refine wF ?_ ?_; focus (simp only [go_sem]; done)) | (refine wK ?_; try simp only [go_sem]) | (refine wE ?_; try simp only [go_sem]) | refine wX ?_)
  exact wRq
end Go.Proofs.YtfbegbpipmgfiaaDoor.Lift
end
section
/- ValuePuts: what is put is got, what is dropped is not; all other keys stay. Plain laws. No conditions. -/
set_option linter.unusedVariables false
set_option linter.unusedSimpArgs false
namespace Go.Proofs.YtfbegbpipmgfiaaDoor.Lift
open Go Go.RowKit

end Go.Proofs.YtfbegbpipmgfiaaDoor.Lift
end
section
/- The lift: the reference's copies, Get, Put, Drop; Hash. No conditions but the room that one pair more takes. -/
set_option linter.unusedVariables false
set_option linter.unusedSimpArgs false
set_option maxHeartbeats 4000000
set_option maxRecDepth 100000
namespace Go.Proofs.YtfbegbpipmgfiaaDoor.Lift
open Go Go.RowKit

/-- Pairs copied one by one. -/
theorem copyPairs_own {W0 : World} (m : List (ByteArray × V)) (ih : ∀ p ∈ m, APure Tryd.prog W0 40 [va p.2] (· = .ret (va p.2))) : ACalls Tryd.prog W0 39 [rP m] [] (fun r L' => r = .ret (.sl 0 8 0 m.length) ∧ L' = [.vec 8 112 (m.map pD)]) := by
  refine ACalls.known fun hk => ?_
  have hb47 := ab_rP (hk (rP m) (by simp))
  refine A_body Tryd.func39 rfl (by simp [Tryd.ntmps39]) ?_
  simp only [Tryd.ntmps39, Tryd.results39, mkEnv, List.length_cons, List.length_nil, rP]
  repeat (first
      | refine A_seq ?_
      | refine A_block ?_
      | (refine A_region (A_run ?_); simp only [go_sem]; refine A_nil ?_; simp only [Thn, InB])
      | (refine A_condt ?_ ?_; focus (simp only [evo, lk, lk1, lk2, Nat.reduceDiv, Nat.reduceMod]; done))
      | (refine A_condf ?_ ?_; focus (simp only [evo, lk, lk1, lk2, Nat.reduceDiv, Nat.reduceMod]; done))
      | (refine A_skip ?_; simp only [Thn, InB])
      | (refine A_exit ?_; simp only [Thn, InB, reduceIte, Nat.reduceEqDiff])
      | refine A_ret ?_)
  refine A_sub _ (Sb.opn (t := 3) (sz := 8) (bt := 112) rfl (by decide) (by decide)) ?_
  refine A_lp (σ := { i : Nat // i ≤ m.length }) (fun ξ => (fun i : Nat => (⟨23, ofL [(3, .sl 0 8 0 i), (6, .d (.rows 8 112 (m.map pD))), (7, .d (.v (.int .i64 m.length))), (8, .d (.v (.int .i64 (i : Nat))))], [.vec 8 112 ((m.take i).map pD)]⟩ : St)) ξ.1) (fun ξ => m.length - ξ.1) ⟨0, Nat.zero_le _⟩ ?_ ?_
  · (try simp only [List.take_zero, List.map_nil, List.flatten_nil, List.foldl_nil, Int.natCast_zero, Nat.cast_zero, Int.ofNat_zero]); ((try dsimp only); refine Sb.mk ?_ ?_ ?_ ?_ ?_ ?_; (focus rfl); (focus (repeat (first | exact eSub_nil _ | refine eSub_cons rfl ?_))); (focus exact ⟨_, rfl⟩); (focus (first | exact Nat.zero_le _ | exact Nat.le_refl _)); (focus (first | rfl | simp only [envBelow, List.all_cons, List.all_nil, namesAll, AV.names, names_ds, go_sem])); (focus (first | rfl | simp only [List.all_cons, List.all_nil, boxBelow, namesAll, AV.names, names_ds, go_sem])))
  rintro ⟨i, hi⟩ R hR
  try simp only
  repeat (first
      | refine A_seq ?_
      | refine A_block ?_
      | (refine A_region (A_run ?_); simp only [go_sem]; refine A_nil ?_; simp only [Thn, InB])
      | (refine A_condt ?_ ?_; focus (simp only [evo, lk, lk1, lk2, Nat.reduceDiv, Nat.reduceMod]; done))
      | (refine A_condf ?_ ?_; focus (simp only [evo, lk, lk1, lk2, Nat.reduceDiv, Nat.reduceMod]; done))
      | (refine A_skip ?_; simp only [Thn, InB])
      | (refine A_exit ?_; simp only [Thn, InB, reduceIte, Nat.reduceEqDiff])
      | refine A_ret ?_)
  refine A_cond rfl (fun h => ?_) (fun h => ?_)
  · have hlt : i < m.length := by simpa using h
    have hlt2 : ((i : Int) < ((m.length : Nat) : Int)) = True := eq_true (by omega)
    have hw := wrap_succ (i := i) (by omega)
    have hx : (m.map pD)[i]? = some (.v (.string m[i].1) :: vD m[i].2) := by rw [List.getElem?_map, List.getElem?_eq_getElem hlt]; rfl
    have lt : (m.take i).length = i := by simp; omega
    have lt2 : (m.take (i + 1)).length = i + 1 := by simp; omega
    have hs : (m.take i).map pD ++ [.v (.string m[i].1) :: vD m[i].2] = (m.take (i + 1)).map pD := by rw [List.take_succ_eq_append_getElem hlt, List.map_append]; rfl
    repeat (first
        | refine A_seq ?_
        | refine A_block ?_
        | (refine A_region (A_run ?_); simp only [go_sem, hx, hlt2, over]; refine A_nil ?_; simp only [Thn, InB])
        | (refine A_condt ?_ ?_; focus (simp only [evo, lk, lk1, lk2, Nat.reduceDiv, Nat.reduceMod]; done))
        | (refine A_condf ?_ ?_; focus (simp only [evo, lk, lk1, lk2, Nat.reduceDiv, Nat.reduceMod]; done))
        | (refine A_skip ?_; simp only [Thn, InB])
        | (refine A_exit ?_; simp only [Thn, InB, reduceIte, Nat.reduceEqDiff])
        | refine A_ret ?_)
    (repeat (first | refine A_seq ?_ | refine A_block ?_))
    refine A_drawn (gs := [none, none, none, none, none, none, none, none]) 8 [] mixedO (by simp only [List.take_succ_cons, List.take_zero] <;> rfl) (by kernel_rfl) (by kernel_rfl) rfl (by decide) (aqg_run ?_)
    simp only [runG, go_sem, hx, hlt2, over]
    (try (refine aqg_nil ?_))
    (refine aqg_call (caps := []) (ih m[i] (List.getElem_mem hlt)) rfl rfl rfl (by first | assumption | simp only [go_sem]) (by first | rfl | simp only [noNames, namesAll, AV.names, names_ds, go_sem, List.append_nil, List.cons_append, List.nil_append, Bool.and_self]) (by first | rfl | simp only [noName, namesAll, AV.names, names_ds, go_sem, Bool.and_self]) ?_)
    (refine aqg_run ?_; simp only [runG, go_sem, hx, hlt2, over])
    (try (refine aqg_nil ?_; (try simp only [Thn, InB])))
    refine T_one 8 _ (by kernel_rfl) (by simp only [List.getElem?_toArray, List.getElem?_cons_succ, List.getElem?_cons_zero] <;> rfl) (by rfl) (by rfl) (?_)
    refine A_append (b := 0) (sz := 8) (bt := 112) (l := (m.take i).map pD) (l2 := [.v (.string m[i].1) :: vD m[i].2]) rfl rfl (by simp only [go_sem] <;> rfl) (by simp only [go_sem] <;> rfl) (by simp only [go_sem] <;> rfl) (by simp only [go_sem] <;> rfl) (by rfl) rfl (by first | rfl | (simp; done) | (simp; omega)) rfl rfl (by simp [apR, lt2, hs]) rfl (by simp only [List.length_map, lt, List.length_cons, List.length_nil]; omega) ?_
    simp only [killE, mapE, killA, killB, killL, List.length_append, go_sem, lt2, hs]
    refine A_nil ?_
    try simp only [TQ, true_and]
    refine T_one 9 _ (by kernel_rfl) (by simp only [List.getElem?_toArray, List.getElem?_cons_succ, List.getElem?_cons_zero] <;> rfl) (by rfl) (by rfl) (A_run ?_)
    simp only [go_sem, lt2, hs]
    refine A_nil ?_
    try simp only [TQ, true_and]
    refine T_nil (by kernel_rfl) ?_
    simp only [Thn, InB]
    repeat (first
        | refine A_seq ?_
        | refine A_block ?_
        | (refine A_region (A_run ?_); simp only [go_sem, hw]; refine A_nil ?_; simp only [Thn, InB])
        | (refine A_condt ?_ ?_; focus (simp only [evo, lk, lk1, lk2, Nat.reduceDiv, Nat.reduceMod]; done))
        | (refine A_condf ?_ ?_; focus (simp only [evo, lk, lk1, lk2, Nat.reduceDiv, Nat.reduceMod]; done))
        | (refine A_skip ?_; simp only [Thn, InB])
        | (refine A_exit ?_; simp only [Thn, InB, reduceIte, Nat.reduceEqDiff])
        | refine A_ret ?_)
    refine hR _ ⟨⟨i + 1, by omega⟩, by simp only; omega, ?_⟩
    (try simp only); ((try dsimp only); refine Sb.mk ?_ ?_ ?_ ?_ ?_ ?_; (focus rfl); (focus (repeat (first | exact eSub_nil _ | refine eSub_cons rfl ?_))); (focus exact ⟨_, rfl⟩); (focus (first | exact Nat.zero_le _ | exact Nat.le_refl _)); (focus (first | rfl | simp only [envBelow, List.all_cons, List.all_nil, namesAll, AV.names, names_ds, go_sem])); (focus (first | rfl | simp only [List.all_cons, List.all_nil, boxBelow, namesAll, AV.names, names_ds, go_sem])))
  · have hge : i = m.length := by simp at h; omega
    subst hge
    simp only [List.take_length]
    repeat (first
        | refine A_seq ?_
        | refine A_block ?_
        | (refine A_region (A_run ?_); simp only [go_sem]; refine A_nil ?_; simp only [Thn, InB])
        | (refine A_condt ?_ ?_; focus (simp only [evo, lk, lk1, lk2, Nat.reduceDiv, Nat.reduceMod]; done))
        | (refine A_condf ?_ ?_; focus (simp only [evo, lk, lk1, lk2, Nat.reduceDiv, Nat.reduceMod]; done))
        | (refine A_skip ?_; simp only [Thn, InB])
        | (refine A_exit ?_; simp only [Thn, InB, reduceIte, Nat.reduceEqDiff])
        | refine A_ret ?_)
    exact ⟨_, rfl, _, _, fin_own _ rfl rfl, rfl, rfl⟩
theorem copyPairs_of {W0 : World} (m : List (ByteArray × V)) (ih : ∀ p ∈ m, APure Tryd.prog W0 40 [va p.2] (· = .ret (va p.2))) : APure Tryd.prog W0 39 [rP m] (· = .ret (rP m)) := (copyPairs_own m ih).frozen (List.length_map ..).symm
theorem copy_c {W0 : World} : ∀ x : V, APure Tryd.prog W0 40 [va x] (· = .ret (va x)) := by
  intro x
  refine V.ind (p := fun x => APure Tryd.prog W0 40 [va x] (· = .ret (va x))) ?_ x
  intro k s b n f l m hl hm
  refine APure.known fun hk => ?_
  obtain ⟨hb1, hb2⟩ := ab_va (hk (va (.mk k s b n f l m)) (by simp))
  refine A_body Tryd.func40 rfl (by simp [Tryd.ntmps40]) ?_
  simp only [Tryd.ntmps40, Tryd.results40, mkEnv, List.length_cons, List.length_nil, va, vD, vDs_map, pDs_map, List.map_cons, List.map_nil]
  repeat (first
      | refine A_seq ?_
      | refine A_block ?_
      | (refine A_region (A_run ?_); simp only [go_sem]; refine A_nil ?_; simp only [Thn, InB])
      | (refine A_condt ?_ ?_; focus (simp only [evo, lk, lk1, lk2, Nat.reduceDiv, Nat.reduceMod]; done))
      | (refine A_condf ?_ ?_; focus (simp only [evo, lk, lk1, lk2, Nat.reduceDiv, Nat.reduceMod]; done))
      | (refine A_skip ?_; simp only [Thn, InB])
      | (refine A_exit ?_; simp only [Thn, InB, reduceIte, Nat.reduceEqDiff])
      | refine A_ret ?_)
  refine A_sub _ (Sb.opnC (b := 2) (j := 5) (sz := 7) (bt := 96) rfl rfl (by decide) (by decide)) ?_
  simp only [go_sem]
  refine A_lp (σ := { i : Nat // i ≤ l.length }) (fun ξ => (fun i : Nat => (⟨28, ofL [(1, .ptr 0 0), (2, .ptr 1 0), (3, .ptr 2 0), (9, .d (.rows 7 96 (l.map vD))), (10, .d (.v (.int .i64 l.length))), (11, .d (.v (.int .i64 (i : Nat))))], [.var [.d (.v (.int .u8 k)), .d (.v (.string s)), .d (.v (.bool b)), .d (.v (.int .i64 n)), .d (.v (.float .f64 f)), .d (.rows 7 96 (l.map vD)), .d (.rows 8 112 (m.map pD))], .var [.d (.v (.int .u8 0)), .d (.v (.string ByteArray.empty)), .d (.v (.bool false)), .d (.v (.int .i64 0)), .d (.v (.float .f64 0)), .d .e, .d .e], .var [.d (.v (.int .u8 k)), .d (.v (.string s)), .d (.v (.bool b)), .d (.v (.int .i64 n)), .d (.v (.float .f64 f)), .sl 3 7 0 i, .d (.rows 8 112 (m.map pD))], .vec 7 96 ((l.take i).map vD)]⟩ : St)) ξ.1) (fun ξ => l.length - ξ.1) ⟨0, Nat.zero_le _⟩ ?_ ?_
  · (try simp only [List.take_zero, List.map_nil, List.flatten_nil, List.foldl_nil, Int.natCast_zero, Nat.cast_zero, Int.ofNat_zero]); ((try dsimp only); refine Sb.mk ?_ ?_ ?_ ?_ ?_ ?_; (focus rfl); (focus (repeat (first | exact eSub_nil _ | refine eSub_cons rfl ?_))); (focus exact ⟨_, rfl⟩); (focus (first | exact Nat.zero_le _ | exact Nat.le_refl _)); (focus (first | rfl | simp only [envBelow, List.all_cons, List.all_nil, namesAll, AV.names, names_ds, go_sem])); (focus (first | rfl | simp only [List.all_cons, List.all_nil, boxBelow, namesAll, AV.names, names_ds, go_sem])))
  rintro ⟨i, hi⟩ R hR
  try simp only
  repeat (first
      | refine A_seq ?_
      | refine A_block ?_
      | (refine A_region (A_run ?_); simp only [go_sem]; refine A_nil ?_; simp only [Thn, InB])
      | (refine A_condt ?_ ?_; focus (simp only [evo, lk, lk1, lk2, Nat.reduceDiv, Nat.reduceMod]; done))
      | (refine A_condf ?_ ?_; focus (simp only [evo, lk, lk1, lk2, Nat.reduceDiv, Nat.reduceMod]; done))
      | (refine A_skip ?_; simp only [Thn, InB])
      | (refine A_exit ?_; simp only [Thn, InB, reduceIte, Nat.reduceEqDiff])
      | refine A_ret ?_)
  refine A_cond rfl (fun h => ?_) (fun h => ?_)
  · have hlt : i < l.length := by simpa using h
    have hlt2 : ((i : Int) < ((l.length : Nat) : Int)) = True := eq_true (by omega)
    have hw := wrap_succ (i := i) (by omega)
    have hx : (l.map vD)[i]? = some (vD l[i]) := by rw [List.getElem?_map, List.getElem?_eq_getElem hlt]; rfl
    have lt : (l.take i).length = i := by simp; omega
    have lt2 : (l.take (i + 1)).length = i + 1 := by simp; omega
    have hs : (l.take i).map vD ++ [vD l[i]] = (l.take (i + 1)).map vD := by rw [List.take_succ_eq_append_getElem hlt, List.map_append]; rfl
    repeat (first
        | refine A_seq ?_
        | refine A_block ?_
        | (refine A_region (A_run ?_); simp only [go_sem, hx, hlt2, over]; refine A_nil ?_; simp only [Thn, InB])
        | (refine A_condt ?_ ?_; focus (simp only [evo, lk, lk1, lk2, Nat.reduceDiv, Nat.reduceMod]; done))
        | (refine A_condf ?_ ?_; focus (simp only [evo, lk, lk1, lk2, Nat.reduceDiv, Nat.reduceMod]; done))
        | (refine A_skip ?_; simp only [Thn, InB])
        | (refine A_exit ?_; simp only [Thn, InB, reduceIte, Nat.reduceEqDiff])
        | refine A_ret ?_)
    (repeat (first | refine A_seq ?_ | refine A_block ?_))
    refine A_drawn (gs := [none, none, none, none, none]) 5 [] mixedO (by simp only [List.take_succ_cons, List.take_zero] <;> rfl) (by kernel_rfl) (by kernel_rfl) rfl (by decide) (aqg_run ?_)
    simp only [runG, go_sem, hx, hlt2, over]
    (try (refine aqg_nil ?_))
    (refine aqg_call (caps := []) (hl l[i] (List.getElem_mem hlt)) rfl rfl rfl (by first | assumption | simp only [go_sem]) (by first | rfl | simp only [noNames, namesAll, AV.names, names_ds, go_sem, List.append_nil, List.cons_append, List.nil_append, Bool.and_self]) (by first | rfl | simp only [noName, namesAll, AV.names, names_ds, go_sem, Bool.and_self]) ?_)
    (refine aqg_run ?_; simp only [runG, go_sem, hx, hlt2, over])
    (try (refine aqg_nil ?_; (try simp only [Thn, InB])))
    refine T_one 5 _ (by kernel_rfl) (by simp only [List.getElem?_toArray, List.getElem?_cons_succ, List.getElem?_cons_zero] <;> rfl) (by rfl) (by rfl) (?_)
    refine A_append (b := 3) (sz := 7) (bt := 96) (l := (l.take i).map vD) (l2 := [vD l[i]]) rfl rfl (by simp only [go_sem] <;> rfl) (by simp only [go_sem] <;> rfl) (by simp only [go_sem] <;> rfl) (by simp only [go_sem] <;> rfl) (by rfl) rfl (by first | rfl | (simp; done) | (simp; omega)) rfl rfl (by simp [apR, lt2, hs, killA]) rfl (by simp only [List.length_map, lt, List.length_cons, List.length_nil]; omega) ?_
    simp only [killE, mapE, killA, killB, killL, List.length_append, go_sem, lt2, hs, killA]
    refine A_nil ?_
    try simp only [TQ, true_and]
    refine T_one 6 _ (by kernel_rfl) (by simp only [List.getElem?_toArray, List.getElem?_cons_succ, List.getElem?_cons_zero] <;> rfl) (by rfl) (by rfl) (A_run ?_)
    simp only [go_sem, lt2, hs]
    refine A_nil ?_
    try simp only [TQ, true_and]
    refine T_one 7 _ (by kernel_rfl) (by simp only [List.getElem?_toArray, List.getElem?_cons_succ, List.getElem?_cons_zero] <;> rfl) (by rfl) (by rfl) (A_run ?_)
    simp only [go_sem, lt2, hs, over]
    refine A_nil ?_
    try simp only [TQ, true_and]
    refine T_nil (by kernel_rfl) ?_
    simp only [Thn, InB]
    repeat (first
        | refine A_seq ?_
        | refine A_block ?_
        | (refine A_region (A_run ?_); simp only [go_sem, hw]; refine A_nil ?_; simp only [Thn, InB])
        | (refine A_condt ?_ ?_; focus (simp only [evo, lk, lk1, lk2, Nat.reduceDiv, Nat.reduceMod]; done))
        | (refine A_condf ?_ ?_; focus (simp only [evo, lk, lk1, lk2, Nat.reduceDiv, Nat.reduceMod]; done))
        | (refine A_skip ?_; simp only [Thn, InB])
        | (refine A_exit ?_; simp only [Thn, InB, reduceIte, Nat.reduceEqDiff])
        | refine A_ret ?_)
    refine hR _ ⟨⟨i + 1, by omega⟩, by simp only; omega, ?_⟩
    (try simp only); ((try dsimp only); refine Sb.mk ?_ ?_ ?_ ?_ ?_ ?_; (focus rfl); (focus (repeat (first | exact eSub_nil _ | refine eSub_cons rfl ?_))); (focus exact ⟨_, rfl⟩); (focus (first | exact Nat.zero_le _ | exact Nat.le_refl _)); (focus (first | rfl | simp only [envBelow, List.all_cons, List.all_nil, namesAll, AV.names, names_ds, go_sem])); (focus (first | rfl | simp only [List.all_cons, List.all_nil, boxBelow, namesAll, AV.names, names_ds, go_sem])))
  · have hge : i = l.length := by simp at h; omega
    subst hge
    refine A_sub _ (Sb.freeze 3 rfl (Nat.zero_le _)) ?_
    simp only [fzE, mapE, fzA, fzL, fzB, go_sem]
    repeat (first
        | refine A_seq ?_
        | refine A_block ?_
        | (refine A_region (A_run ?_); simp only [go_sem]; refine A_nil ?_; simp only [Thn, InB])
        | (refine A_condt ?_ ?_; focus (simp only [evo, lk, lk1, lk2, Nat.reduceDiv, Nat.reduceMod]; done))
        | (refine A_condf ?_ ?_; focus (simp only [evo, lk, lk1, lk2, Nat.reduceDiv, Nat.reduceMod]; done))
        | (refine A_skip ?_; simp only [Thn, InB])
        | (refine A_exit ?_; simp only [Thn, InB, reduceIte, Nat.reduceEqDiff])
        | refine A_ret ?_)
    (repeat (first | refine A_seq ?_ | refine A_block ?_))
    refine A_region (A_run ?_)
    simp only [go_sem, over]
    (refine A_call (copyPairs_of m hm) rfl rfl rfl rfl (by first | assumption | simp only [go_sem]) rfl (by first | rfl | simp only [noNames, namesAll, AV.names, names_ds, go_sem, List.append_nil, List.cons_append, List.nil_append, Bool.and_self]) ?_; rintro r rfl; refine ⟨(by first | rfl | simp only [noName, namesAll, AV.names, names_ds, go_sem, Bool.and_self]), A_run ?_⟩; simp only [go_sem, over])
    refine A_nil ?_
    simp only [Thn, InB]
    repeat (first
        | refine A_seq ?_
        | refine A_block ?_
        | (refine A_region (A_run ?_); simp only [go_sem, over]; refine A_nil ?_; simp only [Thn, InB])
        | (refine A_condt ?_ ?_; focus (simp only [evo, lk, lk1, lk2, Nat.reduceDiv, Nat.reduceMod]; done))
        | (refine A_condf ?_ ?_; focus (simp only [evo, lk, lk1, lk2, Nat.reduceDiv, Nat.reduceMod]; done))
        | (refine A_skip ?_; simp only [Thn, InB])
        | (refine A_exit ?_; simp only [Thn, InB, reduceIte, Nat.reduceEqDiff])
        | refine A_ret ?_)
    exact ⟨_, rfl, _, _, fin_pure rfl (Le.refl _), rfl, rfl⟩
theorem copyPairs_c {W0 : World} (m : List (ByteArray × V)) : APure Tryd.prog W0 39 [rP m] (· = .ret (rP m)) := copyPairs_of m fun p _ => copy_c p.2
end Go.Proofs.YtfbegbpipmgfiaaDoor.Lift
end
section
/- pdata's reference: CopyItem. -/
set_option linter.unusedVariables false
set_option linter.unusedSimpArgs false
set_option maxHeartbeats 4000000
set_option maxRecDepth 100000
namespace Go.Proofs.YtfbegbpipmgfiaaDoor.Lift
open Go Go.RowKit

theorem wNil {P : Program} {W0 : World} {n : Nat} {Q : Ax → St → Prop} {st : St} {ops : Array Oper} {o : Oper} {rest : List Oper} {gs : List (Option (Option Nat × Bool))} {T e sz : Nat} (h : run2 P W0 n ops Q rest gs (st.put o.dst (.d .e)))
    (ho : o.op = .buildSlice T 0 #[] := by rfl) (he : elT P T = some e := by simp only [go_sem] <;> rfl) (hs : szT P e = some sz := by simp only [go_sem] <;> rfl) (hd : dOk st.N o.dst = true := by rfl) : AOpsG P W0 n ops (o :: rest) (none :: gs) Q st := fun hG => let ⟨hg, hG⟩ := gsl_none hG;
  A_nilslice hg ho he hs hd (run2_ops h hG)
theorem wSub {P : Program} {W0 : World} {n : Nat} {Q : Ax → St → Prop} {st : St} {ops : Array Oper} {rest : List Oper} {gs : List (Option (Option Nat × Bool))} (st' : St) (hs : Sb W0 n st st') (h : AOpsG P W0 n ops rest gs Q st') : AOpsG P W0 n ops rest gs Q st := fun hG => O_sub _ hs (h hG)
theorem copyItem_c {W0 : World} (x : It) (hx : okI x) : APure Tryd.prog W0 19 [ia x] (· = .ret (ia x)) := by
  have h1 := copyPairs_c (W0 := W0) x.attrs
  have h2 := copy_c (W0 := W0) x.body
  simp only [va, vD_ex, List.map_cons, List.map_nil, rP] at h1 h2
  have b1 := hx.pt.bnd.1
  have b2 := hx.pt.cts.1
  have b3 := hx.pt.neg.1
  have b4 := hx.pt.qts.1
  refine A_body Tryd.func19 rfl (Nat.le_of_ble_eq_true rfl) ?_
  simp only [go_sem, Tryd.ntmps19, Tryd.results19, mkEnv]
  repeat (first | refine wS ?_ | refine wB ?_ | (refine wR ?_; simp only [go_sem]) | (refine wT ?_ ?_; focus (simp only [go_sem]; done)) | (refine wF ?_ ?_; focus (simp only [go_sem]; done)) | (refine wK ?_; try simp only [go_sem]) | (refine wE ?_; try simp only [go_sem]) | refine wX ?_)
  refine wC (h1) ?_
  simp only [go_sem]
  repeat (first | refine wS ?_ | refine wB ?_ | (refine wR ?_; simp only [go_sem]) | (refine wT ?_ ?_; focus (simp only [go_sem]; done)) | (refine wF ?_ ?_; focus (simp only [go_sem]; done)) | (refine wK ?_; try simp only [go_sem]) | (refine wE ?_; try simp only [go_sem]) | refine wX ?_)
  refine wC (h2) ?_
  simp only [go_sem]
  repeat (first | refine wS ?_ | refine wB ?_ | (refine wR ?_; simp only [go_sem]) | (refine wT ?_ ?_; focus (simp only [go_sem]; done)) | (refine wF ?_ ?_; focus (simp only [go_sem]; done)) | (refine wK ?_; try simp only [go_sem]) | (refine wE ?_; try simp only [go_sem]) | refine wX ?_)
  refine wNil ?_
  simp only [go_sem]
  repeat (first | refine wS ?_ | refine wB ?_ | (refine wR ?_; simp only [go_sem]) | (refine wT ?_ ?_; focus (simp only [go_sem]; done)) | (refine wF ?_ ?_; focus (simp only [go_sem]; done)) | (refine wK ?_; try simp only [go_sem]) | (refine wE ?_; try simp only [go_sem]) | refine wX ?_)
  refine wSub _ (Sb.opn (t := 11) (sz := 1) (bt := 8) rfl (by decide) (by decide)) ?_
  simp only [go_sem]
  refine wA (b := 2) (sz := 1) (bt := 8) [] (x.pt.bnd.map f64L) ?_ (hbound := by simp; omega)
  simp only [go_sem, List.nil_append, List.length_map]
  repeat (first | refine wS ?_ | refine wB ?_ | (refine wR ?_; simp only [go_sem]) | (refine wT ?_ ?_; focus (simp only [go_sem]; done)) | (refine wF ?_ ?_; focus (simp only [go_sem]; done)) | (refine wK ?_; try simp only [go_sem]) | (refine wE ?_; try simp only [go_sem]) | refine wX ?_)
  refine wFzO 2 ?_
  simp only [go_sem, List.length_map]
  repeat (first | refine wS ?_ | refine wB ?_ | (refine wR ?_; simp only [go_sem]) | (refine wT ?_ ?_; focus (simp only [go_sem]; done)) | (refine wF ?_ ?_; focus (simp only [go_sem]; done)) | (refine wK ?_; try simp only [go_sem]) | (refine wE ?_; try simp only [go_sem]) | refine wX ?_)
  refine wNil ?_
  simp only [go_sem]
  repeat (first | refine wS ?_ | refine wB ?_ | (refine wR ?_; simp only [go_sem]) | (refine wT ?_ ?_; focus (simp only [go_sem]; done)) | (refine wF ?_ ?_; focus (simp only [go_sem]; done)) | (refine wK ?_; try simp only [go_sem]) | (refine wE ?_; try simp only [go_sem]) | refine wX ?_)
  refine wSub _ (Sb.opn (t := 18) (sz := 1) (bt := 8) rfl (by decide) (by decide)) ?_
  simp only [go_sem]
  refine wA (b := 3) (sz := 1) (bt := 8) [] (x.pt.cts.map c64L) ?_ (hbound := by simp; omega)
  simp only [go_sem, List.nil_append, List.length_map]
  repeat (first | refine wS ?_ | refine wB ?_ | (refine wR ?_; simp only [go_sem]) | (refine wT ?_ ?_; focus (simp only [go_sem]; done)) | (refine wF ?_ ?_; focus (simp only [go_sem]; done)) | (refine wK ?_; try simp only [go_sem]) | (refine wE ?_; try simp only [go_sem]) | refine wX ?_)
  refine wFzO 3 ?_
  simp only [go_sem, List.length_map]
  repeat (first | refine wS ?_ | refine wB ?_ | (refine wR ?_; simp only [go_sem]) | (refine wT ?_ ?_; focus (simp only [go_sem]; done)) | (refine wF ?_ ?_; focus (simp only [go_sem]; done)) | (refine wK ?_; try simp only [go_sem]) | (refine wE ?_; try simp only [go_sem]) | refine wX ?_)
  refine wNil ?_
  simp only [go_sem]
  repeat (first | refine wS ?_ | refine wB ?_ | (refine wR ?_; simp only [go_sem]) | (refine wT ?_ ?_; focus (simp only [go_sem]; done)) | (refine wF ?_ ?_; focus (simp only [go_sem]; done)) | (refine wK ?_; try simp only [go_sem]) | (refine wE ?_; try simp only [go_sem]) | refine wX ?_)
  refine wSub _ (Sb.opn (t := 25) (sz := 1) (bt := 8) rfl (by decide) (by decide)) ?_
  simp only [go_sem]
  refine wA (b := 4) (sz := 1) (bt := 8) [] (x.pt.neg.map c64L) ?_ (hbound := by simp; omega)
  simp only [go_sem, List.nil_append, List.length_map]
  repeat (first | refine wS ?_ | refine wB ?_ | (refine wR ?_; simp only [go_sem]) | (refine wT ?_ ?_; focus (simp only [go_sem]; done)) | (refine wF ?_ ?_; focus (simp only [go_sem]; done)) | (refine wK ?_; try simp only [go_sem]) | (refine wE ?_; try simp only [go_sem]) | refine wX ?_)
  refine wFzO 4 ?_
  simp only [go_sem, List.length_map]
  repeat (first | refine wS ?_ | refine wB ?_ | (refine wR ?_; simp only [go_sem]) | (refine wT ?_ ?_; focus (simp only [go_sem]; done)) | (refine wF ?_ ?_; focus (simp only [go_sem]; done)) | (refine wK ?_; try simp only [go_sem]) | (refine wE ?_; try simp only [go_sem]) | refine wX ?_)
  refine wNil ?_
  simp only [go_sem]
  repeat (first | refine wS ?_ | refine wB ?_ | (refine wR ?_; simp only [go_sem]) | (refine wT ?_ ?_; focus (simp only [go_sem]; done)) | (refine wF ?_ ?_; focus (simp only [go_sem]; done)) | (refine wK ?_; try simp only [go_sem]) | (refine wE ?_; try simp only [go_sem]) | refine wX ?_)
  refine wSub _ (Sb.opn (t := 32) (sz := 2) (bt := 16) rfl (by decide) (by decide)) ?_
  simp only [go_sem]
  refine wA (b := 5) (sz := 2) (bt := 16) [] (x.pt.qts.map qD) ?_ (hbound := by simp; omega)
  simp only [go_sem, List.nil_append, List.length_map]
  refine wFz 5 ?_
  simp only [go_sem, List.length_map]
  repeat (first | refine wS ?_ | refine wB ?_ | (refine wR ?_; simp only [go_sem]) | (refine wT ?_ ?_; focus (simp only [go_sem]; done)) | (refine wF ?_ ?_; focus (simp only [go_sem]; done)) | (refine wK ?_; try simp only [go_sem]) | (refine wE ?_; try simp only [go_sem]) | refine wX ?_)
  exact wRet ⟨rfl, rfl⟩
end Go.Proofs.YtfbegbpipmgfiaaDoor.Lift
end
section
/- pdata's reference: floats, counts. -/
set_option linter.unusedVariables false
set_option linter.unusedSimpArgs false
set_option maxHeartbeats 4000000
set_option maxRecDepth 100000
namespace Go.Proofs.YtfbegbpipmgfiaaDoor.Lift
open Go Go.RowKit

theorem floats_c {W0 : World} (l l' : List Nat) (hl : l.length * 8 ≤ 140737488355328) : APure Tryd.prog W0 44 [rf l, rf l'] (· = .ret (.d (.v (.bool (eqL (· == ·) l l'))))) := by
  refine A_body Tryd.func44 rfl (Nat.le_of_ble_eq_true rfl) ?_
  simp only [go_sem, Tryd.ntmps44, Tryd.results44, mkEnv, rf]
  repeat (first | refine wS ?_ | refine wB ?_ | (refine wR ?_; simp only [go_sem, rf]) | (refine wT ?_ ?_; focus (simp only [go_sem]; done)) | (refine wF ?_ ?_; focus (simp only [go_sem]; done)) | (refine wK ?_; try simp only [go_sem, rf]) | (refine wE ?_; try simp only [go_sem, rf]) | refine wX ?_)
  refine wI (fun h => ?_) (fun h => ?_)
  · have hlen : l.length ≠ l'.length := fun e => by rw [bne_false e] at h; cases h
    repeat (first | refine wS ?_ | refine wB ?_ | (refine wR ?_; simp only [go_sem]) | (refine wT ?_ ?_; focus (simp only [go_sem]; done)) | (refine wF ?_ ?_; focus (simp only [go_sem]; done)) | (refine wK ?_; try simp only [go_sem]) | (refine wE ?_; try simp only [go_sem]) | refine wX ?_)
    simp only [Thn, InB]
    rw [eqL_len (· == ·) l l' hlen]
    exact wRq
  · have hlen : l.length = l'.length := Decidable.byContradiction fun e => by rw [bne_true e] at h; cases h
    repeat (first | refine wS ?_ | refine wB ?_ | (refine wR ?_; simp only [go_sem]) | (refine wT ?_ ?_; focus (simp only [go_sem]; done)) | (refine wF ?_ ?_; focus (simp only [go_sem]; done)) | (refine wK ?_; try simp only [go_sem]) | (refine wE ?_; try simp only [go_sem]) | refine wX ?_)
    refine wL (fun i => ⟨28, ofL [(0, rf l), (1, rf l'), (12, .d (.v (.int .i64 l.length))), (13, .d (.v (.int .i64 (i : Nat))))], []⟩) (l.length) (fun i => eqL (· == ·) (l.take i) (l'.take i) = true) wSb (rfl) ?_
    intro i hi hinv R hR
    simp only [go_sem]
    repeat (first | refine wS ?_ | refine wB ?_ | (refine wR ?_; simp only [go_sem]) | (refine wT ?_ ?_; focus (simp only [go_sem]; done)) | (refine wF ?_ ?_; focus (simp only [go_sem]; done)) | (refine wK ?_; try simp only [go_sem]) | (refine wE ?_; try simp only [go_sem]) | refine wX ?_)
    refine wI (fun h => ?_) (fun h => ?_)
    · have hlt : i < l.length := by simpa using h
      have hlt2 : ((i : Int) < ((l.length : Nat) : Int)) = True := eq_true (by omega)
      have hw := wrap_succ (i := i) (by omega)
      have hlt' : i < l'.length := by omega
      have hx : (l.map f64L)[i]? = some (f64L l[i]) := by rw [List.getElem?_map, List.getElem?_eq_getElem hlt]; rfl
      have hy : (l'.map f64L)[i]? = some (f64L l'[i]) := by rw [List.getElem?_map, List.getElem?_eq_getElem hlt']; rfl
      obtain ⟨h1, h2⟩ := eqL_take (· == ·) l l' i l[i] l'[i] (List.getElem?_eq_getElem hlt) (List.getElem?_eq_getElem hlt') hinv
      generalize l[i] = x at hx h1 h2
      generalize l'[i] = y at hy h1 h2
      repeat (first | refine wS ?_ | refine wB ?_ | (refine wR ?_; simp only [go_sem, hx, hy, f64L]) | (refine wT ?_ ?_; focus (simp only [go_sem]; done)) | (refine wF ?_ ?_; focus (simp only [go_sem]; done)) | (refine wK ?_; try simp only [go_sem, hx, hy, f64L]) | (refine wE ?_; try simp only [go_sem, hx, hy, f64L]) | refine wX ?_)
      refine wMp [(0, 3), (0, 8)] ?_ mixedO (by kernel_rfl)
      simp only [go_sem, hx, hy, f64L]
      repeat (first | refine wS ?_ | refine wB ?_ | (refine wR ?_; simp only [go_sem, hx, hy, f64L]) | (refine wT ?_ ?_; focus (simp only [go_sem]; done)) | (refine wF ?_ ?_; focus (simp only [go_sem]; done)) | (refine wK ?_; try simp only [go_sem, hx, hy, f64L]) | (refine wE ?_; try simp only [go_sem, hx, hy, f64L]) | refine wX ?_)
      repeat (first | refine wS ?_ | refine wB ?_ | (refine wR ?_; simp only [go_sem]) | (refine wT ?_ ?_; focus (simp only [go_sem]; done)) | (refine wF ?_ ?_; focus (simp only [go_sem]; done)) | (refine wK ?_; try simp only [go_sem]) | (refine wE ?_; try simp only [go_sem]) | refine wX ?_)
      refine wI (fun h => ?_) (fun h => ?_)
      · have hb : (x == y) = false := by
          cases hxy : (x == y) with
          | false => rfl
          | true =>
            have e : x = y := by simpa using hxy
            subst e
            simp at h
        repeat (first | refine wS ?_ | refine wB ?_ | (refine wR ?_; simp only [go_sem]) | (refine wT ?_ ?_; focus (simp only [go_sem]; done)) | (refine wF ?_ ?_; focus (simp only [go_sem]; done)) | (refine wK ?_; try simp only [go_sem]) | (refine wE ?_; try simp only [go_sem]) | refine wX ?_)
        simp only [Thn, InB]
        rw [h2 hb]
        exact wRq
      · have hb : (x == y) = true := by
          cases hxy : (x == y) with
          | true => rfl
          | false =>
            have e : x ≠ y := by simpa using hxy
            have e2 : ((x : Int) != (y : Int)) = true := by
              simp only [bne_iff_ne, ne_eq]
              omega
            first | exact absurd e2 h | (rw [e2] at h; cases h)
        repeat (first | refine wS ?_ | refine wB ?_ | (refine wR ?_; simp only [go_sem, hw]) | (refine wT ?_ ?_; focus (simp only [go_sem]; done)) | (refine wF ?_ ?_; focus (simp only [go_sem]; done)) | (refine wK ?_; try simp only [go_sem, hw]) | (refine wE ?_; try simp only [go_sem, hw]) | refine wX ?_)
        exact hR hlt (by rw [h1, hb]) _ wSb
    · obtain rfl : i = l.length := by simp at h; omega
      repeat (first | refine wS ?_ | refine wB ?_ | (refine wR ?_; simp only [go_sem]) | (refine wT ?_ ?_; focus (simp only [go_sem]; done)) | (refine wF ?_ ?_; focus (simp only [go_sem]; done)) | (refine wK ?_; try simp only [go_sem]) | (refine wE ?_; try simp only [go_sem]) | refine wX ?_)
      have he : eqL (· == ·) l l' = true := by
        have := hinv
        rwa [List.take_of_length_le (Nat.le_refl _), List.take_of_length_le (by omega)] at this
      rw [he]
      exact wRq
theorem counts_c {W0 : World} (l l' : List Nat) (hl : l.length * 8 ≤ 140737488355328) : APure Tryd.prog W0 45 [rc l, rc l'] (· = .ret (.d (.v (.bool (eqL (· == ·) l l'))))) := by
  refine A_body Tryd.func45 rfl (Nat.le_of_ble_eq_true rfl) ?_
  simp only [go_sem, Tryd.ntmps45, Tryd.results45, mkEnv, rc]
  repeat (first | refine wS ?_ | refine wB ?_ | (refine wR ?_; simp only [go_sem, rc]) | (refine wT ?_ ?_; focus (simp only [go_sem]; done)) | (refine wF ?_ ?_; focus (simp only [go_sem]; done)) | (refine wK ?_; try simp only [go_sem, rc]) | (refine wE ?_; try simp only [go_sem, rc]) | refine wX ?_)
  refine wI (fun h => ?_) (fun h => ?_)
  · have hlen : l.length ≠ l'.length := fun e => by rw [bne_false e] at h; cases h
    repeat (first | refine wS ?_ | refine wB ?_ | (refine wR ?_; simp only [go_sem]) | (refine wT ?_ ?_; focus (simp only [go_sem]; done)) | (refine wF ?_ ?_; focus (simp only [go_sem]; done)) | (refine wK ?_; try simp only [go_sem]) | (refine wE ?_; try simp only [go_sem]) | refine wX ?_)
    simp only [Thn, InB]
    rw [eqL_len (· == ·) l l' hlen]
    exact wRq
  · have hlen : l.length = l'.length := Decidable.byContradiction fun e => by rw [bne_true e] at h; cases h
    repeat (first | refine wS ?_ | refine wB ?_ | (refine wR ?_; simp only [go_sem]) | (refine wT ?_ ?_; focus (simp only [go_sem]; done)) | (refine wF ?_ ?_; focus (simp only [go_sem]; done)) | (refine wK ?_; try simp only [go_sem]) | (refine wE ?_; try simp only [go_sem]) | refine wX ?_)
    refine wL (fun i => ⟨26, ofL [(0, rc l), (1, rc l'), (12, .d (.v (.int .i64 l.length))), (13, .d (.v (.int .i64 (i : Nat))))], []⟩) (l.length) (fun i => eqL (· == ·) (l.take i) (l'.take i) = true) wSb (rfl) ?_
    intro i hi hinv R hR
    simp only [go_sem]
    repeat (first | refine wS ?_ | refine wB ?_ | (refine wR ?_; simp only [go_sem]) | (refine wT ?_ ?_; focus (simp only [go_sem]; done)) | (refine wF ?_ ?_; focus (simp only [go_sem]; done)) | (refine wK ?_; try simp only [go_sem]) | (refine wE ?_; try simp only [go_sem]) | refine wX ?_)
    refine wI (fun h => ?_) (fun h => ?_)
    · have hlt : i < l.length := by simpa using h
      have hlt2 : ((i : Int) < ((l.length : Nat) : Int)) = True := eq_true (by omega)
      have hw := wrap_succ (i := i) (by omega)
      have hlt' : i < l'.length := by omega
      have hx : (l.map c64L)[i]? = some (c64L l[i]) := by rw [List.getElem?_map, List.getElem?_eq_getElem hlt]; rfl
      have hy : (l'.map c64L)[i]? = some (c64L l'[i]) := by rw [List.getElem?_map, List.getElem?_eq_getElem hlt']; rfl
      obtain ⟨h1, h2⟩ := eqL_take (· == ·) l l' i l[i] l'[i] (List.getElem?_eq_getElem hlt) (List.getElem?_eq_getElem hlt') hinv
      generalize l[i] = x at hx h1 h2
      generalize l'[i] = y at hy h1 h2
      repeat (first | refine wS ?_ | refine wB ?_ | (refine wR ?_; simp only [go_sem, hx, hy, c64L]) | (refine wT ?_ ?_; focus (simp only [go_sem]; done)) | (refine wF ?_ ?_; focus (simp only [go_sem]; done)) | (refine wK ?_; try simp only [go_sem, hx, hy, c64L]) | (refine wE ?_; try simp only [go_sem, hx, hy, c64L]) | refine wX ?_)
      refine wMp [(0, 3), (0, 7)] ?_ mixedO (by kernel_rfl)
      simp only [go_sem, hx, hy, c64L]
      repeat (first | refine wS ?_ | refine wB ?_ | (refine wR ?_; simp only [go_sem, hx, hy, c64L]) | (refine wT ?_ ?_; focus (simp only [go_sem]; done)) | (refine wF ?_ ?_; focus (simp only [go_sem]; done)) | (refine wK ?_; try simp only [go_sem, hx, hy, c64L]) | (refine wE ?_; try simp only [go_sem, hx, hy, c64L]) | refine wX ?_)
      repeat (first | refine wS ?_ | refine wB ?_ | (refine wR ?_; simp only [go_sem]) | (refine wT ?_ ?_; focus (simp only [go_sem]; done)) | (refine wF ?_ ?_; focus (simp only [go_sem]; done)) | (refine wK ?_; try simp only [go_sem]) | (refine wE ?_; try simp only [go_sem]) | refine wX ?_)
      refine wI (fun h => ?_) (fun h => ?_)
      · have hb : (x == y) = false := by
          cases hxy : (x == y) with
          | false => rfl
          | true =>
            have e : x = y := by simpa using hxy
            subst e
            simp at h
        repeat (first | refine wS ?_ | refine wB ?_ | (refine wR ?_; simp only [go_sem]) | (refine wT ?_ ?_; focus (simp only [go_sem]; done)) | (refine wF ?_ ?_; focus (simp only [go_sem]; done)) | (refine wK ?_; try simp only [go_sem]) | (refine wE ?_; try simp only [go_sem]) | refine wX ?_)
        simp only [Thn, InB]
        rw [h2 hb]
        exact wRq
      · have hb : (x == y) = true := by
          cases hxy : (x == y) with
          | true => rfl
          | false =>
            have e : x ≠ y := by simpa using hxy
            have e2 : ((x : Int) != (y : Int)) = true := by
              simp only [bne_iff_ne, ne_eq]
              omega
            first | exact absurd e2 h | (rw [e2] at h; cases h)
        repeat (first | refine wS ?_ | refine wB ?_ | (refine wR ?_; simp only [go_sem, hw]) | (refine wT ?_ ?_; focus (simp only [go_sem]; done)) | (refine wF ?_ ?_; focus (simp only [go_sem]; done)) | (refine wK ?_; try simp only [go_sem, hw]) | (refine wE ?_; try simp only [go_sem, hw]) | refine wX ?_)
        exact hR hlt (by rw [h1, hb]) _ wSb
    · obtain rfl : i = l.length := by simp at h; omega
      repeat (first | refine wS ?_ | refine wB ?_ | (refine wR ?_; simp only [go_sem]) | (refine wT ?_ ?_; focus (simp only [go_sem]; done)) | (refine wF ?_ ?_; focus (simp only [go_sem]; done)) | (refine wK ?_; try simp only [go_sem]) | (refine wE ?_; try simp only [go_sem]) | refine wX ?_)
      have he : eqL (· == ·) l l' = true := by
        have := hinv
        rwa [List.take_of_length_le (Nat.le_refl _), List.take_of_length_le (by omega)] at this
      rw [he]
      exact wRq
end Go.Proofs.YtfbegbpipmgfiaaDoor.Lift
end
section
/- The lift: drawn regions in which variables are made that float among what turns nothing. No conditions: words and their laws. -/
set_option linter.unusedVariables false
set_option linter.unusedSimpArgs false
set_option maxHeartbeats 4000000
set_option maxRecDepth 100000
set_option linter.unnecessarySimpa false
set_option linter.unusedSectionVars false
namespace Go.Proofs.YtfbegbpipmgfiaaDoor.Lift
open Go Go.RowKit

section
variable {P : Program} {W0 : World} {n : Nat} {X : Ax → St → Prop}

theorem ldAt_app {bs : List Box} {z : Box} {p : AV} {cs : List AV} (h : ldAt bs p = some cs) : ldAt (bs ++ [z]) p = some cs := by
  cases p <;> simp only [ldAt] at h ⊢ <;> try exact h
  all_goals
    rename_i b _
    first
      | (split at h
         · rename_i hb
           rw [List.getElem?_append_left (List.getElem?_eq_some_iff.1 hb).1, hb]
           exact h
         · cases h)
      | skip
  all_goals
    split at h
    · rename_i hb
      rw [List.getElem?_append_left (List.getElem?_eq_some_iff.1 hb).1, hb]
      exact h
    · rename_i hb
      rw [List.getElem?_append_left (List.getElem?_eq_some_iff.1 hb).1, hb]
      exact h
    · cases h
theorem opV_app {bs : List Box} {z : Box} {e : Nat → Option AV} {op : Op} {x : AV} (h : opV P e bs op = some x) : opV P e (bs ++ [z]) op = some x := by
  unfold opV at h ⊢
  by_cases hm : mkOp op = true
  · rw [if_pos hm] at h; cases h
  rw [if_neg hm] at h ⊢
  simp only [Option.map_eq_some_iff] at h
  obtain ⟨⟨y, bs'⟩, h1, rfl⟩ := h
  have hm' : mkOp op = false := by simpa using hm
  have hk := opR_keep hm' h1
  subst hk
  suffices hs : opR P e (bs' ++ [z]) op = some (y, bs' ++ [z]) by rw [hs]; rfl
  by_cases hr : rdOp op = true
  · cases op <;> simp only [rdOp, Bool.false_eq_true] at hr
    case load T q =>
      simp only [opR, Option.map_eq_some_iff, Prod.mk.injEq, Option.bind_eq_some_iff] at h1 ⊢
      obtain ⟨v, ⟨cs, ⟨p, hp, hl⟩, hv⟩, rfl, _⟩ := h1
      exact ⟨v, ⟨cs, ⟨p, hp, ldAt_app hl⟩, hv⟩, rfl, trivial⟩
    case lookup T q i ok =>
      cases ok
      · simp only [opR] at h1 ⊢
        split at h1
        · split at h1
          · rename_i hb
            rw [List.getElem?_append_left (List.getElem?_eq_some_iff.1 hb).1, hb]
            simp only at h1 ⊢
            split at h1
            · rename_i hc
              rw [if_pos hc]
              cases h1
              rfl
            · cases h1
          · cases h1
        · cases h1
      · simp only [opR] at h1
        cases h1
  · exact opR_any hm' (by simpa using hr) h1 _
theorem Q1_app {bs : List Box} {z : Box} {e : Nat → Option AV} {o : Oper} {x : AV} (h : Q1 P W0 bs e o x) : Q1 P W0 (bs ++ [z]) e o x := by
  cases h with
  | op _ h => exact .op _ (opV_app h)
  | data _ h => exact .data _ h
  | call fo args ts f caps xs _ ho hf ha hc hn hr hy => exact .call fo args ts f caps xs _ ho hf ha hc hn hr hy
theorem Yl_app {bs : List Box} {z : Box} {ops : Array Oper} {e : Nat → Option AV} {o : Oper} {x : AV} (h : Yl P W0 bs ops e o x) : Yl P W0 (bs ++ [z]) ops e o x := by
  unfold Yl at h ⊢
  split at h
  · exact Q1_app h
  · obtain ⟨t, G, y, h1, h2, h3, h4⟩ := h
    exact ⟨t, G, y, h1, h2, h3, fun hG => Q1_app (h4 hG)⟩

theorem Yl_pre {bs : List Box} {ops : Array Oper} {e : Nat → Option AV} {o : Oper} {x : AV} (h : Yl P W0 bs ops e o x) : ∀ ex : List Box, Yl P W0 (bs ++ ex) ops e o x := by
  intro ex
  induction ex generalizing bs with
  | nil => rw [List.append_nil]; exact h
  | cons z ex ih =>
    have := ih (Yl_app (z := z) h)
    rwa [List.append_assoc, List.singleton_append] at this
/-- The first boxes are as they were. -/
def preB (bs0 bs : List Box) : Prop := ∃ ex, bs = bs0 ++ ex
def anyF (P : Program) (W0 : World) (n N : Nat) (X : Ax → St → Prop) (md : Region.Mode) (ops : Array Oper) (qt ft : Nat → Bool) (bs0 : List Box) (Q : List Box → (Nat → Option AV) → Prop) : Nat → Array Bool → List Box → (Nat → Option AV) → Prop
  | 0, listed, bs, e => Region.ready md ops listed = [] ∧ Q bs e
  | fuel + 1, listed, bs, e => (Region.ready md ops listed = [] → Q bs e) ∧ ∀ i ∈ Region.ready md ops listed, ∃ o, ops[i]? = some o ∧
      if qt i = true then ∃ x, Yl P W0 bs ops e o x ∧ anyF P W0 n N X md ops qt ft bs0 Q fuel (listed.setIfInBounds i true) bs (upd e o.dst x)
      else if ft i = true then ∃ x bs', o.guard = none ∧ opR P e bs o.op = some (x, bs') ∧ preB bs0 bs' ∧ anyF P W0 n N X md ops qt ft bs0 Q fuel (listed.setIfInBounds i true) bs' (upd e o.dst x)
      else gO P W0 n N X ops o (fun bs' e' => anyS P W0 n N X md ops qt Q fuel (listed.setIfInBounds i true) bs' e') bs e
theorem anyS_ofF {N : Nat} {md : Region.Mode} {ops : Array Oper} {qt ft : Nat → Bool} {bs0 : List Box} {Q : List Box → (Nat → Option AV) → Prop} (hd : ∀ (i : Nat) (o : Oper), ops[i]? = some o → dOk N o.dst = true) :
    ∀ (fuel : Nat) (listed : Array Bool) (bs : List Box) (env : List (List (Option AV))), anyF P W0 n N X md ops qt ft bs0 Q fuel listed bs (lk env) → anyS P W0 n N X md ops qt Q fuel listed bs (lk env)
  | 0, _, _, _, h => h
  | fuel + 1, listed, bs, env, h => by
    refine ⟨h.1, fun i hi => ?_⟩
    obtain ⟨o, ho, h1⟩ := h.2 i hi
    refine ⟨o, ho, ?_⟩
    by_cases hq : qt i = true
    · rw [if_pos hq] at h1 ⊢
      obtain ⟨x, hy, hk⟩ := h1
      refine ⟨x, hy, ?_⟩
      rw [← lk_putL] at hk ⊢
      exact anyS_ofF hd fuel _ _ _ hk
    · rw [if_neg hq] at h1 ⊢
      by_cases hf : ft i = true
      · rw [if_pos hf] at h1
        obtain ⟨x, bs', hg, hop, _, hk⟩ := h1
        rw [← lk_putL] at hk
        have hk2 := anyS_ofF hd fuel _ _ _ hk
        refine gO_of hg (A_step hg hop (hd i o ho) (A_nil ?_))
        cases hdst : o.dst with
        | none => rw [hdst] at hk2; exact ⟨rfl, hk2⟩
        | some t => rw [hdst] at hk2; exact ⟨rfl, hk2⟩
      · rw [if_neg hf] at h1
        exact h1
theorem anyF_first {N : Nat} {md : Region.Mode} {ops : Array Oper} {qt ft : Nat → Bool} {Q : List Box → (Nat → Option AV) → Prop} {i : Nat} {oi : Oper} {x : AV} {bs0 : List Box} (hi : ops[i]? = some oi) (hqi : qt i = true)
    (hT : ∀ listed : Array Bool, listed.size = ops.size → DC md ops listed → listed.getD i false = false → ∀ j ∈ Region.ready md ops listed, qt j = true ∨ ft j = true) :
    ∀ (fuel : Nat) (listed : Array Bool) (bs : List Box) (e : Nat → Option AV), listed.size = ops.size → DC md ops listed →
      (∀ j oj, ops[j]? = some oj → j ≠ i → listed.getD j true = false → (∀ e ∈ oj.after, Region.binds md e = true → e.on ≠ i) → oi.apart ops oj = true) →
      i ∈ Region.ready md ops listed → preB bs0 bs → Yl P W0 bs0 ops e oi x →
      anyF P W0 n N X md ops qt ft bs0 Q fuel (listed.setIfInBounds i true) bs (upd e oi.dst x) → anyF P W0 n N X md ops qt ft bs0 Q (fuel + 1) listed bs e := by
  intro fuel
  have own : ∀ (fuel : Nat) (listed : Array Bool) (bs : List Box) (e : Nat → Option AV), preB bs0 bs → Yl P W0 bs0 ops e oi x → anyF P W0 n N X md ops qt ft bs0 Q fuel (listed.setIfInBounds i true) bs (upd e oi.dst x) → ∃ o, ops[i]? = some o ∧
      if qt i = true then ∃ x, Yl P W0 bs ops e o x ∧ anyF P W0 n N X md ops qt ft bs0 Q fuel (listed.setIfInBounds i true) bs (upd e o.dst x)
      else if ft i = true then ∃ x bs', o.guard = none ∧ opR P e bs o.op = some (x, bs') ∧ preB bs0 bs' ∧ anyF P W0 n N X md ops qt ft bs0 Q fuel (listed.setIfInBounds i true) bs' (upd e o.dst x)
      else gO P W0 n N X ops o (fun bs' e' => anyS P W0 n N X md ops qt Q fuel (listed.setIfInBounds i true) bs' e') bs e := fun fuel listed bs e hpre hy hk => by
    obtain ⟨ex, rfl⟩ := hpre
    refine ⟨oi, hi, ?_⟩
    rw [if_pos hqi]
    exact ⟨x, Yl_pre hy ex, hk⟩
  induction fuel with
  | zero =>
    intro listed bs e hs hdc _ hr hpre hy H
    refine ⟨fun h => (by rw [h] at hr; cases hr), fun j hj => ?_⟩
    by_cases hji : j = i
    · subst hji; exact own _ _ _ _ hpre hy H
    · have := ready_mono hj hji
      rw [H.1] at this
      cases this
  | succ fuel ih =>
    intro listed bs e hs hdc hfree hr hpre hy H
    refine ⟨fun h => (by rw [h] at hr; cases hr), fun j hj => ?_⟩
    by_cases hji : j = i
    · subst hji; exact own _ _ _ _ hpre hy H
    · have hun : listed.getD i false = false := by
        have h0 := (mem_ready.1 hr).1
        rcases Nat.lt_or_ge i listed.size with h' | h'
        · simp [h'] at h0 ⊢; exact h0
        · simp [Array.getElem?_eq_none h']
      have hqj := hT listed hs hdc hun j hj
      obtain ⟨oj, hoj, h1⟩ := H.2 j (ready_mono hj hji)
      obtain ⟨hjun, oj', hoj', hall⟩ := mem_ready.1 hj
      rw [hoj] at hoj'
      cases hoj'
      have hnot : ∀ e ∈ oj.after, Region.binds md e = true → e.on ≠ i := fun e he hb heq => by
        have h1 := hall e he hb
        rw [heq, hun] at h1
        cases h1
      obtain ⟨p1, p2, p3⟩ := Oper.apart_spec (hfree j oj hoj hji hjun hnot)
      have hfree' : ∀ k ok, ops[k]? = some ok → k ≠ i → (listed.setIfInBounds j true).getD k true = false →
          (∀ e ∈ ok.after, Region.binds md e = true → e.on ≠ i) → oi.apart ops ok = true := fun k ok hk hki hun hno => by
        refine hfree k ok hk hki ?_ hno
        by_cases hjk : j = k
        · subst hjk; exact hjun
        · rw [getD_set_ne true hjk] at hun; exact hun
      refine ⟨oj, hoj, ?_⟩
      by_cases hq : qt j = true
      · rw [if_pos hq] at h1 ⊢
        obtain ⟨y, hy1, hy2⟩ := h1
        refine ⟨y, (Yl_upd p1).1 hy1, ih (listed.setIfInBounds j true) _ _ (by simpa using hs) (hdc.set hj) hfree' (ready_mono hr (Ne.symm hji)) hpre ((Yl_upd p3).2 hy) ?_⟩
        rw [Array.setIfInBounds_comm _ _ hji, ← upd_comm e x y p2]
        exact hy2
      · have hf := hqj.resolve_left hq
        rw [if_neg hq, if_pos hf] at h1 ⊢
        obtain ⟨y, bs', hg, hop, hpre2, hk⟩ := h1
        have hop2 : opR P e bs oj.op = some (y, bs') := by
          rw [← hop]
          refine opR_congr fun q hq t ht => ?_
          subst ht
          cases hdi : oi.dst with
          | none => rfl
          | some d =>
            have h3 := p1 d hdi
            simp only [upd]
            rw [if_neg]
            rintro rfl
            exact h3 (by simp only [Oper.looksAt, List.mem_append, List.mem_filterMap]; exact .inl ⟨_, by simpa using hq, rfl⟩)
        refine ⟨y, bs', hg, hop2, hpre2, ih (listed.setIfInBounds j true) _ _ (by simpa using hs) (hdc.set hj) hfree' (ready_mono hr (Ne.symm hji)) hpre2 ((Yl_upd p3).2 hy) ?_⟩
        rw [Array.setIfInBounds_comm _ _ hji, ← upd_comm e x _ p2]
        exact hk
def fsf (fs : List Nat) (i : Nat) : Bool := fs.contains i
def chkF5 (l : List Oper) (k : Nat) (qs fs : List Nat) (i : Nat) : Bool := (List.range l.length).all fun j => qtf k qs j || fsf fs j || !(grS .any i l []).getD j false
def drF5 (l : List Oper) (k : Nat) (qs fs : List Nat) : Nat → Nat → Array Bool → Bool
  | 0, _, _ => true
  | c + 1, i, listed => (Region.ready .any l.toArray listed).contains i && Region.free .any l.toArray listed i && chkF5 l k qs fs i && drF5 l k qs fs c (i + 1) (listed.setIfInBounds i true)
def drB5 (l : List Oper) (k : Nat) (qs fs : List Nat) : Bool := backF .any l 0 && drF5 l k qs fs k 0 (Array.replicate l.length false)
theorem chk5_spec {l : List Oper} {k : Nat} {qs fs : List Nat} {i : Nat} (hb : backF .any l 0 = true) (hq : qtf k qs i = true) (hc : chkF5 l k qs fs i = true) {listed : Array Bool} (hs : listed.size = l.length) (hdc : DC .any l.toArray listed) (hi : listed.getD i false = false) : ∀ j ∈ Region.ready .any l.toArray listed, qtf k qs j = true ∨ fsf fs j = true := by
  intro j hj
  obtain ⟨h0, o, ho, hall⟩ := mem_ready.1 hj
  have ho' : l[j]? = some o := by simpa using ho
  have hlt : j < l.length := (List.getElem?_eq_some_iff.1 ho').1
  have h1 := List.all_eq_true.1 hc j (List.mem_range.2 hlt)
  rw [Bool.or_eq_true, Bool.or_eq_true] at h1
  rcases h1 with h1 | h2
  · exact h1
  by_cases hj' : qtf k qs j = true
  · exact .inl hj'
  exfalso
  have h3 := grS_at (md := .any) (i := i) l [] j o hb ho'
  simp only [List.length_nil, Nat.zero_add] at h3
  rw [h3] at h2
  have h4 : (o.after.all fun e => !Region.binds .any e || (grS .any i l []).getD e.on false) = true := Array.all_eq_true_iff_forall_mem.2 fun e he => by
    cases hbd : Region.binds .any e
    · rfl
    · rw [grS_all hb hs hdc hi e.on (hall e he hbd)]
      rfl
  rw [h4, Bool.and_true] at h2
  simp only [Bool.not_eq_true', bne_eq_false_iff_eq] at h2
  subst h2
  exact hj' hq
/-- What is left of a drawn region, with variables that are still to be made. -/
def TF (P : Program) (W0 : World) (n N : Nat) (ops : Array Oper) (qt ft : Nat → Bool) (bs0 : List Box) (Q : Ax → St → Prop) (fuel : Nat) (listed : Array Bool) (bs : List Box) (env : List (List (Option AV))) : Prop :=
  anyF P W0 n N Q .any ops qt ft bs0 (fun bs e => ∃ env', lk env' = e ∧ Q .normal ⟨N, env', bs⟩) fuel listed bs (lk env)
@[congr] theorem TF_congr {N : Nat} {ops : Array Oper} {qt ft : Nat → Bool} {bs0 : List Box} {Q : Ax → St → Prop} {fuel : Nat} {listed : Array Bool} {bs bs' : List Box} {env env' : List (List (Option AV))} (h : env = env') (h' : bs = bs') : TF P W0 n N ops qt ft bs0 Q fuel listed bs env = TF P W0 n N ops qt ft bs0 Q fuel listed bs' env' := by rw [h, h']
theorem anyF_lex {N : Nat} {l : List Oper} {k : Nat} {qs fs : List Nat} {Q : List Box → (Nat → Option AV) → Prop} {bs : List Box} {fuel : Nat} (hb : backF .any l 0 = true) : ∀ (l1 : List Oper) (i : Nat) (listed : Array Bool) (env : List (List (Option AV))), (∀ j : Nat, j < l1.length → l1[j]? = l[i + j]?) → i + l1.length ≤ k → listed.size = l.length → DC .any l.toArray listed →
    drF5 l k qs fs l1.length i listed = true → aqs P W0 bs l.toArray (fun env => anyF P W0 n N X .any l.toArray (qtf k qs) (fsf fs) bs Q fuel (setN l1.length i listed) bs (lk env)) l1 env → anyF P W0 n N X .any l.toArray (qtf k qs) (fsf fs) bs Q (l1.length + fuel) listed bs (lk env)
  | [], i, listed, env, _, _, _, _, _, h => by
    simp only [List.length_nil, Nat.zero_add]
    exact h
  | o :: l1, i, listed, env, hl, hk, hs, hdc, hB, h => by
    have h0 : l.toArray[i]? = some o := by
      have := hl 0 (by simp)
      simpa using this.symm
    simp only [List.length_cons, drF5, Bool.and_eq_true] at hB
    obtain ⟨⟨⟨hr, hf⟩, hc⟩, hB'⟩ := hB
    obtain ⟨x, hy, hkk⟩ := h
    have hqi : qtf k qs i = true := by
      simp only [List.length_cons] at hk
      simp only [qtf, Bool.or_eq_true, decide_eq_true_eq]
      left
      omega
    have hmem : i ∈ Region.ready .any l.toArray listed := by simpa using hr
    have := anyF_first (P := P) (W0 := W0) (n := n) (X := X) (N := N) (Q := Q) h0 hqi (fun listed hs hdc hun => chk5_spec hb hqi hc (by simpa using hs) hdc hun) (l1.length + fuel) listed bs (lk env) (by simpa using hs) hdc (Region.free_spec h0 hf) hmem ⟨[], by rw [List.append_nil]⟩ hy ?_
    · simp only [List.length_cons]
      rw [show l1.length + 1 + fuel = l1.length + fuel + 1 by omega]
      exact this
    rw [← lk_putL]
    exact anyF_lex hb l1 (i + 1) _ _ (fun j hj => by have := hl (j + 1) (by simp; omega); simpa [Nat.add_assoc, Nat.add_comm 1 j] using this) (by simp only [List.length_cons] at hk; omega) (by simpa using hs) (hdc.set hmem) hB' hkk
theorem A_drawnF {Q : Ax → St → Prop} {st : St} {id : Nat} {l l1 : List Oper} {gs : List (Option (Option Nat × Bool))} (k : Nat) (qs fs : List Nat) (hm : P.follows .mixedOrders = true) (h1 : l.take k = l1) (hB : drB5 l k qs fs = true) (hg : gsl l.toArray l1 = gs) (hd : l.all (okO st.N) = true) (hk : k ≤ l.length)
    (h : aqg P W0 st.bs l.toArray (fun env => TF P W0 n st.N l.toArray (qtf k qs) (fsf fs) st.bs Q (l.length - k) (setN k 0 (Array.replicate l.length false)) st.bs env) l1 gs st.env) : ACode P W0 n (.region id l.toArray true) Q st := by
  intro E M m a w hn hC
  have hd' : ∀ (i : Nat) (o : Oper), l.toArray[i]? = some o → dOk st.N o.dst = true := fun i o ho => okO_d (List.all_eq_true.1 hd o (List.mem_of_getElem? (by simpa using ho)))
  simp only [drB5, Bool.and_eq_true] at hB
  have hl1 : l1.length = k := by rw [← h1, List.length_take]; omega
  refine wpR_region_any LQ_in (okO_n hd) hm (wpAny_ofS (P := P) (W0 := W0) (n := n) (X := Q) (qt := qtf k qs) (Q := fun bs e => ∃ env', lk env' = e ∧ Q .normal ⟨st.N, env', bs⟩) hn hd' (fun _ _ _ _ h => h) (fun M m bs e a w hc ⟨env', he, hq⟩ => ⟨M, m, ⟨st.N, env', bs⟩, .normal, CE.to (by rw [he]; exact hc), hq, trivial⟩) _ _ M m st.bs (lk st.env) a _ (CE.of hC.drew) (anyS_ofF (ft := fsf fs) (bs0 := st.bs) hd' _ _ _ _ ?_))
  have := anyF_lex (P := P) (W0 := W0) (n := n) (X := Q) (N := st.N) (l := l) (k := k) (qs := qs) (fs := fs) (bs := st.bs) (fuel := l.length - k) (Q := fun bs e => ∃ env', lk env' = e ∧ Q .normal ⟨st.N, env', bs⟩) hB.1 l1 0 (Array.replicate l.length false) st.env (fun j hj => by rw [← h1, List.getElem?_take, if_pos (by omega), Nat.zero_add]) (by omega) (by simp) (fun j o _ hj => by simp [Array.getD_eq_getD_getElem?, Array.getElem?_replicate] at hj; split at hj <;> simp at hj) (by rw [hl1]; exact hB.2) (by rw [hl1]; exact h hg)
  rw [hl1] at this
  simpa [show k + (l.length - k) = l.length by omega] using this
theorem wDF {Q : Ax → St → Prop} {st : St} {id : Nat} {l : List Oper} (k : Nat) (qs fs : List Nat) {gs : List (Option (Option Nat × Bool))} (h : run3 P W0 st.bs l.toArray (fun env => TF P W0 n st.N l.toArray (qtf k qs) (fsf fs) st.bs Q (l.length - k) (setN k 0 (Array.replicate l.length false)) st.bs env) (l.take k) gs st.env)
    (hm : P.follows .mixedOrders = true) (hB : drB5 l k qs fs = true) (hg : gsl l.toArray (l.take k) = gs := by (simp only [gsl, List.take_succ_cons, List.take_zero, List.map_cons, List.map_nil, Option.map_none, Option.map_some, List.getElem?_toArray, List.getElem?_cons_zero, List.getElem?_cons_succ, Option.bind_some] <;> rfl)) (hd : l.all (okO st.N) = true := by rfl) (hk : k ≤ l.length := by decide) : ACode P W0 n (.region id l.toArray true) Q st := A_drawnF k qs fs hm rfl hB hg hd hk (run3_aqg h)
/-- All is made: what is left is as ever. -/
theorem anyF_ofS {N : Nat} {md : Region.Mode} {ops : Array Oper} {qt ft : Nat → Bool} {bs0 : List Box} {Q : List Box → (Nat → Option AV) → Prop} :
    ∀ (fuel : Nat) (listed : Array Bool) (bs : List Box) (e : Nat → Option AV), (∀ i, ft i = true → listed.getD i true = true) → anyS P W0 n N X md ops qt Q fuel listed bs e → anyF P W0 n N X md ops qt ft bs0 Q fuel listed bs e
  | 0, _, _, _, _, h => h
  | fuel + 1, listed, bs, e, hl, h => by
    refine ⟨h.1, fun i hi => ?_⟩
    obtain ⟨o, ho, h1⟩ := h.2 i hi
    refine ⟨o, ho, ?_⟩
    by_cases hq : qt i = true
    · rw [if_pos hq] at h1 ⊢
      obtain ⟨x, hy, hk⟩ := h1
      refine ⟨x, hy, anyF_ofS fuel _ _ _ (fun j hj => ?_) hk⟩
      by_cases e : i = j
      · subst e
        have := hl i hj
        have h0 := (mem_ready.1 hi).1
        rw [this] at h0
        cases h0
      · rw [getD_set_ne true e]
        exact hl j hj
    · rw [if_neg hq] at h1 ⊢
      have hf : ¬ ft i = true := fun hf => by
        have := hl i hf
        have h0 := (mem_ready.1 hi).1
        rw [this] at h0
        cases h0
      rw [if_neg hf]
      exact h1
theorem wFe {N : Nat} {ops : Array Oper} {qt : Nat → Bool} {fs : List Nat} {bs0 : List Box} {Q : Ax → St → Prop} {fuel : Nat} {listed : Array Bool} {bs : List Box} {env : List (List (Option AV))} (h : TL P W0 n N ops qt Q fuel listed bs env) (hl : (fs.all fun q => listed.getD q true) = true) :
    TF P W0 n N ops qt (fsf fs) bs0 Q fuel listed bs env := anyF_ofS fuel _ _ _ (fun i hi => List.all_eq_true.1 hl i (by simpa [fsf] using hi)) h
/-- What comes of an operation that floats. -/
def StF (P : Program) (W0 : World) (n N : Nat) (ops : Array Oper) (qt ft : Nat → Bool) (bs0 : List Box) (Q : Ax → St → Prop) (fuel : Nat) (listed : Array Bool) (bs : List Box) (env : List (List (Option AV))) (i : Nat) (o : Oper) : Prop :=
  onSome (opR P (lk env) bs o.op) (fun p => preB bs0 p.2 ∧ TF P W0 n N ops qt ft bs0 Q fuel (listed.setIfInBounds i true) p.2 (putL o.dst p.1 env)) False
theorem StF_spec {N : Nat} {ops : Array Oper} {qt ft : Nat → Bool} {bs0 : List Box} {Q : Ax → St → Prop} {fuel : Nat} {listed : Array Bool} {bs : List Box} {env : List (List (Option AV))} {i : Nat} {o : Oper} (h : StF P W0 n N ops qt ft bs0 Q fuel listed bs env i o) (hg : o.guard = none) :
    ∃ x bs', o.guard = none ∧ opR P (lk env) bs o.op = some (x, bs') ∧ preB bs0 bs' ∧ anyF P W0 n N Q .any ops qt ft bs0 (fun bs e => ∃ env', lk env' = e ∧ Q .normal ⟨N, env', bs⟩) fuel (listed.setIfInBounds i true) bs' (upd (lk env) o.dst x) := by
  unfold StF at h
  cases hs : opR P (lk env) bs o.op with
  | none => rw [hs] at h; exact h.elim
  | some p =>
    rw [hs] at h
    obtain ⟨h1, h2⟩ := h
    refine ⟨p.1, p.2, hg, rfl, h1, ?_⟩
    rw [← lk_putL]
    exact h2
theorem wFa {N : Nat} {ops : Array Oper} {qt ft : Nat → Bool} {bs0 : List Box} {Q : Ax → St → Prop} {fuel : Nat} {listed : Array Bool} {bs : List Box} {env : List (List (Option AV))} (i : Nat) {oi : Oper} (h1 : StF P W0 n N ops qt ft bs0 Q fuel listed bs env i oi) (hr : Region.ready .any ops listed = [i])
    (ho : ops[i]? = some oi := by (simp only [List.getElem?_toArray, List.getElem?_cons_succ, List.getElem?_cons_zero] <;> rfl)) (hq : qt i = false := by rfl) (hf : ft i = true := by rfl) (hg : oi.guard = none := by rfl) : TF P W0 n N ops qt ft bs0 Q (fuel + 1) listed bs env := by
  refine ⟨fun h0 => (by rw [hr] at h0; cases h0), fun q hq2 => ?_⟩
  rw [hr, List.mem_singleton] at hq2
  subst hq2
  exact ⟨oi, ho, by rw [if_neg (by rw [hq]; simp), if_pos hf]; exact StF_spec h1 hg⟩
theorem wFb {N : Nat} {ops : Array Oper} {qt ft : Nat → Bool} {bs0 : List Box} {Q : Ax → St → Prop} {fuel : Nat} {listed : Array Bool} {bs : List Box} {env : List (List (Option AV))} (i j : Nat) {oi oj : Oper} (h1 : StF P W0 n N ops qt ft bs0 Q fuel listed bs env i oi) (h2 : StF P W0 n N ops qt ft bs0 Q fuel listed bs env j oj) (hr : Region.ready .any ops listed = [i, j])
    (ho : ops[i]? = some oi := by (simp only [List.getElem?_toArray, List.getElem?_cons_succ, List.getElem?_cons_zero] <;> rfl)) (hp : ops[j]? = some oj := by (simp only [List.getElem?_toArray, List.getElem?_cons_succ, List.getElem?_cons_zero] <;> rfl))
    (hq : qt i = false := by rfl) (hq' : qt j = false := by rfl) (hf : ft i = true := by rfl) (hf' : ft j = true := by rfl) (hg : oi.guard = none := by rfl) (hg' : oj.guard = none := by rfl) : TF P W0 n N ops qt ft bs0 Q (fuel + 1) listed bs env := by
  refine ⟨fun h0 => (by rw [hr] at h0; cases h0), fun q hq2 => ?_⟩
  rw [hr] at hq2
  rcases List.mem_cons.1 hq2 with rfl | hq3
  · exact ⟨oi, ho, by rw [if_neg (by rw [hq]; simp), if_pos hf]; exact StF_spec h1 hg⟩
  · rw [List.mem_singleton] at hq3
    subst hq3
    exact ⟨oj, hp, by rw [if_neg (by rw [hq']; simp), if_pos hf']; exact StF_spec h2 hg'⟩
/-- A long region: its text lies in two. -/
theorem wRa {Q : Ax → St → Prop} {st : St} {id : Nat} {b : Bool} {l1 l2 l : List Oper} (h : ACode P W0 n (.region id l.toArray b) Q st) (hl : List.append l1 l2 = l := by (simp only [List.append_eq, List.cons_append, List.nil_append] <;> rfl)) : ACode P W0 n (.region id (List.append l1 l2).toArray b) Q st := hl ▸ h
end
end Go.Proofs.YtfbegbpipmgfiaaDoor.Lift
end
section
/- pdata's reference: SamePoint. -/
set_option linter.unusedVariables false
set_option linter.unusedSimpArgs false
set_option maxHeartbeats 4000000
set_option maxRecDepth 100000
namespace Go.Proofs.YtfbegbpipmgfiaaDoor.Lift
open Go Go.RowKit

theorem bitsB_eq : (fun x y : Nat => x == y) = bitsB := by
  funext x y
  unfold bitsB
  cases h : x == y with
  | true =>
    have e : x = y := by simpa using h
    subst e
    simp
  | false =>
    have e : x ≠ y := by simpa using h
    symm
    simp only [beq_eq_false_iff_ne, ne_eq]
    omega
theorem rsamePt_c {W0 : World} (a b : Pt) (ha : okT a) : APure Tryd.prog W0 21 [ta a, ta b] (· = .ret (.d (.v (.bool (samePt a b))))) := by
  have hb := floats_c (W0 := W0) a.bnd b.bnd (by have := ha.bnd.1; omega)
  have hc := counts_c (W0 := W0) a.cts b.cts (by have := ha.cts.1; omega)
  have hn := counts_c (W0 := W0) a.neg b.neg (by have := ha.neg.1; omega)
  refine A_body Tryd.func21 rfl (Nat.le_of_ble_eq_true rfl) ?_
  simp only [go_sem, Tryd.ntmps21, Tryd.results21, mkEnv]
  repeat (first | refine wS ?_ | refine wB ?_ | (refine wR ?_; simp only [go_sem]) | (refine wT ?_ ?_; focus (simp only [go_sem]; done)) | (refine wF ?_ ?_; focus (simp only [go_sem]; done)) | (refine wK ?_; try simp only [go_sem]) | (refine wE ?_; try simp only [go_sem]) | refine wX ?_)
  refine wI (fun h => ?_) (fun h => ?_)
  · have he : samePt a b = false := by
      cases hs : samePt a b with
      | false => rfl
      | true =>
        simp only [samePt, headPt, Bool.and_eq_true, beq_iff_eq] at hs
        have hl : a.qts.length = b.qts.length := Decidable.byContradiction fun e => by
          have := eqL_len quantB a.qts b.qts e
          simp_all
        obtain ⟨⟨⟨⟨⟨⟨hh, _⟩, _⟩, _⟩, _⟩, _⟩, _⟩ := hs
        simp [hh, hl] at h
    repeat (first | refine wS ?_ | refine wB ?_ | (refine wR ?_; simp only [go_sem]) | (refine wT ?_ ?_; focus (simp only [go_sem]; done)) | (refine wF ?_ ?_; focus (simp only [go_sem]; done)) | (refine wK ?_; try simp only [go_sem]) | (refine wE ?_; try simp only [go_sem]) | refine wX ?_)
    simp only [Thn, InB]
    rw [he]
    exact wRq
  · have hl : a.qts.length = b.qts.length := by
      simp only [Bool.or_eq_false_iff, bne_eq_false_iff_eq] at h
      omega
    have hhs : a.hs = b.hs := by
      cases h3 : a.hs <;> cases h4 : b.hs <;> simp [h3, h4] at h ⊢
    have hd : headPt a b = true := by
      simp only [Bool.or_eq_false_iff, bne_eq_false_iff_eq] at h
      simp [headPt, h, hhs]
    have hq8 := ha.qts.1
    repeat (first | refine wS ?_ | refine wB ?_ | (refine wR ?_; simp only [go_sem]) | (refine wT ?_ ?_; focus (simp only [go_sem]; done)) | (refine wF ?_ ?_; focus (simp only [go_sem]; done)) | (refine wK ?_; try simp only [go_sem]) | (refine wE ?_; try simp only [go_sem]) | refine wX ?_)
    refine wL (fun i => ⟨132, ofL [(2, .ptr 0 0), (3, .ptr 1 0), (73, .d (.v (.int .i64 a.qts.length))), (74, .d (.v (.int .i64 (i : Nat))))], [.var ((ptD a).map .d), .var ((ptD b).map .d)]⟩) (a.qts.length) (fun i => eqL quantB (a.qts.take i) (b.qts.take i) = true) wSb (rfl) ?_
    intro i hi hinv R hR
    simp only [go_sem]
    repeat (first | refine wS ?_ | refine wB ?_ | (refine wR ?_; simp only [go_sem]) | (refine wT ?_ ?_; focus (simp only [go_sem]; done)) | (refine wF ?_ ?_; focus (simp only [go_sem]; done)) | (refine wK ?_; try simp only [go_sem]) | (refine wE ?_; try simp only [go_sem]) | refine wX ?_)
    refine wI (fun h => ?_) (fun h => ?_)
    · have hlt : i < a.qts.length := by simpa using h
      have hlt2 : ((i : Int) < ((a.qts.length : Nat) : Int)) = True := eq_true (by omega)
      have hw := wrap_succ (i := i) (by omega)
      have hlt' : i < b.qts.length := by omega
      have hx : (a.qts.map qD)[i]? = some (qD a.qts[i]) := by rw [List.getElem?_map, List.getElem?_eq_getElem hlt]; rfl
      have hy : (b.qts.map qD)[i]? = some (qD b.qts[i]) := by rw [List.getElem?_map, List.getElem?_eq_getElem hlt']; rfl
      obtain ⟨h1, h2⟩ := eqL_take quantB a.qts b.qts i a.qts[i] b.qts[i] (List.getElem?_eq_getElem hlt) (List.getElem?_eq_getElem hlt') hinv
      generalize a.qts[i] = x at hx h1 h2
      generalize b.qts[i] = y at hy h1 h2
      have hf := floats_c (W0 := W0) [x.1, x.2] [y.1, y.2] (by simp)
      rw [bitsB_eq, show eqL bitsB [x.1, x.2] [y.1, y.2] = quantB x y by simp [eqL, quantB]] at hf
      simp only [rf, List.map_cons, List.map_nil, f64L] at hf
      repeat (first | refine wS ?_ | refine wB ?_ | (refine wR ?_; simp only [go_sem, hx, hy, qD]) | (refine wT ?_ ?_; focus (simp only [go_sem]; done)) | (refine wF ?_ ?_; focus (simp only [go_sem]; done)) | (refine wK ?_; try simp only [go_sem, hx, hy, qD]) | (refine wE ?_; try simp only [go_sem, hx, hy, qD]) | refine wX ?_)
      refine wDF 10 [] [10, 11, 12] ?_ mixedO (by kernel_rfl)
      simp only [go_sem, hx, hy, qD]
      repeat (first | refine wS ?_ | refine wB ?_ | (refine wR ?_; simp only [go_sem, hx, hy, qD]) | (refine wT ?_ ?_; focus (simp only [go_sem]; done)) | (refine wF ?_ ?_; focus (simp only [go_sem]; done)) | (refine wK ?_; try simp only [go_sem, hx, hy, qD]) | (refine wE ?_; try simp only [go_sem, hx, hy, qD]) | refine wX ?_)
      refine wFb 10 11 ?_ ?_ (by kernel_rfl)
      all_goals simp only [StF]
      all_goals simp only [go_sem]
      all_goals refine ⟨⟨_, rfl⟩, ?_⟩
      · refine wFa 11 ?_ (by kernel_rfl)
        simp only [StF]
        simp only [go_sem]
        refine ⟨⟨_, rfl⟩, ?_⟩
        refine wFa 12 ?_ (by kernel_rfl)
        simp only [StF]
        simp only [go_sem]
        refine ⟨⟨_, rfl⟩, ?_⟩
        refine wFe ?_ (by kernel_rfl)
        refine wD1 13 ?_ (by kernel_rfl)
        simp only [go_sem]
        try simp only [TQ, true_and]
        refine wD0 ?_ (by kernel_rfl)
        try simp only [go_sem]
        repeat (first | refine wS ?_ | refine wB ?_ | (refine wR ?_; simp only [go_sem]) | (refine wT ?_ ?_; focus (simp only [go_sem]; done)) | (refine wF ?_ ?_; focus (simp only [go_sem]; done)) | (refine wK ?_; try simp only [go_sem]) | (refine wE ?_; try simp only [go_sem]) | refine wX ?_)
        refine wFzO 4 ?_
        refine wFzO 5 ?_
        simp only [go_sem]
        repeat (first | refine wS ?_ | refine wB ?_ | (refine wR ?_; simp only [go_sem]) | (refine wT ?_ ?_; focus (simp only [go_sem]; done)) | (refine wF ?_ ?_; focus (simp only [go_sem]; done)) | (refine wK ?_; try simp only [go_sem]) | (refine wE ?_; try simp only [go_sem]) | refine wX ?_)
        refine wC (hf) ?_
        simp only [go_sem]
        repeat (first | refine wS ?_ | refine wB ?_ | (refine wR ?_; simp only [go_sem]) | (refine wT ?_ ?_; focus (simp only [go_sem]; done)) | (refine wF ?_ ?_; focus (simp only [go_sem]; done)) | (refine wK ?_; try simp only [go_sem]) | (refine wE ?_; try simp only [go_sem]) | refine wX ?_)
        refine wI (fun h => ?_) (fun h => ?_)
        · have hb : quantB x y = false := by simpa using h
          repeat (first | refine wS ?_ | refine wB ?_ | (refine wR ?_; simp only [go_sem]) | (refine wT ?_ ?_; focus (simp only [go_sem]; done)) | (refine wF ?_ ?_; focus (simp only [go_sem]; done)) | (refine wK ?_; try simp only [go_sem]) | (refine wE ?_; try simp only [go_sem]) | refine wX ?_)
          have hs : samePt a b = false := by
            rw [samePt, hd, h2 hb]
            rfl
          rw [hs]
          simp only [Thn, InB]
          exact wRq
        · have hb : quantB x y = true := by simpa using h
          repeat (first | refine wS ?_ | refine wB ?_ | (refine wR ?_; simp only [go_sem, hw]) | (refine wT ?_ ?_; focus (simp only [go_sem]; done)) | (refine wF ?_ ?_; focus (simp only [go_sem]; done)) | (refine wK ?_; try simp only [go_sem, hw]) | (refine wE ?_; try simp only [go_sem, hw]) | refine wX ?_)
          exact hR hlt (by rw [h1, hb]) _ wSb
      · refine wFa 10 ?_ (by kernel_rfl)
        simp only [StF]
        simp only [go_sem]
        refine ⟨⟨_, rfl⟩, ?_⟩
        refine wFa 12 ?_ (by kernel_rfl)
        simp only [StF]
        simp only [go_sem]
        refine ⟨⟨_, rfl⟩, ?_⟩
        refine wFe ?_ (by kernel_rfl)
        refine wD1 13 ?_ (by kernel_rfl)
        simp only [go_sem]
        try simp only [TQ, true_and]
        refine wD0 ?_ (by kernel_rfl)
        try simp only [go_sem]
        repeat (first | refine wS ?_ | refine wB ?_ | (refine wR ?_; simp only [go_sem]) | (refine wT ?_ ?_; focus (simp only [go_sem]; done)) | (refine wF ?_ ?_; focus (simp only [go_sem]; done)) | (refine wK ?_; try simp only [go_sem]) | (refine wE ?_; try simp only [go_sem]) | refine wX ?_)
        refine wFzO 4 ?_
        refine wFzO 5 ?_
        simp only [go_sem]
        repeat (first | refine wS ?_ | refine wB ?_ | (refine wR ?_; simp only [go_sem]) | (refine wT ?_ ?_; focus (simp only [go_sem]; done)) | (refine wF ?_ ?_; focus (simp only [go_sem]; done)) | (refine wK ?_; try simp only [go_sem]) | (refine wE ?_; try simp only [go_sem]) | refine wX ?_)
        refine wC (hf) ?_
        simp only [go_sem]
        repeat (first | refine wS ?_ | refine wB ?_ | (refine wR ?_; simp only [go_sem]) | (refine wT ?_ ?_; focus (simp only [go_sem]; done)) | (refine wF ?_ ?_; focus (simp only [go_sem]; done)) | (refine wK ?_; try simp only [go_sem]) | (refine wE ?_; try simp only [go_sem]) | refine wX ?_)
        refine wI (fun h => ?_) (fun h => ?_)
        · have hb : quantB x y = false := by simpa using h
          repeat (first | refine wS ?_ | refine wB ?_ | (refine wR ?_; simp only [go_sem]) | (refine wT ?_ ?_; focus (simp only [go_sem]; done)) | (refine wF ?_ ?_; focus (simp only [go_sem]; done)) | (refine wK ?_; try simp only [go_sem]) | (refine wE ?_; try simp only [go_sem]) | refine wX ?_)
          have hs : samePt a b = false := by
            rw [samePt, hd, h2 hb]
            rfl
          rw [hs]
          simp only [Thn, InB]
          exact wRq
        · have hb : quantB x y = true := by simpa using h
          repeat (first | refine wS ?_ | refine wB ?_ | (refine wR ?_; simp only [go_sem, hw]) | (refine wT ?_ ?_; focus (simp only [go_sem]; done)) | (refine wF ?_ ?_; focus (simp only [go_sem]; done)) | (refine wK ?_; try simp only [go_sem, hw]) | (refine wE ?_; try simp only [go_sem, hw]) | refine wX ?_)
          exact hR hlt (by rw [h1, hb]) _ wSb
    · obtain rfl : i = a.qts.length := by simp at h; omega
      repeat (first | refine wS ?_ | refine wB ?_ | (refine wR ?_; simp only [go_sem]) | (refine wT ?_ ?_; focus (simp only [go_sem]; done)) | (refine wF ?_ ?_; focus (simp only [go_sem]; done)) | (refine wK ?_; try simp only [go_sem]) | (refine wE ?_; try simp only [go_sem]) | refine wX ?_)
      have he : eqL quantB a.qts b.qts = true := by
        have := hinv
        rwa [List.take_of_length_le (Nat.le_refl _), List.take_of_length_le (by omega)] at this
      have hf := floats_c (W0 := W0) [a.f, a.sum] [b.f, b.sum] (by simp)
      rw [bitsB_eq, show eqL bitsB [a.f, a.sum] [b.f, b.sum] = (bitsB a.f b.f && bitsB a.sum b.sum) by simp [eqL]] at hf
      simp only [rf, List.map_cons, List.map_nil, f64L] at hf
      rw [bitsB_eq] at hb hc hn
      rw [samePt, hd, he, Bool.true_and, Bool.true_and]
      refine wFzO 2 ?_
      refine wFzO 3 ?_
      simp only [go_sem]
      repeat (first | refine wS ?_ | refine wB ?_ | (refine wR ?_; simp only [go_sem]) | (refine wT ?_ ?_; focus (simp only [go_sem]; done)) | (refine wF ?_ ?_; focus (simp only [go_sem]; done)) | (refine wK ?_; try simp only [go_sem]) | (refine wE ?_; try simp only [go_sem]) | refine wX ?_)
      refine wC (hf) ?_
      simp only [go_sem]
      repeat (first | refine wS ?_ | refine wB ?_ | (refine wR ?_; simp only [go_sem]) | (refine wT ?_ ?_; focus (simp only [go_sem]; done)) | (refine wF ?_ ?_; focus (simp only [go_sem]; done)) | (refine wK ?_; try simp only [go_sem]) | (refine wE ?_; try simp only [go_sem]) | refine wX ?_)
      refine wCG (fun hh => hb) ?_
      simp only [go_sem]
      repeat (first | refine wS ?_ | refine wB ?_ | (refine wR ?_; simp only [go_sem]) | (refine wT ?_ ?_; focus (simp only [go_sem]; done)) | (refine wF ?_ ?_; focus (simp only [go_sem]; done)) | (refine wK ?_; try simp only [go_sem]) | (refine wE ?_; try simp only [go_sem]) | refine wX ?_)
      refine wCG (fun hh => hc) ?_
      simp only [go_sem]
      repeat (first | refine wS ?_ | refine wB ?_ | (refine wR ?_; simp only [go_sem]) | (refine wT ?_ ?_; focus (simp only [go_sem]; done)) | (refine wF ?_ ?_; focus (simp only [go_sem]; done)) | (refine wK ?_; try simp only [go_sem]) | (refine wE ?_; try simp only [go_sem]) | refine wX ?_)
      refine wCG (fun hh => hn) ?_
      simp only [go_sem]
      repeat (first | refine wS ?_ | refine wB ?_ | (refine wR ?_; simp only [go_sem]) | (refine wT ?_ ?_; focus (simp only [go_sem]; done)) | (refine wF ?_ ?_; focus (simp only [go_sem]; done)) | (refine wK ?_; try simp only [go_sem]) | (refine wE ?_; try simp only [go_sem]) | refine wX ?_)
      exact wRq
end Go.Proofs.YtfbegbpipmgfiaaDoor.Lift
end
section
/- value's reference: Same, SamePairs, of any two. No conditions. -/
set_option linter.unusedVariables false
set_option linter.unusedSimpArgs false
set_option maxHeartbeats 4000000
set_option maxRecDepth 100000
namespace Go.Proofs.YtfbegbpipmgfiaaDoor.Lift
open Go Go.RowKit

theorem rsameGP_of {W0 : World} (m m' : List (ByteArray × V)) (ih : ∀ p ∈ m, ∀ y, APure Tryd.prog W0 54 [va p.2, va y] (· = .ret (.d (.v (.bool (same p.2 y)))))) : APure Tryd.prog W0 46 [rP m, rP m'] (· = .ret (.d (.v (.bool (sameP m m'))))) := by
  refine APure.known fun hk => ?_
  have hb47 := ab_rP (hk (rP m) (by simp))
  rw [sameP_eqL]
  refine A_body Tryd.func46 rfl (Nat.le_of_ble_eq_true rfl) ?_
  simp only [go_sem, Tryd.ntmps46, Tryd.results46, mkEnv, rP]
  repeat (first | refine wS ?_ | refine wB ?_ | (refine wR ?_; simp only [go_sem, rP]) | (refine wT ?_ ?_; focus (simp only [go_sem]; done)) | (refine wF ?_ ?_; focus (simp only [go_sem]; done)) | (refine wK ?_; try simp only [go_sem, rP]) | (refine wE ?_; try simp only [go_sem, rP]) | refine wX ?_)
  refine wI (fun h => ?_) (fun h => ?_)
  · have hlen : m.length ≠ m'.length := fun e => by rw [bne_false e] at h; cases h
    repeat (first | refine wS ?_ | refine wB ?_ | (refine wR ?_; simp only [go_sem]) | (refine wT ?_ ?_; focus (simp only [go_sem]; done)) | (refine wF ?_ ?_; focus (simp only [go_sem]; done)) | (refine wK ?_; try simp only [go_sem]) | (refine wE ?_; try simp only [go_sem]) | refine wX ?_)
    simp only [Thn, InB]
    rw [eqL_len sameK m m' hlen]
    exact wRq
  · have hlen : m.length = m'.length := Decidable.byContradiction fun e => by rw [bne_true e] at h; cases h
    repeat (first | refine wS ?_ | refine wB ?_ | (refine wR ?_; simp only [go_sem]) | (refine wT ?_ ?_; focus (simp only [go_sem]; done)) | (refine wF ?_ ?_; focus (simp only [go_sem]; done)) | (refine wK ?_; try simp only [go_sem]) | (refine wE ?_; try simp only [go_sem]) | refine wX ?_)
    refine wL (fun i => ⟨42, ofL [(0, rP m), (1, rP m'), (12, .d (.v (.int .i64 m.length))), (13, .d (.v (.int .i64 (i : Nat))))], []⟩) (m.length) (fun i => eqL sameK (m.take i) (m'.take i) = true) wSb (rfl) ?_
    intro i hi hinv R hR
    simp only [go_sem]
    repeat (first | refine wS ?_ | refine wB ?_ | (refine wR ?_; simp only [go_sem]) | (refine wT ?_ ?_; focus (simp only [go_sem]; done)) | (refine wF ?_ ?_; focus (simp only [go_sem]; done)) | (refine wK ?_; try simp only [go_sem]) | (refine wE ?_; try simp only [go_sem]) | refine wX ?_)
    refine wI (fun h => ?_) (fun h => ?_)
    · have hlt : i < m.length := by simpa using h
      have hlt2 : ((i : Int) < ((m.length : Nat) : Int)) = True := eq_true (by omega)
      have hw := wrap_succ (i := i) (by omega)
      have hlt' : i < m'.length := by omega
      have hx : (m.map pD)[i]? = some (pD m[i]) := by rw [List.getElem?_map, List.getElem?_eq_getElem hlt]; rfl
      have hy : (m'.map pD)[i]? = some (pD m'[i]) := by rw [List.getElem?_map, List.getElem?_eq_getElem hlt']; rfl
      obtain ⟨h1, h2⟩ := eqL_take sameK m m' i m[i] m'[i] (List.getElem?_eq_getElem hlt) (List.getElem?_eq_getElem hlt') hinv
      have hc := ih m[i] (List.getElem_mem hlt) m'[i].2
      generalize m[i] = x at hx h1 h2 hc
      generalize m'[i] = y at hy h1 h2 hc
      obtain ⟨k1, v1⟩ := x
      obtain ⟨k2, v2⟩ := y
      simp only [sameK] at h1 h2
      simp only [va, vD_ex, List.map_cons, List.map_nil] at hc
      obtain ⟨b1, hb1⟩ : ∃ b, (k1.toList == k2.toList) = b := ⟨_, rfl⟩
      rw [hb1] at h1 h2
      cases b1 with
      | false =>
        repeat (first | refine wS ?_ | refine wB ?_ | (refine wR ?_; simp only [go_sem, hx, hy, pD, vD_ex]) | (refine wT ?_ ?_; focus (simp only [go_sem]; done)) | (refine wF ?_ ?_; focus (simp only [go_sem]; done)) | (refine wK ?_; try simp only [go_sem, hx, hy, pD, vD_ex]) | (refine wE ?_; try simp only [go_sem, hx, hy, pD, vD_ex]) | refine wX ?_)
        refine wQ ?_ mixedO (by kernel_rfl)
        simp only [go_sem, hx, hy, pD, vD_ex, hb1]
        repeat (first | refine wS ?_ | refine wB ?_ | (refine wR ?_; simp only [go_sem, hx, hy, pD, vD_ex, hb1]) | (refine wT ?_ ?_; focus (simp only [go_sem]; done)) | (refine wF ?_ ?_; focus (simp only [go_sem]; done)) | (refine wK ?_; try simp only [go_sem, hx, hy, pD, vD_ex, hb1]) | (refine wE ?_; try simp only [go_sem, hx, hy, pD, vD_ex, hb1]) | refine wX ?_)
        refine wQGn (.d (.v (.bool true))) ?_
        simp only [go_sem, hx, hy, pD, vD_ex, hb1]
        repeat (first | refine wS ?_ | refine wB ?_ | (refine wR ?_; simp only [go_sem, hx, hy, pD, vD_ex, hb1]) | (refine wT ?_ ?_; focus (simp only [go_sem]; done)) | (refine wF ?_ ?_; focus (simp only [go_sem]; done)) | (refine wK ?_; try simp only [go_sem, hx, hy, pD, vD_ex, hb1]) | (refine wE ?_; try simp only [go_sem, hx, hy, pD, vD_ex, hb1]) | refine wX ?_)
        simp only [Thn, InB]
        rw [h2 rfl]
        exact wRq
      | true =>
        repeat (first | refine wS ?_ | refine wB ?_ | (refine wR ?_; simp only [go_sem, hx, hy, pD, vD_ex]) | (refine wT ?_ ?_; focus (simp only [go_sem]; done)) | (refine wF ?_ ?_; focus (simp only [go_sem]; done)) | (refine wK ?_; try simp only [go_sem, hx, hy, pD, vD_ex]) | (refine wE ?_; try simp only [go_sem, hx, hy, pD, vD_ex]) | refine wX ?_)
        refine wQ ?_ mixedO (by kernel_rfl)
        simp only [go_sem, hx, hy, pD, vD_ex, hb1]
        repeat (first | refine wS ?_ | refine wB ?_ | (refine wR ?_; simp only [go_sem, hx, hy, pD, vD_ex, hb1]) | (refine wT ?_ ?_; focus (simp only [go_sem]; done)) | (refine wF ?_ ?_; focus (simp only [go_sem]; done)) | (refine wK ?_; try simp only [go_sem, hx, hy, pD, vD_ex, hb1]) | (refine wE ?_; try simp only [go_sem, hx, hy, pD, vD_ex, hb1]) | refine wX ?_)
        refine wQGx (fun hh => hc) ?_
        simp only [go_sem, hx, hy, pD, vD_ex, hb1]
        repeat (first | refine wS ?_ | refine wB ?_ | (refine wR ?_; simp only [go_sem, hx, hy, pD, vD_ex, hb1]) | (refine wT ?_ ?_; focus (simp only [go_sem]; done)) | (refine wF ?_ ?_; focus (simp only [go_sem]; done)) | (refine wK ?_; try simp only [go_sem, hx, hy, pD, vD_ex, hb1]) | (refine wE ?_; try simp only [go_sem, hx, hy, pD, vD_ex, hb1]) | refine wX ?_)
        cases hs : same v1 v2 with
        | false =>
          repeat (first | refine wS ?_ | refine wB ?_ | (refine wR ?_; simp only [go_sem, hs]) | (refine wT ?_ ?_; focus (simp only [go_sem]; done)) | (refine wF ?_ ?_; focus (simp only [go_sem]; done)) | (refine wK ?_; try simp only [go_sem, hs]) | (refine wE ?_; try simp only [go_sem, hs]) | refine wX ?_)
          simp only [Thn, InB]
          rw [h2 (by rw [hs]; rfl)]
          exact wRq
        | true =>
          repeat (first | refine wS ?_ | refine wB ?_ | (refine wR ?_; simp only [go_sem, hs, hw]) | (refine wT ?_ ?_; focus (simp only [go_sem]; done)) | (refine wF ?_ ?_; focus (simp only [go_sem]; done)) | (refine wK ?_; try simp only [go_sem, hs, hw]) | (refine wE ?_; try simp only [go_sem, hs, hw]) | refine wX ?_)
          exact hR hlt (by rw [h1, hs]; rfl) _ wSb
    · obtain rfl : i = m.length := by simp at h; omega
      repeat (first | refine wS ?_ | refine wB ?_ | (refine wR ?_; simp only [go_sem]) | (refine wT ?_ ?_; focus (simp only [go_sem]; done)) | (refine wF ?_ ?_; focus (simp only [go_sem]; done)) | (refine wK ?_; try simp only [go_sem]) | (refine wE ?_; try simp only [go_sem]) | refine wX ?_)
      have he : eqL sameK m m' = true := by
        have := hinv
        rwa [List.take_of_length_le (Nat.le_refl _), List.take_of_length_le (by omega)] at this
      rw [he]
      exact wRq
theorem rsameG_c {W0 : World} : ∀ x y : V, APure Tryd.prog W0 54 [va x, va y] (· = .ret (.d (.v (.bool (same x y))))) := by
  intro x
  refine V.ind (p := fun x => ∀ y : V, APure Tryd.prog W0 54 [va x, va y] (· = .ret (.d (.v (.bool (same x y)))))) ?_ x
  intro k s b n f l m hl hm y
  obtain ⟨k', s', b', n', f', l', m'⟩ := y
  refine APure.known fun hk => ?_
  obtain ⟨hb1, hb2⟩ := ab_va (hk (va (.mk k s b n f l m)) (by simp))
  have hp := rsameGP_of (W0 := W0) m m' hm
  simp only [rP] at hp
  simp only [va, vD, vDs_map, pDs_map, List.map_cons, List.map_nil] at hl hp ⊢
  simp only [same, flat]
  obtain ⟨b1, e1⟩ : ∃ b, ((k : Int) == (k' : Int)) = b := ⟨_, rfl⟩
  obtain ⟨b2, e2⟩ : ∃ b, (s.toList == s'.toList) = b := ⟨_, rfl⟩
  obtain ⟨b3, e3⟩ : ∃ q, (b == b') = q := ⟨_, rfl⟩
  obtain ⟨b4, e4⟩ : ∃ b, (n == n') = b := ⟨_, rfl⟩
  obtain ⟨b5, e5⟩ : ∃ b, ((f : Int) == (f' : Int)) = b := ⟨_, rfl⟩
  obtain ⟨b6, e6⟩ : ∃ b, ((l.length : Int) == (l'.length : Int)) = b := ⟨_, rfl⟩
  rw [e1, e2, e3, e4, e5, e6]
  have n1 : ((k : Int) != (k' : Int)) = !b1 := by rw [← e1]; rfl
  have n2 : (s.toList != s'.toList) = !b2 := by rw [← e2]; rfl
  have n3 : (b != b') = !b3 := by rw [← e3]; rfl
  have n4 : (n != n') = !b4 := by rw [← e4]; rfl
  have n5 : ((f : Int) != (f' : Int)) = !b5 := by rw [← e5]; rfl
  have n6 : ((l.length : Int) != (l'.length : Int)) = !b6 := by rw [← e6]; rfl
  by_cases hall : (b1 && b2 && b3 && b4 && b5 && b6) = true
  · simp only [Bool.and_eq_true] at hall
    obtain ⟨⟨⟨⟨⟨rfl, rfl⟩, rfl⟩, rfl⟩, rfl⟩, rfl⟩ := hall
    refine A_body Tryd.func54 rfl (Nat.le_of_ble_eq_true rfl) ?_
    simp only [go_sem, Tryd.ntmps54, Tryd.results54, mkEnv, e2, e3, n1, n2, n3, n4, n5, n6, Bool.not_true, Bool.not_false]
    repeat (first | refine wS ?_ | refine wB ?_ | (refine wR ?_; simp only [go_sem, e2, e3, n1, n2, n3, n4, n5, n6, Bool.not_true, Bool.not_false]) | (refine wT ?_ ?_; focus (simp only [go_sem]; done)) | (refine wF ?_ ?_; focus (simp only [go_sem]; done)) | (refine wK ?_; try simp only [go_sem, e2, e3, n1, n2, n3, n4, n5, n6, Bool.not_true, Bool.not_false]) | (refine wE ?_; try simp only [go_sem, e2, e3, n1, n2, n3, n4, n5, n6, Bool.not_true, Bool.not_false]) | refine wX ?_)
    refine wQ ?_ mixedO (by kernel_rfl)
    simp only [go_sem, e2, e3, n1, n2, n3, n4, n5, n6, Bool.not_true, Bool.not_false]
    repeat (first | refine wS ?_ | refine wB ?_ | (refine wR ?_; simp only [go_sem, e2, e3, n1, n2, n3, n4, n5, n6, Bool.not_true, Bool.not_false]) | (refine wT ?_ ?_; focus (simp only [go_sem]; done)) | (refine wF ?_ ?_; focus (simp only [go_sem]; done)) | (refine wK ?_; try simp only [go_sem, e2, e3, n1, n2, n3, n4, n5, n6, Bool.not_true, Bool.not_false]) | (refine wE ?_; try simp only [go_sem, e2, e3, n1, n2, n3, n4, n5, n6, Bool.not_true, Bool.not_false]) | refine wX ?_)
    have hlen : l.length = l'.length := by
      have := e6
      rw [beq_iff_eq] at this
      omega
    try simp only [Bool.and_self, Bool.true_and, sames_eqL]
    have hml : ((m.length : Int) == (m'.length : Int) && eqL same l l' && sameP m m') = (eqL same l l' && sameP m m') := by
      by_cases e : m.length = m'.length
      · rw [e, show ((m'.length : Int) == (m'.length : Int)) = true from beq_self_eq_true _, Bool.true_and]
      · have : sameP m m' = false := by rw [sameP_eqL]; exact eqL_len sameK m m' e
        rw [this, Bool.and_false, Bool.and_false]
    rw [hml]
    refine wL (fun i => ⟨74, ofL [(2, .ptr 0 0), (3, .ptr 1 0), (52, .d (.v (.int .i64 l.length))), (53, .d (.v (.int .i64 (i : Nat))))], [.var [.d (.v (.int .u8 k)), .d (.v (.string s)), .d (.v (.bool b)), .d (.v (.int .i64 n)), .d (.v (.float .f64 f)), .d (.rows 7 96 (l.map vD)), .d (.rows 8 112 (m.map pD))], .var [.d (.v (.int .u8 k')), .d (.v (.string s')), .d (.v (.bool b')), .d (.v (.int .i64 n')), .d (.v (.float .f64 f')), .d (.rows 7 96 (l'.map vD)), .d (.rows 8 112 (m'.map pD))]]⟩) (l.length) (fun i => eqL same (l.take i) (l'.take i) = true) wSb (rfl) ?_
    intro i hi hinv R hR
    simp only [go_sem]
    repeat (first | refine wS ?_ | refine wB ?_ | (refine wR ?_; simp only [go_sem]) | (refine wT ?_ ?_; focus (simp only [go_sem]; done)) | (refine wF ?_ ?_; focus (simp only [go_sem]; done)) | (refine wK ?_; try simp only [go_sem]) | (refine wE ?_; try simp only [go_sem]) | refine wX ?_)
    refine wI (fun h => ?_) (fun h => ?_)
    · have hlt : i < l.length := by simpa using h
      have hlt2 : ((i : Int) < ((l.length : Nat) : Int)) = True := eq_true (by omega)
      have hw := wrap_succ (i := i) (by omega)
      have hlt' : i < l'.length := by omega
      have hx : (l.map vD)[i]? = some (vD l[i]) := by rw [List.getElem?_map, List.getElem?_eq_getElem hlt]; rfl
      have hy : (l'.map vD)[i]? = some (vD l'[i]) := by rw [List.getElem?_map, List.getElem?_eq_getElem hlt']; rfl
      obtain ⟨h1, h2⟩ := eqL_take same l l' i l[i] l'[i] (List.getElem?_eq_getElem hlt) (List.getElem?_eq_getElem hlt') hinv
      have hc := hl l[i] (List.getElem_mem hlt) l'[i]
      generalize l[i] = x at hx h1 h2 hc
      generalize l'[i] = y at hy h1 h2 hc
      simp only [vD_ex, List.map_cons, List.map_nil] at hc
      repeat (first | refine wS ?_ | refine wB ?_ | (refine wR ?_; simp only [go_sem, hx, hy, vD_ex]) | (refine wT ?_ ?_; focus (simp only [go_sem]; done)) | (refine wF ?_ ?_; focus (simp only [go_sem]; done)) | (refine wK ?_; try simp only [go_sem, hx, hy, vD_ex]) | (refine wE ?_; try simp only [go_sem, hx, hy, vD_ex]) | refine wX ?_)
      refine wQ ?_ mixedO (by kernel_rfl)
      simp only [go_sem, hx, hy, vD_ex]
      repeat (first | refine wS ?_ | refine wB ?_ | (refine wR ?_; simp only [go_sem, hx, hy, vD_ex]) | (refine wT ?_ ?_; focus (simp only [go_sem]; done)) | (refine wF ?_ ?_; focus (simp only [go_sem]; done)) | (refine wK ?_; try simp only [go_sem, hx, hy, vD_ex]) | (refine wE ?_; try simp only [go_sem, hx, hy, vD_ex]) | refine wX ?_)
      refine wQC (hc) ?_
      simp only [go_sem, hx, hy, vD_ex]
      repeat (first | refine wS ?_ | refine wB ?_ | (refine wR ?_; simp only [go_sem, hx, hy, vD_ex]) | (refine wT ?_ ?_; focus (simp only [go_sem]; done)) | (refine wF ?_ ?_; focus (simp only [go_sem]; done)) | (refine wK ?_; try simp only [go_sem, hx, hy, vD_ex]) | (refine wE ?_; try simp only [go_sem, hx, hy, vD_ex]) | refine wX ?_)
      cases hs : same x y with
      | false =>
        repeat (first | refine wS ?_ | refine wB ?_ | (refine wR ?_; simp only [go_sem, hs]) | (refine wT ?_ ?_; focus (simp only [go_sem]; done)) | (refine wF ?_ ?_; focus (simp only [go_sem]; done)) | (refine wK ?_; try simp only [go_sem, hs]) | (refine wE ?_; try simp only [go_sem, hs]) | refine wX ?_)
        simp only [Thn, InB]
        rw [h2 hs]
        try simp only [Bool.false_and]
        exact wRq
      | true =>
        repeat (first | refine wS ?_ | refine wB ?_ | (refine wR ?_; simp only [go_sem, hs, hw]) | (refine wT ?_ ?_; focus (simp only [go_sem]; done)) | (refine wF ?_ ?_; focus (simp only [go_sem]; done)) | (refine wK ?_; try simp only [go_sem, hs, hw]) | (refine wE ?_; try simp only [go_sem, hs, hw]) | refine wX ?_)
        exact hR hlt (by rw [h1, hs]) _ wSb
    · obtain rfl : i = l.length := by simp at h; omega
      repeat (first | refine wS ?_ | refine wB ?_ | (refine wR ?_; simp only [go_sem]) | (refine wT ?_ ?_; focus (simp only [go_sem]; done)) | (refine wF ?_ ?_; focus (simp only [go_sem]; done)) | (refine wK ?_; try simp only [go_sem]) | (refine wE ?_; try simp only [go_sem]) | refine wX ?_)
      have he : eqL same l l' = true := by
        have := hinv
        rwa [List.take_of_length_le (Nat.le_refl _), List.take_of_length_le (by omega)] at this
      rw [he]
      try simp only [Bool.true_and]
      refine wC (hp) ?_
      simp only [go_sem]
      repeat (first | refine wS ?_ | refine wB ?_ | (refine wR ?_; simp only [go_sem]) | (refine wT ?_ ?_; focus (simp only [go_sem]; done)) | (refine wF ?_ ?_; focus (simp only [go_sem]; done)) | (refine wK ?_; try simp only [go_sem]) | (refine wE ?_; try simp only [go_sem]) | refine wX ?_)
      exact wRq
  · skip
    cases b1 with
    | false =>
      try simp only [Bool.and_false, Bool.false_and, Bool.true_and]
      refine A_body Tryd.func54 rfl (Nat.le_of_ble_eq_true rfl) ?_
      simp only [go_sem, Tryd.ntmps54, Tryd.results54, mkEnv, e2, e3, n1, n2, n3, n4, n5, n6, Bool.not_true, Bool.not_false]
      repeat (first | refine wS ?_ | refine wB ?_ | (refine wR ?_; simp only [go_sem, e2, e3, n1, n2, n3, n4, n5, n6, Bool.not_true, Bool.not_false]) | (refine wT ?_ ?_; focus (simp only [go_sem]; done)) | (refine wF ?_ ?_; focus (simp only [go_sem]; done)) | (refine wK ?_; try simp only [go_sem, e2, e3, n1, n2, n3, n4, n5, n6, Bool.not_true, Bool.not_false]) | (refine wE ?_; try simp only [go_sem, e2, e3, n1, n2, n3, n4, n5, n6, Bool.not_true, Bool.not_false]) | refine wX ?_)
      refine wQ ?_ mixedO (by kernel_rfl)
      simp only [go_sem, e2, e3, n1, n2, n3, n4, n5, n6, Bool.not_true, Bool.not_false]
      repeat (first | refine wS ?_ | refine wB ?_ | (refine wR ?_; simp only [go_sem, e2, e3, n1, n2, n3, n4, n5, n6, Bool.not_true, Bool.not_false]) | (refine wT ?_ ?_; focus (simp only [go_sem]; done)) | (refine wF ?_ ?_; focus (simp only [go_sem]; done)) | (refine wK ?_; try simp only [go_sem, e2, e3, n1, n2, n3, n4, n5, n6, Bool.not_true, Bool.not_false]) | (refine wE ?_; try simp only [go_sem, e2, e3, n1, n2, n3, n4, n5, n6, Bool.not_true, Bool.not_false]) | refine wX ?_)
      try simp only [Thn, InB]
      exact wRq
    | true =>
      cases b2 with
      | false =>
        try simp only [Bool.and_false, Bool.false_and, Bool.true_and]
        refine A_body Tryd.func54 rfl (Nat.le_of_ble_eq_true rfl) ?_
        simp only [go_sem, Tryd.ntmps54, Tryd.results54, mkEnv, e2, e3, n1, n2, n3, n4, n5, n6, Bool.not_true, Bool.not_false]
        repeat (first | refine wS ?_ | refine wB ?_ | (refine wR ?_; simp only [go_sem, e2, e3, n1, n2, n3, n4, n5, n6, Bool.not_true, Bool.not_false]) | (refine wT ?_ ?_; focus (simp only [go_sem]; done)) | (refine wF ?_ ?_; focus (simp only [go_sem]; done)) | (refine wK ?_; try simp only [go_sem, e2, e3, n1, n2, n3, n4, n5, n6, Bool.not_true, Bool.not_false]) | (refine wE ?_; try simp only [go_sem, e2, e3, n1, n2, n3, n4, n5, n6, Bool.not_true, Bool.not_false]) | refine wX ?_)
        refine wQ ?_ mixedO (by kernel_rfl)
        simp only [go_sem, e2, e3, n1, n2, n3, n4, n5, n6, Bool.not_true, Bool.not_false]
        repeat (first | refine wS ?_ | refine wB ?_ | (refine wR ?_; simp only [go_sem, e2, e3, n1, n2, n3, n4, n5, n6, Bool.not_true, Bool.not_false]) | (refine wT ?_ ?_; focus (simp only [go_sem]; done)) | (refine wF ?_ ?_; focus (simp only [go_sem]; done)) | (refine wK ?_; try simp only [go_sem, e2, e3, n1, n2, n3, n4, n5, n6, Bool.not_true, Bool.not_false]) | (refine wE ?_; try simp only [go_sem, e2, e3, n1, n2, n3, n4, n5, n6, Bool.not_true, Bool.not_false]) | refine wX ?_)
        try simp only [Thn, InB]
        exact wRq
      | true =>
        cases b3 with
        | false =>
          try simp only [Bool.and_false, Bool.false_and, Bool.true_and]
          refine A_body Tryd.func54 rfl (Nat.le_of_ble_eq_true rfl) ?_
          simp only [go_sem, Tryd.ntmps54, Tryd.results54, mkEnv, e2, e3, n1, n2, n3, n4, n5, n6, Bool.not_true, Bool.not_false]
          repeat (first | refine wS ?_ | refine wB ?_ | (refine wR ?_; simp only [go_sem, e2, e3, n1, n2, n3, n4, n5, n6, Bool.not_true, Bool.not_false]) | (refine wT ?_ ?_; focus (simp only [go_sem]; done)) | (refine wF ?_ ?_; focus (simp only [go_sem]; done)) | (refine wK ?_; try simp only [go_sem, e2, e3, n1, n2, n3, n4, n5, n6, Bool.not_true, Bool.not_false]) | (refine wE ?_; try simp only [go_sem, e2, e3, n1, n2, n3, n4, n5, n6, Bool.not_true, Bool.not_false]) | refine wX ?_)
          refine wQ ?_ mixedO (by kernel_rfl)
          simp only [go_sem, e2, e3, n1, n2, n3, n4, n5, n6, Bool.not_true, Bool.not_false]
          repeat (first | refine wS ?_ | refine wB ?_ | (refine wR ?_; simp only [go_sem, e2, e3, n1, n2, n3, n4, n5, n6, Bool.not_true, Bool.not_false]) | (refine wT ?_ ?_; focus (simp only [go_sem]; done)) | (refine wF ?_ ?_; focus (simp only [go_sem]; done)) | (refine wK ?_; try simp only [go_sem, e2, e3, n1, n2, n3, n4, n5, n6, Bool.not_true, Bool.not_false]) | (refine wE ?_; try simp only [go_sem, e2, e3, n1, n2, n3, n4, n5, n6, Bool.not_true, Bool.not_false]) | refine wX ?_)
          try simp only [Thn, InB]
          exact wRq
        | true =>
          cases b4 with
          | false =>
            try simp only [Bool.and_false, Bool.false_and, Bool.true_and]
            refine A_body Tryd.func54 rfl (Nat.le_of_ble_eq_true rfl) ?_
            simp only [go_sem, Tryd.ntmps54, Tryd.results54, mkEnv, e2, e3, n1, n2, n3, n4, n5, n6, Bool.not_true, Bool.not_false]
            repeat (first | refine wS ?_ | refine wB ?_ | (refine wR ?_; simp only [go_sem, e2, e3, n1, n2, n3, n4, n5, n6, Bool.not_true, Bool.not_false]) | (refine wT ?_ ?_; focus (simp only [go_sem]; done)) | (refine wF ?_ ?_; focus (simp only [go_sem]; done)) | (refine wK ?_; try simp only [go_sem, e2, e3, n1, n2, n3, n4, n5, n6, Bool.not_true, Bool.not_false]) | (refine wE ?_; try simp only [go_sem, e2, e3, n1, n2, n3, n4, n5, n6, Bool.not_true, Bool.not_false]) | refine wX ?_)
            refine wQ ?_ mixedO (by kernel_rfl)
            simp only [go_sem, e2, e3, n1, n2, n3, n4, n5, n6, Bool.not_true, Bool.not_false]
            repeat (first | refine wS ?_ | refine wB ?_ | (refine wR ?_; simp only [go_sem, e2, e3, n1, n2, n3, n4, n5, n6, Bool.not_true, Bool.not_false]) | (refine wT ?_ ?_; focus (simp only [go_sem]; done)) | (refine wF ?_ ?_; focus (simp only [go_sem]; done)) | (refine wK ?_; try simp only [go_sem, e2, e3, n1, n2, n3, n4, n5, n6, Bool.not_true, Bool.not_false]) | (refine wE ?_; try simp only [go_sem, e2, e3, n1, n2, n3, n4, n5, n6, Bool.not_true, Bool.not_false]) | refine wX ?_)
            try simp only [Thn, InB]
            exact wRq
          | true =>
            cases b5 with
            | false =>
              try simp only [Bool.and_false, Bool.false_and, Bool.true_and]
              refine A_body Tryd.func54 rfl (Nat.le_of_ble_eq_true rfl) ?_
              simp only [go_sem, Tryd.ntmps54, Tryd.results54, mkEnv, e2, e3, n1, n2, n3, n4, n5, n6, Bool.not_true, Bool.not_false]
              repeat (first | refine wS ?_ | refine wB ?_ | (refine wR ?_; simp only [go_sem, e2, e3, n1, n2, n3, n4, n5, n6, Bool.not_true, Bool.not_false]) | (refine wT ?_ ?_; focus (simp only [go_sem]; done)) | (refine wF ?_ ?_; focus (simp only [go_sem]; done)) | (refine wK ?_; try simp only [go_sem, e2, e3, n1, n2, n3, n4, n5, n6, Bool.not_true, Bool.not_false]) | (refine wE ?_; try simp only [go_sem, e2, e3, n1, n2, n3, n4, n5, n6, Bool.not_true, Bool.not_false]) | refine wX ?_)
              refine wQ ?_ mixedO (by kernel_rfl)
              simp only [go_sem, e2, e3, n1, n2, n3, n4, n5, n6, Bool.not_true, Bool.not_false]
              repeat (first | refine wS ?_ | refine wB ?_ | (refine wR ?_; simp only [go_sem, e2, e3, n1, n2, n3, n4, n5, n6, Bool.not_true, Bool.not_false]) | (refine wT ?_ ?_; focus (simp only [go_sem]; done)) | (refine wF ?_ ?_; focus (simp only [go_sem]; done)) | (refine wK ?_; try simp only [go_sem, e2, e3, n1, n2, n3, n4, n5, n6, Bool.not_true, Bool.not_false]) | (refine wE ?_; try simp only [go_sem, e2, e3, n1, n2, n3, n4, n5, n6, Bool.not_true, Bool.not_false]) | refine wX ?_)
              try simp only [Thn, InB]
              exact wRq
            | true =>
              cases b6 with
              | false =>
                try simp only [Bool.and_false, Bool.false_and, Bool.true_and]
                refine A_body Tryd.func54 rfl (Nat.le_of_ble_eq_true rfl) ?_
                simp only [go_sem, Tryd.ntmps54, Tryd.results54, mkEnv, e2, e3, n1, n2, n3, n4, n5, n6, Bool.not_true, Bool.not_false]
                repeat (first | refine wS ?_ | refine wB ?_ | (refine wR ?_; simp only [go_sem, e2, e3, n1, n2, n3, n4, n5, n6, Bool.not_true, Bool.not_false]) | (refine wT ?_ ?_; focus (simp only [go_sem]; done)) | (refine wF ?_ ?_; focus (simp only [go_sem]; done)) | (refine wK ?_; try simp only [go_sem, e2, e3, n1, n2, n3, n4, n5, n6, Bool.not_true, Bool.not_false]) | (refine wE ?_; try simp only [go_sem, e2, e3, n1, n2, n3, n4, n5, n6, Bool.not_true, Bool.not_false]) | refine wX ?_)
                refine wQ ?_ mixedO (by kernel_rfl)
                simp only [go_sem, e2, e3, n1, n2, n3, n4, n5, n6, Bool.not_true, Bool.not_false]
                repeat (first | refine wS ?_ | refine wB ?_ | (refine wR ?_; simp only [go_sem, e2, e3, n1, n2, n3, n4, n5, n6, Bool.not_true, Bool.not_false]) | (refine wT ?_ ?_; focus (simp only [go_sem]; done)) | (refine wF ?_ ?_; focus (simp only [go_sem]; done)) | (refine wK ?_; try simp only [go_sem, e2, e3, n1, n2, n3, n4, n5, n6, Bool.not_true, Bool.not_false]) | (refine wE ?_; try simp only [go_sem, e2, e3, n1, n2, n3, n4, n5, n6, Bool.not_true, Bool.not_false]) | refine wX ?_)
                try simp only [Thn, InB]
                exact wRq
              | true =>
                exact absurd rfl hall
end Go.Proofs.YtfbegbpipmgfiaaDoor.Lift
end
section
/- pdata's reference: SameItem, Alike, Same. No conditions but what types allow. -/
set_option linter.unusedVariables false
set_option linter.unusedSimpArgs false
set_option maxHeartbeats 4000000
set_option maxRecDepth 100000
namespace Go.Proofs.YtfbegbpipmgfiaaDoor.Lift
open Go Go.RowKit

theorem rsameI_c {W0 : World} (a b : It) (ha : okI a) : APure Tryd.prog W0 32 [ia a, ia b] (· = .ret (.d (.v (.bool (sameI a b))))) := by
  have h1 := rsameGP_of (W0 := W0) a.attrs b.attrs fun p _ y => rsameG_c p.2 y
  have h2 := rsameG_c (W0 := W0) a.body b.body
  have h3 := rsamePt_c (W0 := W0) a.pt b.pt ha.pt
  simp only [va, vD_ex, List.map_cons, List.map_nil, rP] at h1 h2
  simp only [ta, ptD, List.map_cons, List.map_nil] at h3
  refine A_body Tryd.func32 rfl (Nat.le_of_ble_eq_true rfl) ?_
  simp only [go_sem, Tryd.ntmps32, Tryd.results32, mkEnv]
  repeat (first | refine wS ?_ | refine wB ?_ | (refine wR ?_; simp only [go_sem]) | (refine wT ?_ ?_; focus (simp only [go_sem]; done)) | (refine wF ?_ ?_; focus (simp only [go_sem]; done)) | (refine wK ?_; try simp only [go_sem]) | (refine wE ?_; try simp only [go_sem]) | refine wX ?_)
  refine wRa ?_
  refine wR ?_
  simp (maxSteps := 4000000) only [go_sem]
  repeat (first | refine wS ?_ | refine wB ?_ | (refine wR ?_; simp only [go_sem]) | (refine wT ?_ ?_; focus (simp only [go_sem]; done)) | (refine wF ?_ ?_; focus (simp only [go_sem]; done)) | (refine wK ?_; try simp only [go_sem]) | (refine wE ?_; try simp only [go_sem]) | refine wX ?_)
  refine wI (fun h => ?_) (fun h => ?_)
  · have he : sameI a b = false := by
      cases hs : sameI a b with
      | false => rfl
      | true =>
        exfalso
        obtain rfl := sameI_iff.1 hs
        simp at h
    repeat (first | refine wS ?_ | refine wB ?_ | (refine wR ?_; simp only [go_sem]) | (refine wT ?_ ?_; focus (simp only [go_sem]; done)) | (refine wF ?_ ?_; focus (simp only [go_sem]; done)) | (refine wK ?_; try simp only [go_sem]) | (refine wE ?_; try simp only [go_sem]) | refine wX ?_)
    simp only [Thn, InB]
    rw [he]
    exact wRq
  · have he : sameI a b = (sameP a.attrs b.attrs && same a.body b.body && samePt a.pt b.pt) := by
      have hh : idsB a b = true ∧ namesB a b = true := by
        simp only [Bool.or_eq_false_iff, bne_eq_false_iff_eq, Bool.not_eq_false'] at h
        simp [idsB, namesB, h]
      rw [sameI, hh.1, hh.2]
      rfl
    rw [he]
    repeat (first | refine wS ?_ | refine wB ?_ | (refine wR ?_; simp only [go_sem]) | (refine wT ?_ ?_; focus (simp only [go_sem]; done)) | (refine wF ?_ ?_; focus (simp only [go_sem]; done)) | (refine wK ?_; try simp only [go_sem]) | (refine wE ?_; try simp only [go_sem]) | refine wX ?_)
    refine wC (h1) ?_
    simp only [go_sem]
    repeat (first | refine wS ?_ | refine wB ?_ | (refine wR ?_; simp only [go_sem]) | (refine wT ?_ ?_; focus (simp only [go_sem]; done)) | (refine wF ?_ ?_; focus (simp only [go_sem]; done)) | (refine wK ?_; try simp only [go_sem]) | (refine wE ?_; try simp only [go_sem]) | refine wX ?_)
    refine wCG (fun hh => h2) ?_
    simp only [go_sem]
    repeat (first | refine wS ?_ | refine wB ?_ | (refine wR ?_; simp only [go_sem]) | (refine wT ?_ ?_; focus (simp only [go_sem]; done)) | (refine wF ?_ ?_; focus (simp only [go_sem]; done)) | (refine wK ?_; try simp only [go_sem]) | (refine wE ?_; try simp only [go_sem]) | refine wX ?_)
    refine wCG (fun hh => h3) ?_
    simp only [go_sem]
    repeat (first | refine wS ?_ | refine wB ?_ | (refine wR ?_; simp only [go_sem]) | (refine wT ?_ ?_; focus (simp only [go_sem]; done)) | (refine wF ?_ ?_; focus (simp only [go_sem]; done)) | (refine wK ?_; try simp only [go_sem]) | (refine wE ?_; try simp only [go_sem]) | refine wX ?_)
    exact wRq
end Go.Proofs.YtfbegbpipmgfiaaDoor.Lift
end
