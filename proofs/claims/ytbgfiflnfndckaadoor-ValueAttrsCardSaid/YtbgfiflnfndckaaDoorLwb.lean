/- Joined from Lvj, Lvk, Lvo, Lvp, Lvq, Lvl, Lvr. No conditions. -/
import Derived.Test.YtbgfiflnfndckaaDoorLwa
import Derived.Test.YtbgfiflnfndckaaDoorLgb
import Derived.Test.YtbgfiflnfndckaaDoorVn
/- The lift: DeleteFunc, Drop. No conditions. -/
set_option linter.unusedVariables false
set_option linter.unusedSimpArgs false
namespace Go.Proofs.YtbgfiflnfndckaaDoor.Lift
open Go Go.RowKit

def dropV (key : ByteArray) (m : List (ByteArray × V)) : List (ByteArray × V) := m.filter fun p => !isK key p
theorem drop_none {key : ByteArray} : ∀ {m : List (ByteArray × V)}, fI (isK key) m = none → dropV key m = m
  | [], _ => rfl
  | p :: m, h => by
    simp only [fI] at h
    split at h
    · cases h
    · rename_i hp
      simp only [Option.map_eq_none_iff] at h
      have hp' : isK key p = false := by simpa using hp
      have := drop_none h
      unfold dropV at this ⊢
      rw [List.filter_cons, hp', this]
      rfl
theorem drop_hit {key : ByteArray} : ∀ {m : List (ByteArray × V)} {i : Nat}, fI (isK key) m = some i → dropV key (m.take (i + 1)) = m.take i
  | [], _, h => by simp [fI] at h
  | p :: m, i, h => by
    simp only [fI] at h
    split at h
    · rename_i hp
      cases h
      simp [dropV, hp]
    · rename_i hp
      simp only [Option.map_eq_some_iff] at h
      obtain ⟨j, hj, rfl⟩ := h
      have hp' : isK key p = false := by simpa using hp
      have := drop_hit hj
      unfold dropV at this ⊢
      rw [List.take_succ_cons, List.filter_cons, hp', this]
      rfl
/-- Where DeleteFunc stands: i are kept, j are seen, r is the row. -/
structure DelAt (key : ByteArray) (m : List (ByteArray × V)) where
  i : Nat
  j : Nat
  r : List (List D)
  hij : i < j
  hj : j ≤ m.length
  hr : r.length = m.length
  kept : r.take i = (dropV key (m.take j)).map pD
  rest : ∀ q, j ≤ q → r[q]? = (m.map pD)[q]?
  len8 : ∀ row ∈ r, row.length = 8
theorem drop_snoc {key : ByteArray} {m : List (ByteArray × V)} {j : Nat} (h : j < m.length) : dropV key (m.take (j + 1)) = dropV key (m.take j) ++ (if isK key m[j] = true then [] else [m[j]]) := by
  unfold dropV
  rw [List.take_add_one, List.getElem?_eq_getElem h, List.filter_append, Option.toList_some]
  cases hk : isK key m[j] <;> simp [hk]
def DelAt.start {key : ByteArray} {m : List (ByteArray × V)} {i : Nat} (ho : fI (isK key) m = some i) (hi : i < m.length) : DelAt key m :=
  ⟨i, i + 1, m.map pD, by omega, by omega, by simp, by rw [drop_hit ho, List.map_take], fun _ _ => rfl, fun row hr => by
    obtain ⟨p, _, rfl⟩ := List.mem_map.1 hr
    exact pD_len p⟩
def DelAt.skip {key : ByteArray} {m : List (ByteArray × V)} (s : DelAt key m) (h : s.j < m.length) (hk : isK key m[s.j] = true) : DelAt key m :=
  ⟨s.i, s.j + 1, s.r, by have := s.hij; omega, by omega, s.hr, by rw [drop_snoc h, if_pos hk, List.append_nil]; exact s.kept, fun q hq => s.rest q (by omega), s.len8⟩
def DelAt.keep {key : ByteArray} {m : List (ByteArray × V)} (s : DelAt key m) (h : s.j < m.length) (hk : isK key m[s.j] = false) : DelAt key m :=
  ⟨s.i + 1, s.j + 1, s.r.set s.i (pD m[s.j]), by have := s.hij; omega, by omega, by rw [List.length_set]; exact s.hr, by
    have hi : s.i < s.r.length := by have := s.hij; have := s.hr; omega
    rw [drop_snoc h, hk, if_neg (by simp), List.map_append, ← s.kept, List.take_add_one, List.getElem?_set_self hi, List.take_set_of_le (Nat.le_refl _)]
    rfl, fun q hq => by
    rw [List.getElem?_set_ne (by have := s.hij; omega)]
    exact s.rest q (by omega), fun row hr => by
    rcases List.mem_or_eq_of_mem_set hr with h1 | rfl
    · exact s.len8 row h1
    · exact pD_len _⟩

set_option maxHeartbeats 4000000 in
set_option maxRecDepth 100000 in
theorem del_c {W0 : World} (key : ByteArray) (m : List (ByteArray × V)) (hb47 : m.length * 112 ≤ 140737488355328) : ACalls Tryd.prog W0 67 [.sl 0 8 0 m.length, kf key] [.vec 8 112 (m.map pD)] (fun r L' => r = .ret (.sl 0 8 0 (dropV key m).length) ∧ L' = [.vec 8 112 ((dropV key m).map pD)]) := by
  have hix := ixf_c (W0 := W0) key m
  have lm : (m.map pD).length = m.length := List.length_map ..
  have tm := take_len (l := m.map pD) lm
  have hz : fzL 0 8 112 (m.map pD) ([.sl 0 8 0 m.length, .fn 89 [.dp [.v (.string key)]]] ++ []) = [rP m, kf key] := by
    simp only [List.cons_append, List.nil_append, fzL, fzA, if_true, Nat.zero_add, lm, Nat.le_refl, and_self, List.drop_zero, tm, rP, kf]
  refine A_body Tryd.func67 rfl (by simp [Tryd.ntmps67]) ?_
  simp only [Tryd.ntmps67, Tryd.results67, mkEnv, List.length_cons, List.length_nil, kf]
  repeat (first
      | refine A_seq ?_
      | refine A_block ?_
      | (refine A_region (A_run ?_); simp only [go_sem, Nat.reduceLT, Nat.reduceLeDiff, Nat.reduceAdd, Nat.reduceSub, Nat.reduceMul, Nat.reduceEqDiff, Nat.reduceBEq, Nat.reduceBNe, Nat.reduceMod, Nat.reduceDiv, Int.reduceEq, Int.reduceNe, Int.reduceLT, Int.reduceLE, Int.reduceToNat, Int.reduceBEq, Int.reduceBNe, Int.reduceNeg, reduceIte, reduceCtorEq, reduceDIte, Value.oneCell']; refine A_nil ?_; simp only [Thn, InB])
      | (refine A_condt ?_ ?_; focus (simp only [evo, lk, lk1, lk2, Nat.reduceDiv, Nat.reduceMod]; done))
      | (refine A_condf ?_ ?_; focus (simp only [evo, lk, lk1, lk2, Nat.reduceDiv, Nat.reduceMod]; done))
      | (refine A_skip ?_; simp only [Thn, InB])
      | (refine A_exit ?_; simp only [Thn, InB, reduceIte, Nat.reduceEqDiff])
      | refine A_ret ?_)
  refine A_region (A_run ?_)
  simp only [go_sem, Nat.reduceLT, Nat.reduceLeDiff, Nat.reduceAdd, Nat.reduceSub, Nat.reduceMul, Nat.reduceEqDiff, Nat.reduceBEq, Nat.reduceBNe, Nat.reduceMod, Nat.reduceDiv, Int.reduceEq, Int.reduceNe, Int.reduceLT, Int.reduceLE, Int.reduceToNat, Int.reduceBEq, Int.reduceBNe, Int.reduceNeg, reduceIte, reduceCtorEq, reduceDIte, Value.oneCell']
  refine A_lend 0 hix rfl rfl rfl rfl rfl (by simp only [go_sem]) rfl hz (by simp only [noNames, namesAll, AV.names, rP, kf, Bool.and_self]) ?_
  rintro r rfl
  refine ⟨_, .inl ⟨rfl, A_run ?_⟩⟩
  simp only [go_sem, Nat.reduceLT, Nat.reduceLeDiff, Nat.reduceAdd, Nat.reduceSub, Nat.reduceMul, Nat.reduceEqDiff, Nat.reduceBEq, Nat.reduceBNe, Nat.reduceMod, Nat.reduceDiv, Int.reduceEq, Int.reduceNe, Int.reduceLT, Int.reduceLE, Int.reduceToNat, Int.reduceBEq, Int.reduceBNe, Int.reduceNeg, reduceIte, reduceCtorEq, reduceDIte, Value.oneCell']
  refine A_nil ?_
  simp only [Thn, InB]
  cases ho : fI (isK key) m with
  | none =>
    simp only [fN]
    repeat (first
        | refine A_seq ?_
        | refine A_block ?_
        | (refine A_region (A_run ?_); simp only [go_sem, Nat.reduceLT, Nat.reduceLeDiff, Nat.reduceAdd, Nat.reduceSub, Nat.reduceMul, Nat.reduceEqDiff, Nat.reduceBEq, Nat.reduceBNe, Nat.reduceMod, Nat.reduceDiv, Int.reduceEq, Int.reduceNe, Int.reduceLT, Int.reduceLE, Int.reduceToNat, Int.reduceBEq, Int.reduceBNe, Int.reduceNeg, reduceIte, reduceCtorEq, reduceDIte, Value.oneCell']; refine A_nil ?_; simp only [Thn, InB])
        | (refine A_condt ?_ ?_; focus (simp only [evo, lk, lk1, lk2, Nat.reduceDiv, Nat.reduceMod]; done))
        | (refine A_condf ?_ ?_; focus (simp only [evo, lk, lk1, lk2, Nat.reduceDiv, Nat.reduceMod]; done))
        | (refine A_skip ?_; simp only [Thn, InB])
        | (refine A_exit ?_; simp only [Thn, InB, reduceIte, Nat.reduceEqDiff])
        | refine A_ret ?_)
    refine ⟨_, rfl, [.vec 8 112 (m.map pD)], _, fin_mk ⟨[], rfl⟩ (Nat.le_refl _) rfl rfl (Le.refl _), ?_, ?_⟩
    · rw [drop_none ho]
    · rw [drop_none ho]
  | some i0 =>
    obtain ⟨p, hp, hkp⟩ := fI_some ho
    have hi0 := (List.getElem?_eq_some_iff.1 hp).1
    have hne : ((i0 : Int) = -1) = False := eq_false (by omega)
    have hne' : ((i0 : Int) == -1) = false := by simp
    have hw0 := wrap_succ (i := i0) (by omega)
    simp only [fN]
    repeat (first
        | refine A_seq ?_
        | refine A_block ?_
        | (refine A_region (A_run ?_); simp only [go_sem, Nat.reduceLT, Nat.reduceLeDiff, Nat.reduceAdd, Nat.reduceSub, Nat.reduceMul, Nat.reduceEqDiff, Nat.reduceBEq, Nat.reduceBNe, Nat.reduceMod, Nat.reduceDiv, Int.reduceEq, Int.reduceNe, Int.reduceLT, Int.reduceLE, Int.reduceToNat, Int.reduceBEq, Int.reduceBNe, Int.reduceNeg, reduceIte, reduceCtorEq, reduceDIte, Value.oneCell', hne, hne', hw0]; refine A_nil ?_; simp only [Thn, InB])
        | (refine A_condt ?_ ?_; focus (simp only [evo, lk, lk1, lk2, Nat.reduceDiv, Nat.reduceMod]; done))
        | (refine A_condf ?_ ?_; focus (simp only [evo, lk, lk1, lk2, Nat.reduceDiv, Nat.reduceMod]; done))
        | (refine A_skip ?_; simp only [Thn, InB])
        | (refine A_exit ?_; simp only [Thn, InB, reduceIte, Nat.reduceEqDiff])
        | refine A_ret ?_)
    refine A_lp (σ := DelAt key m) (fun s => ⟨42, ofL [(0, .sl 0 8 0 m.length), (1, .fn 89 [.dp [.v (.string key)]]), (5, .d (.v (.int .i64 (s.i : Nat)))), (6, .d (.v (.int .i64 (s.j : Nat))))], [.vec 8 112 s.r]⟩) (fun s => m.length - s.j) (DelAt.start ho hi0) ?_ ?_
    · ((try dsimp only); refine Sb.mk ?_ ?_ ?_ ?_ ?_ ?_; (focus rfl); (focus (repeat (first | exact eSub_nil _ | refine eSub_cons rfl ?_))); (focus exact ⟨_, rfl⟩); (focus (first | exact Nat.zero_le _ | exact Nat.le_refl _)); (focus (first | rfl | simp only [envBelow, List.all_cons, List.all_nil, namesAll, AV.names, names_ds, go_sem])); (focus (first | rfl | simp only [List.all_cons, List.all_nil, boxBelow, namesAll, AV.names, names_ds, go_sem])))
    · intro s R hR
      have hij := s.hij
      have hjm := s.hj
      have hrm := s.hr
      try simp only
      repeat (first
          | refine A_seq ?_
          | refine A_block ?_
          | (refine A_region (A_run ?_); simp only [go_sem, Nat.reduceLT, Nat.reduceLeDiff, Nat.reduceAdd, Nat.reduceSub, Nat.reduceMul, Nat.reduceEqDiff, Nat.reduceBEq, Nat.reduceBNe, Nat.reduceMod, Nat.reduceDiv, Int.reduceEq, Int.reduceNe, Int.reduceLT, Int.reduceLE, Int.reduceToNat, Int.reduceBEq, Int.reduceBNe, Int.reduceNeg, reduceIte, reduceCtorEq, reduceDIte, Value.oneCell']; refine A_nil ?_; simp only [Thn, InB])
          | (refine A_condt ?_ ?_; focus (simp only [evo, lk, lk1, lk2, Nat.reduceDiv, Nat.reduceMod]; done))
          | (refine A_condf ?_ ?_; focus (simp only [evo, lk, lk1, lk2, Nat.reduceDiv, Nat.reduceMod]; done))
          | (refine A_skip ?_; simp only [Thn, InB])
          | (refine A_exit ?_; simp only [Thn, InB, reduceIte, Nat.reduceEqDiff])
          | refine A_ret ?_)
      refine A_cond rfl (fun h => ?_) (fun h => ?_)
      · have hlt : s.j < m.length := by simpa using h
        have hlt2 : ((s.j : Int) < (m.length : Int)) = True := eq_true (by omega)
        have hx : s.r[s.j]? = some (.v (.string m[s.j].1) :: vD m[s.j].2) := by rw [s.rest s.j (Nat.le_refl _), List.getElem?_map, List.getElem?_eq_getElem hlt]; rfl
        have tx := take_len (l := (vD m[s.j].2).map AV.d) (n := 7) (by rw [List.length_map, vD_len])
        have lx := vD_len m[s.j].2
        have hw := wrap_succ (i := s.j) (by omega)
        have hwi := wrap_succ (i := s.i) (by omega)
        have hir : s.i < s.r.length := by omega
        have hxi : s.r[s.i]? = some s.r[s.i] := List.getElem?_eq_getElem hir
        have l8 := s.len8 s.r[s.i] (List.getElem_mem hir)
        have d8 := drop_len (l := s.r[s.i]) l8
        have hlti : ((s.i : Int) < (m.length : Int)) = True := eq_true (by omega)
        repeat (first
            | refine A_seq ?_
            | refine A_block ?_
            | (refine A_region (A_run ?_); simp only [go_sem, Nat.reduceLT, Nat.reduceLeDiff, Nat.reduceAdd, Nat.reduceSub, Nat.reduceMul, Nat.reduceEqDiff, Nat.reduceBEq, Nat.reduceBNe, Nat.reduceMod, Nat.reduceDiv, Int.reduceEq, Int.reduceNe, Int.reduceLT, Int.reduceLE, Int.reduceToNat, Int.reduceBEq, Int.reduceBNe, Int.reduceNeg, reduceIte, reduceCtorEq, reduceDIte, Value.oneCell', hx, tx, lx, hlt2, over]; refine A_nil ?_; simp only [Thn, InB])
            | (refine A_condt ?_ ?_; focus (simp only [evo, lk, lk1, lk2, Nat.reduceDiv, Nat.reduceMod]; done))
            | (refine A_condf ?_ ?_; focus (simp only [evo, lk, lk1, lk2, Nat.reduceDiv, Nat.reduceMod]; done))
            | (refine A_skip ?_; simp only [Thn, InB])
            | (refine A_exit ?_; simp only [Thn, InB, reduceIte, Nat.reduceEqDiff])
            | refine A_ret ?_)
        refine A_region (A_run ?_)
        simp only [go_sem, Nat.reduceLT, Nat.reduceLeDiff, Nat.reduceAdd, Nat.reduceSub, Nat.reduceMul, Nat.reduceEqDiff, Nat.reduceBEq, Nat.reduceBNe, Nat.reduceMod, Nat.reduceDiv, Int.reduceEq, Int.reduceNe, Int.reduceLT, Int.reduceLE, Int.reduceToNat, Int.reduceBEq, Int.reduceBNe, Int.reduceNeg, reduceIte, reduceCtorEq, reduceDIte, Value.oneCell', tx, lx]
        (refine A_call (isK_c key m[s.j]) rfl rfl rfl rfl (by first | assumption | simp only [go_sem]) rfl (by first | rfl | simp only [noNames, namesAll, AV.names, names_ds, go_sem, List.append_nil, List.cons_append, List.nil_append, Bool.and_self]) ?_; rintro r rfl; refine ⟨(by first | rfl | simp only [noName, namesAll, AV.names, names_ds, go_sem, Bool.and_self]), A_run ?_⟩; simp only [go_sem, Nat.reduceLT, Nat.reduceLeDiff, Nat.reduceAdd, Nat.reduceSub, Nat.reduceMul, Nat.reduceEqDiff, Nat.reduceBEq, Nat.reduceBNe, Nat.reduceMod, Nat.reduceDiv, Int.reduceEq, Int.reduceNe, Int.reduceLT, Int.reduceLE, Int.reduceToNat, Int.reduceBEq, Int.reduceBNe, Int.reduceNeg, reduceIte, reduceCtorEq, reduceDIte, Value.oneCell'])
        refine A_nil ?_
        simp only [Thn, InB]
        refine A_cond rfl (fun h => ?_) (fun h => ?_)
        · have hk : isK key m[s.j] = false := by simpa using h
          repeat (first
              | refine A_seq ?_
              | refine A_block ?_
              | (refine A_region (A_run ?_); simp only [go_sem, Nat.reduceLT, Nat.reduceLeDiff, Nat.reduceAdd, Nat.reduceSub, Nat.reduceMul, Nat.reduceEqDiff, Nat.reduceBEq, Nat.reduceBNe, Nat.reduceMod, Nat.reduceDiv, Int.reduceEq, Int.reduceNe, Int.reduceLT, Int.reduceLE, Int.reduceToNat, Int.reduceBEq, Int.reduceBNe, Int.reduceNeg, reduceIte, reduceCtorEq, reduceDIte, Value.oneCell', tx, lx, hlti, hxi, l8, d8, over, hwi, hw]; refine A_nil ?_; simp only [Thn, InB])
              | (refine A_condt ?_ ?_; focus (simp only [evo, lk, lk1, lk2, Nat.reduceDiv, Nat.reduceMod]; done))
              | (refine A_condf ?_ ?_; focus (simp only [evo, lk, lk1, lk2, Nat.reduceDiv, Nat.reduceMod]; done))
              | (refine A_skip ?_; simp only [Thn, InB])
              | (refine A_exit ?_; simp only [Thn, InB, reduceIte, Nat.reduceEqDiff])
              | refine A_ret ?_)
          refine hR _ ⟨s.keep hlt hk, by show m.length - (s.j + 1) < m.length - s.j; omega, ?_⟩
          ((try dsimp only); refine Sb.mk ?_ ?_ ?_ ?_ ?_ ?_; (focus rfl); (focus (repeat (first | exact eSub_nil _ | refine eSub_cons rfl ?_))); (focus exact ⟨_, rfl⟩); (focus (first | exact Nat.zero_le _ | exact Nat.le_refl _)); (focus (first | rfl | simp only [envBelow, List.all_cons, List.all_nil, namesAll, AV.names, names_ds, go_sem])); (focus (first | rfl | simp only [List.all_cons, List.all_nil, boxBelow, namesAll, AV.names, names_ds, go_sem])))
        · have hk : isK key m[s.j] = true := by simpa using h
          repeat (first
              | refine A_seq ?_
              | refine A_block ?_
              | (refine A_region (A_run ?_); simp only [go_sem, Nat.reduceLT, Nat.reduceLeDiff, Nat.reduceAdd, Nat.reduceSub, Nat.reduceMul, Nat.reduceEqDiff, Nat.reduceBEq, Nat.reduceBNe, Nat.reduceMod, Nat.reduceDiv, Int.reduceEq, Int.reduceNe, Int.reduceLT, Int.reduceLE, Int.reduceToNat, Int.reduceBEq, Int.reduceBNe, Int.reduceNeg, reduceIte, reduceCtorEq, reduceDIte, Value.oneCell', hw]; refine A_nil ?_; simp only [Thn, InB])
              | (refine A_condt ?_ ?_; focus (simp only [evo, lk, lk1, lk2, Nat.reduceDiv, Nat.reduceMod]; done))
              | (refine A_condf ?_ ?_; focus (simp only [evo, lk, lk1, lk2, Nat.reduceDiv, Nat.reduceMod]; done))
              | (refine A_skip ?_; simp only [Thn, InB])
              | (refine A_exit ?_; simp only [Thn, InB, reduceIte, Nat.reduceEqDiff])
              | refine A_ret ?_)
          refine hR _ ⟨s.skip hlt hk, by show m.length - (s.j + 1) < m.length - s.j; omega, ?_⟩
          ((try dsimp only); refine Sb.mk ?_ ?_ ?_ ?_ ?_ ?_; (focus rfl); (focus (repeat (first | exact eSub_nil _ | refine eSub_cons rfl ?_))); (focus exact ⟨_, rfl⟩); (focus (first | exact Nat.zero_le _ | exact Nat.le_refl _)); (focus (first | rfl | simp only [envBelow, List.all_cons, List.all_nil, namesAll, AV.names, names_ds, go_sem])); (focus (first | rfl | simp only [List.all_cons, List.all_nil, boxBelow, namesAll, AV.names, names_ds, go_sem])))
      · have hge : s.j = m.length := by simp at h; omega
        have le1 : (s.i ≤ m.length) = True := eq_true (by omega)
        have lt1 : (s.i < m.length) = True := eq_true (by omega)
        have hk : s.r.take s.i = (dropV key m).map pD := by
          have := s.kept
          rwa [hge, List.take_length] at this
        have hki : (dropV key m).length = s.i := by
          have := congrArg List.length hk
          simp only [List.length_take, List.length_map] at this
          omega
        repeat (first
            | refine A_seq ?_
            | refine A_block ?_
            | (refine A_region (A_run ?_); simp only [go_sem, Nat.reduceLT, Nat.reduceLeDiff, Nat.reduceAdd, Nat.reduceSub, Nat.reduceMul, Nat.reduceEqDiff, Nat.reduceBEq, Nat.reduceBNe, Nat.reduceMod, Nat.reduceDiv, Int.reduceEq, Int.reduceNe, Int.reduceLT, Int.reduceLE, Int.reduceToNat, Int.reduceBEq, Int.reduceBNe, Int.reduceNeg, reduceIte, reduceCtorEq, reduceDIte, Value.oneCell']; refine A_nil ?_; simp only [Thn, InB])
            | (refine A_condt ?_ ?_; focus (simp only [evo, lk, lk1, lk2, Nat.reduceDiv, Nat.reduceMod]; done))
            | (refine A_condf ?_ ?_; focus (simp only [evo, lk, lk1, lk2, Nat.reduceDiv, Nat.reduceMod]; done))
            | (refine A_skip ?_; simp only [Thn, InB])
            | (refine A_exit ?_; simp only [Thn, InB, reduceIte, Nat.reduceEqDiff])
            | refine A_ret ?_)
        refine A_region (A_run ?_)
        simp only [go_sem, Nat.reduceLT, Nat.reduceLeDiff, Nat.reduceAdd, Nat.reduceSub, Nat.reduceMul, Nat.reduceEqDiff, Nat.reduceBEq, Nat.reduceBNe, Nat.reduceMod, Nat.reduceDiv, Int.reduceEq, Int.reduceNe, Int.reduceLT, Int.reduceLE, Int.reduceToNat, Int.reduceBEq, Int.reduceBNe, Int.reduceNeg, reduceIte, reduceCtorEq, reduceDIte, Value.oneCell', le1, lt1]
        refine A_clear (b := 0) (lo := s.i) (sz := 8) (bt := 112) (l := s.r) rfl rfl rfl (by simp only [go_sem] <;> rfl) (by simp only [go_sem] <;> rfl) (by simp only [go_sem] <;> rfl) ?_ ?_ rfl rfl (by omega) (A_run ?_)
        · rfl
        · rfl
        simp only [go_sem, Nat.reduceLT, Nat.reduceLeDiff, Nat.reduceAdd, Nat.reduceSub, Nat.reduceMul, Nat.reduceEqDiff, Nat.reduceBEq, Nat.reduceBNe, Nat.reduceMod, Nat.reduceDiv, Int.reduceEq, Int.reduceNe, Int.reduceLT, Int.reduceLE, Int.reduceToNat, Int.reduceBEq, Int.reduceBNe, Int.reduceNeg, reduceIte, reduceCtorEq, reduceDIte, Value.oneCell', hk]
        refine A_nil ?_
        simp only [Thn, InB]
        repeat (first
            | refine A_seq ?_
            | refine A_block ?_
            | (refine A_region (A_run ?_); simp only [go_sem, Nat.reduceLT, Nat.reduceLeDiff, Nat.reduceAdd, Nat.reduceSub, Nat.reduceMul, Nat.reduceEqDiff, Nat.reduceBEq, Nat.reduceBNe, Nat.reduceMod, Nat.reduceDiv, Int.reduceEq, Int.reduceNe, Int.reduceLT, Int.reduceLE, Int.reduceToNat, Int.reduceBEq, Int.reduceBNe, Int.reduceNeg, reduceIte, reduceCtorEq, reduceDIte, Value.oneCell', le1, lt1]; refine A_nil ?_; simp only [Thn, InB])
            | (refine A_condt ?_ ?_; focus (simp only [evo, lk, lk1, lk2, Nat.reduceDiv, Nat.reduceMod]; done))
            | (refine A_condf ?_ ?_; focus (simp only [evo, lk, lk1, lk2, Nat.reduceDiv, Nat.reduceMod]; done))
            | (refine A_skip ?_; simp only [Thn, InB])
            | (refine A_exit ?_; simp only [Thn, InB, reduceIte, Nat.reduceEqDiff])
            | refine A_ret ?_)
        refine ⟨_, rfl, [.vec 8 112 ((dropV key m).map pD)], _, fin_mk ⟨[], rfl⟩ (Nat.le_refl _) rfl rfl (Le.refl _), ?_, rfl⟩
        rw [hki]

set_option maxHeartbeats 4000000 in
set_option maxRecDepth 100000 in
theorem drop_c {W0 : World} (key : ByteArray) (m : List (ByteArray × V)) : APure Tryd.prog W0 32 [rP m, .d (.v (.string key))] (· = .ret (rP (dropV key m))) := by
  refine APure.known fun hk => ?_
  have hb47 := ab_rP (hk (rP m) (by simp))
  refine A_body Tryd.func32 rfl (by simp [Tryd.ntmps32]) ?_
  simp only [Tryd.ntmps32, Tryd.results32, mkEnv, List.length_nil, rP]
  repeat (first
      | refine A_seq ?_
      | refine A_block ?_
      | (refine A_region (A_run ?_); simp only [go_sem, Nat.reduceLT, Nat.reduceLeDiff, Nat.reduceAdd, Nat.reduceSub, Nat.reduceMul, Nat.reduceEqDiff, Nat.reduceBEq, Nat.reduceBNe, Nat.reduceMod, Nat.reduceDiv, Int.reduceEq, Int.reduceNe, Int.reduceLT, Int.reduceLE, Int.reduceToNat, Int.reduceBEq, Int.reduceBNe, Int.reduceNeg, reduceIte, reduceCtorEq, reduceDIte, Value.oneCell']; refine A_nil ?_; simp only [Thn, InB])
      | (refine A_condt ?_ ?_; focus (simp only [evo, lk, lk1, lk2, Nat.reduceDiv, Nat.reduceMod]; done))
      | (refine A_condf ?_ ?_; focus (simp only [evo, lk, lk1, lk2, Nat.reduceDiv, Nat.reduceMod]; done))
      | (refine A_skip ?_; simp only [Thn, InB])
      | (refine A_exit ?_; simp only [Thn, InB, reduceIte, Nat.reduceEqDiff])
      | refine A_ret ?_)
  refine A_region (A_run ?_)
  simp only [go_sem, Nat.reduceLT, Nat.reduceLeDiff, Nat.reduceAdd, Nat.reduceSub, Nat.reduceMul, Nat.reduceEqDiff, Nat.reduceBEq, Nat.reduceBNe, Nat.reduceMod, Nat.reduceDiv, Int.reduceEq, Int.reduceNe, Int.reduceLT, Int.reduceLE, Int.reduceToNat, Int.reduceBEq, Int.reduceBNe, Int.reduceNeg, reduceIte, reduceCtorEq, reduceDIte, Value.oneCell']
  refine A_callB [] (ownPairs_of m fun p _ => own_c p.2) rfl rfl rfl rfl (by simp only [go_sem]) rfl (by simp) rfl (fun i b h => by simp at h) rfl ?_
  rintro r L' ⟨rfl, rfl⟩
  refine ⟨rfl, A_run ?_⟩
  simp only [St.aft, killPE, mapE, killP, killPB, killPL, moved, setAll, renB, renA, sg_nil, go_sem, Nat.reduceLT, Nat.reduceLeDiff, Nat.reduceAdd, Nat.reduceSub, Nat.reduceMul, Nat.reduceEqDiff, Nat.reduceBEq, Nat.reduceBNe, Nat.reduceMod, Nat.reduceDiv, Int.reduceEq, Int.reduceNe, Int.reduceLT, Int.reduceLE, Int.reduceToNat, Int.reduceBEq, Int.reduceBNe, Int.reduceNeg, reduceIte, reduceCtorEq, reduceDIte, Value.oneCell']
  (refine A_call (named_c key) rfl rfl rfl rfl (by first | assumption | simp only [go_sem]) rfl (by first | rfl | simp only [noNames, namesAll, AV.names, names_ds, go_sem, List.append_nil, List.cons_append, List.nil_append, Bool.and_self]) ?_; rintro r rfl; refine ⟨(by first | rfl | simp only [noName, namesAll, AV.names, names_ds, go_sem, Bool.and_self]), A_run ?_⟩; simp only [go_sem, Nat.reduceLT, Nat.reduceLeDiff, Nat.reduceAdd, Nat.reduceSub, Nat.reduceMul, Nat.reduceEqDiff, Nat.reduceBEq, Nat.reduceBNe, Nat.reduceMod, Nat.reduceDiv, Int.reduceEq, Int.reduceNe, Int.reduceLT, Int.reduceLE, Int.reduceToNat, Int.reduceBEq, Int.reduceBNe, Int.reduceNeg, reduceIte, reduceCtorEq, reduceDIte, Value.oneCell', kf])
  refine A_callB [0] (del_c key m hb47) rfl rfl rfl rfl (by simp only [go_sem]) rfl (by simp) rfl (fun i b h => ?_) rfl ?_
  · match i, h with
    | 0, h =>
      simp only [List.getElem?_cons_zero, Option.some.injEq] at h
      subst h
      rfl
  rintro r L' ⟨rfl, rfl⟩
  refine ⟨rfl, A_run ?_⟩
  have hs0 : ∀ k, sg [0] k 0 = 0 := fun k => rfl
  simp only [St.aft, killPE, mapE, killP, killPB, killPL, moved, setAll, renB, renA, hs0, go_sem, Nat.reduceLT, Nat.reduceLeDiff, Nat.reduceAdd, Nat.reduceSub, Nat.reduceMul, Nat.reduceEqDiff, Nat.reduceBEq, Nat.reduceBNe, Nat.reduceMod, Nat.reduceDiv, Int.reduceEq, Int.reduceNe, Int.reduceLT, Int.reduceLE, Int.reduceToNat, Int.reduceBEq, Int.reduceBNe, Int.reduceNeg, reduceIte, reduceCtorEq, reduceDIte, Value.oneCell']
  refine A_nil ?_
  simp only [Thn, InB]
  refine A_sub _ (Sb.freeze 0 rfl (Nat.zero_le _)) ?_
  have ht : List.take (dropV key m).length ((dropV key m).map pD) = (dropV key m).map pD := List.take_of_length_le (by simp)
  simp only [fzE, mapE, fzA, fzL, fzB, go_sem, Nat.reduceLT, Nat.reduceLeDiff, Nat.reduceAdd, Nat.reduceSub, Nat.reduceMul, Nat.reduceEqDiff, Nat.reduceBEq, Nat.reduceBNe, Nat.reduceMod, Nat.reduceDiv, Int.reduceEq, Int.reduceNe, Int.reduceLT, Int.reduceLE, Int.reduceToNat, Int.reduceBEq, Int.reduceBNe, Int.reduceNeg, reduceIte, reduceCtorEq, reduceDIte, Value.oneCell', ht]
  repeat (first
      | refine A_seq ?_
      | refine A_block ?_
      | (refine A_region (A_run ?_); simp only [go_sem, Nat.reduceLT, Nat.reduceLeDiff, Nat.reduceAdd, Nat.reduceSub, Nat.reduceMul, Nat.reduceEqDiff, Nat.reduceBEq, Nat.reduceBNe, Nat.reduceMod, Nat.reduceDiv, Int.reduceEq, Int.reduceNe, Int.reduceLT, Int.reduceLE, Int.reduceToNat, Int.reduceBEq, Int.reduceBNe, Int.reduceNeg, reduceIte, reduceCtorEq, reduceDIte, Value.oneCell']; refine A_nil ?_; simp only [Thn, InB])
      | (refine A_condt ?_ ?_; focus (simp only [evo, lk, lk1, lk2, Nat.reduceDiv, Nat.reduceMod]; done))
      | (refine A_condf ?_ ?_; focus (simp only [evo, lk, lk1, lk2, Nat.reduceDiv, Nat.reduceMod]; done))
      | (refine A_skip ?_; simp only [Thn, InB])
      | (refine A_exit ?_; simp only [Thn, InB, reduceIte, Nat.reduceEqDiff])
      | refine A_ret ?_)
  exact ⟨_, rfl, _, _, fin_pure rfl (Le.refl _), rfl, rfl⟩
end Go.Proofs.YtbgfiflnfndckaaDoor.Lift

/- ValuePuts: what is put is got, what is dropped is not; all other keys stay. Plain laws. No conditions. -/
set_option linter.unusedVariables false
set_option linter.unusedSimpArgs false
namespace Go.Proofs.YtbgfiflnfndckaaDoor.Lift
open Go Go.RowKit

theorem getV_nil (key : ByteArray) : getV key [] = (V0, false) := rfl
theorem getV_cons (key : ByteArray) (p : ByteArray × V) (m : List (ByteArray × V)) : getV key (p :: m) = if isK key p = true then (p.2, true) else getV key m := by
  by_cases h : isK key p = true
  · simp [getV, fI, h]
  · rw [if_neg h]
    unfold getV
    rw [fI, if_neg h]
    cases fI (isK key) m <;> simp
theorem putV_nil (key : ByteArray) (v : V) : putV key v [] = [(key, v)] := rfl
theorem putV_cons (key : ByteArray) (v : V) (p : ByteArray × V) (m : List (ByteArray × V)) : putV key v (p :: m) = if isK key p = true then (p.1, v) :: m else p :: putV key v m := by
  by_cases h : isK key p = true
  · simp [putV, fI, h]
  · rw [if_neg h]
    unfold putV
    rw [fI, if_neg h]
    cases fI (isK key) m <;> simp
theorem isK_self (key : ByteArray) (v : V) : isK key (key, v) = true := by simp [isK]
theorem isK_key {key : ByteArray} {p : ByteArray × V} (v : V) : isK key (p.1, v) = isK key p := rfl
theorem isK_other {key other : ByteArray} {p : ByteArray × V} (h : (other.toList == key.toList) = false) (hp : isK key p = true) : isK other p = false := by
  simp only [isK, beq_iff_eq] at hp
  simp only [isK, hp]
  simp only [beq_eq_false_iff_ne, ne_eq] at h ⊢
  exact fun e => h e.symm
theorem get_put (key : ByteArray) (v : V) : ∀ m : List (ByteArray × V), getV key (putV key v m) = (v, true)
  | [] => by rw [putV_nil, getV_cons, if_pos (isK_self key v)]
  | p :: m => by
    rw [putV_cons]
    by_cases h : isK key p = true
    · rw [if_pos h, getV_cons, if_pos (by rw [isK_key]; exact h)]
    · rw [if_neg h, getV_cons, if_neg h, get_put key v m]
theorem get_put_other {key other : ByteArray} (v : V) (h : (other.toList == key.toList) = false) : ∀ m : List (ByteArray × V), getV other (putV key v m) = getV other m
  | [] => by rw [putV_nil, getV_cons, isK_other h (isK_self key v)]; rfl
  | p :: m => by
    rw [putV_cons, getV_cons other p]
    by_cases hk : isK key p = true
    · rw [if_pos hk, getV_cons, isK_key, isK_other h hk]
      simp
    · rw [if_neg hk, getV_cons, get_put_other v h m]
theorem drop_cons (key : ByteArray) (p : ByteArray × V) (m : List (ByteArray × V)) : dropV key (p :: m) = if isK key p = true then dropV key m else p :: dropV key m := by
  unfold dropV
  rw [List.filter_cons]
  by_cases h : isK key p = true <;> simp [h]
theorem drop_put (key : ByteArray) (v : V) : ∀ m : List (ByteArray × V), dropV key (putV key v m) = dropV key m
  | [] => by rw [putV_nil, drop_cons, if_pos (isK_self key v)]
  | p :: m => by
    rw [putV_cons, drop_cons key p m]
    by_cases h : isK key p = true
    · rw [if_pos h, drop_cons, if_pos (by rw [isK_key]; exact h), if_pos h]
    · rw [if_neg h, drop_cons, if_neg h, if_neg h, drop_put key v m]
theorem get_drop (key : ByteArray) : ∀ m : List (ByteArray × V), getV key (dropV key m) = (V0, false)
  | [] => rfl
  | p :: m => by
    rw [drop_cons]
    by_cases h : isK key p = true
    · rw [if_pos h, get_drop key m]
    · rw [if_neg h, getV_cons, if_neg h, get_drop key m]
theorem get_drop_other {key other : ByteArray} (h : (other.toList == key.toList) = false) : ∀ m : List (ByteArray × V), getV other (dropV key m) = getV other m
  | [] => rfl
  | p :: m => by
    rw [drop_cons, getV_cons other p]
    by_cases hk : isK key p = true
    · rw [if_pos hk, isK_other h hk, get_drop_other h m]
      rfl
    · rw [if_neg hk, getV_cons, get_drop_other h m]

set_option maxHeartbeats 8000000 in
set_option maxRecDepth 100000 in
theorem puts_c {W0 : World} (hlives : APure Tryd.prog W0 12 [] (· = .ret (.d (.v (.bool true))))) (m : List (ByteArray × V)) (key other : ByteArray) (v : V) (hroom : (m.length + 1) * 112 ≤ 140737488355328) :
    APure Tryd.prog W0 9 [rP m, .d (.v (.string key)), .d (.v (.string other)), va v] (· = .ret (.d (.v (.bool true)))) := by
  have tv := take_len (l := (vD v).map AV.d) (n := 7) (by rw [List.length_map, vD_len])
  have dv := drop_len (l := vD v) (n := 7) (vD_len _)
  have lv := vD_len v
  refine A_body Tryd.func9 rfl (by simp [Tryd.ntmps9]) ?_
  simp only [Tryd.ntmps9, Tryd.results9, mkEnv, List.length_nil, rP, va]
  repeat (first
      | refine A_seq ?_
      | refine A_block ?_
      | (refine A_region (A_run ?_); simp only [go_sem, Nat.reduceLT, Nat.reduceLeDiff, Nat.reduceAdd, Nat.reduceSub, Nat.reduceMul, Nat.reduceEqDiff, Nat.reduceBEq, Nat.reduceBNe, Nat.reduceMod, Nat.reduceDiv, Int.reduceEq, Int.reduceNe, Int.reduceLT, Int.reduceLE, Int.reduceToNat, Int.reduceBEq, Int.reduceBNe, Int.reduceNeg, reduceIte, reduceCtorEq, reduceDIte, Value.oneCell', tv, lv]; refine A_nil ?_; simp only [Thn, InB])
      | (refine A_condt ?_ ?_; focus (simp only [evo, lk, lk1, lk2, Nat.reduceDiv, Nat.reduceMod]; done))
      | (refine A_condf ?_ ?_; focus (simp only [evo, lk, lk1, lk2, Nat.reduceDiv, Nat.reduceMod]; done))
      | (refine A_skip ?_; simp only [Thn, InB])
      | (refine A_exit ?_; simp only [Thn, InB, reduceIte, Nat.reduceEqDiff])
      | refine A_ret ?_)
  refine A_region (A_run ?_)
  simp only [go_sem, Nat.reduceLT, Nat.reduceLeDiff, Nat.reduceAdd, Nat.reduceSub, Nat.reduceMul, Nat.reduceEqDiff, Nat.reduceBEq, Nat.reduceBNe, Nat.reduceMod, Nat.reduceDiv, Int.reduceEq, Int.reduceNe, Int.reduceLT, Int.reduceLE, Int.reduceToNat, Int.reduceBEq, Int.reduceBNe, Int.reduceNeg, reduceIte, reduceCtorEq, reduceDIte, Value.oneCell']
  (refine A_call (hlives) rfl rfl rfl rfl (by first | assumption | simp only [go_sem]) rfl (by first | rfl | simp only [noNames, namesAll, AV.names, names_ds, go_sem, List.append_nil, List.cons_append, List.nil_append, Bool.and_self]) ?_; rintro r rfl; refine ⟨(by first | rfl | simp only [noName, namesAll, AV.names, names_ds, go_sem, Bool.and_self]), A_run ?_⟩; simp only [go_sem, Nat.reduceLT, Nat.reduceLeDiff, Nat.reduceAdd, Nat.reduceSub, Nat.reduceMul, Nat.reduceEqDiff, Nat.reduceBEq, Nat.reduceBNe, Nat.reduceMod, Nat.reduceDiv, Int.reduceEq, Int.reduceNe, Int.reduceLT, Int.reduceLE, Int.reduceToNat, Int.reduceBEq, Int.reduceBNe, Int.reduceNeg, reduceIte, reduceCtorEq, reduceDIte, Value.oneCell'])
  refine A_nil ?_
  simp only [Thn, InB]
  repeat (first
      | refine A_seq ?_
      | refine A_block ?_
      | (refine A_region (A_run ?_); simp only [go_sem, Nat.reduceLT, Nat.reduceLeDiff, Nat.reduceAdd, Nat.reduceSub, Nat.reduceMul, Nat.reduceEqDiff, Nat.reduceBEq, Nat.reduceBNe, Nat.reduceMod, Nat.reduceDiv, Int.reduceEq, Int.reduceNe, Int.reduceLT, Int.reduceLE, Int.reduceToNat, Int.reduceBEq, Int.reduceBNe, Int.reduceNeg, reduceIte, reduceCtorEq, reduceDIte, Value.oneCell']; refine A_nil ?_; simp only [Thn, InB])
      | (refine A_condt ?_ ?_; focus (simp only [evo, lk, lk1, lk2, Nat.reduceDiv, Nat.reduceMod]; done))
      | (refine A_condf ?_ ?_; focus (simp only [evo, lk, lk1, lk2, Nat.reduceDiv, Nat.reduceMod]; done))
      | (refine A_skip ?_; simp only [Thn, InB])
      | (refine A_exit ?_; simp only [Thn, InB, reduceIte, Nat.reduceEqDiff])
      | refine A_ret ?_)
  refine A_region (A_run ?_)
  simp only [go_sem, Nat.reduceLT, Nat.reduceLeDiff, Nat.reduceAdd, Nat.reduceSub, Nat.reduceMul, Nat.reduceEqDiff, Nat.reduceBEq, Nat.reduceBNe, Nat.reduceMod, Nat.reduceDiv, Int.reduceEq, Int.reduceNe, Int.reduceLT, Int.reduceLE, Int.reduceToNat, Int.reduceBEq, Int.reduceBNe, Int.reduceNeg, reduceIte, reduceCtorEq, reduceDIte, Value.oneCell', tv, lv]
  (refine A_call (put_c key v m hroom) rfl rfl rfl rfl (by first | assumption | simp only [go_sem]) rfl (by first | rfl | simp only [noNames, namesAll, AV.names, names_ds, go_sem, List.append_nil, List.cons_append, List.nil_append, Bool.and_self]) ?_; rintro r rfl; refine ⟨(by first | rfl | simp only [noName, namesAll, AV.names, names_ds, go_sem, Bool.and_self]), A_run ?_⟩; simp only [go_sem, Nat.reduceLT, Nat.reduceLeDiff, Nat.reduceAdd, Nat.reduceSub, Nat.reduceMul, Nat.reduceEqDiff, Nat.reduceBEq, Nat.reduceBNe, Nat.reduceMod, Nat.reduceDiv, Int.reduceEq, Int.reduceNe, Int.reduceLT, Int.reduceLE, Int.reduceToNat, Int.reduceBEq, Int.reduceBNe, Int.reduceNeg, reduceIte, reduceCtorEq, reduceDIte, Value.oneCell'])
  refine A_nil ?_
  simp only [Thn, InB]
  repeat (first
      | refine A_seq ?_
      | refine A_block ?_
      | (refine A_region (A_run ?_); simp only [go_sem, Nat.reduceLT, Nat.reduceLeDiff, Nat.reduceAdd, Nat.reduceSub, Nat.reduceMul, Nat.reduceEqDiff, Nat.reduceBEq, Nat.reduceBNe, Nat.reduceMod, Nat.reduceDiv, Int.reduceEq, Int.reduceNe, Int.reduceLT, Int.reduceLE, Int.reduceToNat, Int.reduceBEq, Int.reduceBNe, Int.reduceNeg, reduceIte, reduceCtorEq, reduceDIte, Value.oneCell']; refine A_nil ?_; simp only [Thn, InB])
      | (refine A_condt ?_ ?_; focus (simp only [evo, lk, lk1, lk2, Nat.reduceDiv, Nat.reduceMod]; done))
      | (refine A_condf ?_ ?_; focus (simp only [evo, lk, lk1, lk2, Nat.reduceDiv, Nat.reduceMod]; done))
      | (refine A_skip ?_; simp only [Thn, InB])
      | (refine A_exit ?_; simp only [Thn, InB, reduceIte, Nat.reduceEqDiff])
      | refine A_ret ?_)
  have g1 := get_c (W0 := W0) key (putV key v m)
  rw [get_put] at g1
  refine A_region (A_run ?_)
  simp only [go_sem, Nat.reduceLT, Nat.reduceLeDiff, Nat.reduceAdd, Nat.reduceSub, Nat.reduceMul, Nat.reduceEqDiff, Nat.reduceBEq, Nat.reduceBNe, Nat.reduceMod, Nat.reduceDiv, Int.reduceEq, Int.reduceNe, Int.reduceLT, Int.reduceLE, Int.reduceToNat, Int.reduceBEq, Int.reduceBNe, Int.reduceNeg, reduceIte, reduceCtorEq, reduceDIte, Value.oneCell']
  (refine A_call (g1) rfl rfl rfl rfl (by first | assumption | simp only [go_sem]) rfl (by first | rfl | simp only [noNames, namesAll, AV.names, names_ds, go_sem, List.append_nil, List.cons_append, List.nil_append, Bool.and_self]) ?_; rintro r rfl; refine ⟨(by first | rfl | simp only [noName, namesAll, AV.names, names_ds, go_sem, Bool.and_self]), A_run ?_⟩; simp only [go_sem, Nat.reduceLT, Nat.reduceLeDiff, Nat.reduceAdd, Nat.reduceSub, Nat.reduceMul, Nat.reduceEqDiff, Nat.reduceBEq, Nat.reduceBNe, Nat.reduceMod, Nat.reduceDiv, Int.reduceEq, Int.reduceNe, Int.reduceLT, Int.reduceLE, Int.reduceToNat, Int.reduceBEq, Int.reduceBNe, Int.reduceNeg, reduceIte, reduceCtorEq, reduceDIte, Value.oneCell', tv, lv, dv, over])
  refine A_nil ?_
  simp only [Thn, InB]
  repeat (first
      | refine A_seq ?_
      | refine A_block ?_
      | (refine A_region (A_run ?_); simp only [go_sem, Nat.reduceLT, Nat.reduceLeDiff, Nat.reduceAdd, Nat.reduceSub, Nat.reduceMul, Nat.reduceEqDiff, Nat.reduceBEq, Nat.reduceBNe, Nat.reduceMod, Nat.reduceDiv, Int.reduceEq, Int.reduceNe, Int.reduceLT, Int.reduceLE, Int.reduceToNat, Int.reduceBEq, Int.reduceBNe, Int.reduceNeg, reduceIte, reduceCtorEq, reduceDIte, Value.oneCell']; refine A_nil ?_; simp only [Thn, InB])
      | (refine A_condt ?_ ?_; focus (simp only [evo, lk, lk1, lk2, Nat.reduceDiv, Nat.reduceMod]; done))
      | (refine A_condf ?_ ?_; focus (simp only [evo, lk, lk1, lk2, Nat.reduceDiv, Nat.reduceMod]; done))
      | (refine A_skip ?_; simp only [Thn, InB])
      | (refine A_exit ?_; simp only [Thn, InB, reduceIte, Nat.reduceEqDiff])
      | refine A_ret ?_)
  refine A_region (A_run ?_)
  simp only [go_sem, Nat.reduceLT, Nat.reduceLeDiff, Nat.reduceAdd, Nat.reduceSub, Nat.reduceMul, Nat.reduceEqDiff, Nat.reduceBEq, Nat.reduceBNe, Nat.reduceMod, Nat.reduceDiv, Int.reduceEq, Int.reduceNe, Int.reduceLT, Int.reduceLE, Int.reduceToNat, Int.reduceBEq, Int.reduceBNe, Int.reduceNeg, reduceIte, reduceCtorEq, reduceDIte, Value.oneCell']
  (refine A_call (drop_c key (putV key v m)) rfl rfl rfl rfl (by first | assumption | simp only [go_sem]) rfl (by first | rfl | simp only [noNames, namesAll, AV.names, names_ds, go_sem, List.append_nil, List.cons_append, List.nil_append, Bool.and_self]) ?_; rintro r rfl; refine ⟨(by first | rfl | simp only [noName, namesAll, AV.names, names_ds, go_sem, Bool.and_self]), A_run ?_⟩; simp only [go_sem, Nat.reduceLT, Nat.reduceLeDiff, Nat.reduceAdd, Nat.reduceSub, Nat.reduceMul, Nat.reduceEqDiff, Nat.reduceBEq, Nat.reduceBNe, Nat.reduceMod, Nat.reduceDiv, Int.reduceEq, Int.reduceNe, Int.reduceLT, Int.reduceLE, Int.reduceToNat, Int.reduceBEq, Int.reduceBNe, Int.reduceNeg, reduceIte, reduceCtorEq, reduceDIte, Value.oneCell'])
  refine A_nil ?_
  simp only [Thn, InB]
  repeat (first
      | refine A_seq ?_
      | refine A_block ?_
      | (refine A_region (A_run ?_); simp only [go_sem, Nat.reduceLT, Nat.reduceLeDiff, Nat.reduceAdd, Nat.reduceSub, Nat.reduceMul, Nat.reduceEqDiff, Nat.reduceBEq, Nat.reduceBNe, Nat.reduceMod, Nat.reduceDiv, Int.reduceEq, Int.reduceNe, Int.reduceLT, Int.reduceLE, Int.reduceToNat, Int.reduceBEq, Int.reduceBNe, Int.reduceNeg, reduceIte, reduceCtorEq, reduceDIte, Value.oneCell']; refine A_nil ?_; simp only [Thn, InB])
      | (refine A_condt ?_ ?_; focus (simp only [evo, lk, lk1, lk2, Nat.reduceDiv, Nat.reduceMod]; done))
      | (refine A_condf ?_ ?_; focus (simp only [evo, lk, lk1, lk2, Nat.reduceDiv, Nat.reduceMod]; done))
      | (refine A_skip ?_; simp only [Thn, InB])
      | (refine A_exit ?_; simp only [Thn, InB, reduceIte, Nat.reduceEqDiff])
      | refine A_ret ?_)
  have g2 := get_c (W0 := W0) key (dropV key (putV key v m))
  rw [get_drop] at g2
  refine A_region (A_run ?_)
  simp only [go_sem, Nat.reduceLT, Nat.reduceLeDiff, Nat.reduceAdd, Nat.reduceSub, Nat.reduceMul, Nat.reduceEqDiff, Nat.reduceBEq, Nat.reduceBNe, Nat.reduceMod, Nat.reduceDiv, Int.reduceEq, Int.reduceNe, Int.reduceLT, Int.reduceLE, Int.reduceToNat, Int.reduceBEq, Int.reduceBNe, Int.reduceNeg, reduceIte, reduceCtorEq, reduceDIte, Value.oneCell']
  have t0 := take_len (l := (vD V0).map AV.d) (n := 7) (by rw [List.length_map, vD_len])
  have l0 := vD_len V0
  (refine A_call (g2) rfl rfl rfl rfl (by first | assumption | simp only [go_sem]) rfl (by first | rfl | simp only [noNames, namesAll, AV.names, names_ds, go_sem, List.append_nil, List.cons_append, List.nil_append, Bool.and_self]) ?_; rintro r rfl; refine ⟨(by first | rfl | simp only [noName, namesAll, AV.names, names_ds, go_sem, Bool.and_self]), A_run ?_⟩; simp only [go_sem, Nat.reduceLT, Nat.reduceLeDiff, Nat.reduceAdd, Nat.reduceSub, Nat.reduceMul, Nat.reduceEqDiff, Nat.reduceBEq, Nat.reduceBNe, Nat.reduceMod, Nat.reduceDiv, Int.reduceEq, Int.reduceNe, Int.reduceLT, Int.reduceLE, Int.reduceToNat, Int.reduceBEq, Int.reduceBNe, Int.reduceNeg, reduceIte, reduceCtorEq, reduceDIte, Value.oneCell', t0, l0, over])
  refine A_nil ?_
  simp only [Thn, InB]
  repeat (first
      | refine A_seq ?_
      | refine A_block ?_
      | (refine A_region (A_run ?_); simp only [go_sem, Nat.reduceLT, Nat.reduceLeDiff, Nat.reduceAdd, Nat.reduceSub, Nat.reduceMul, Nat.reduceEqDiff, Nat.reduceBEq, Nat.reduceBNe, Nat.reduceMod, Nat.reduceDiv, Int.reduceEq, Int.reduceNe, Int.reduceLT, Int.reduceLE, Int.reduceToNat, Int.reduceBEq, Int.reduceBNe, Int.reduceNeg, reduceIte, reduceCtorEq, reduceDIte, Value.oneCell']; refine A_nil ?_; simp only [Thn, InB])
      | (refine A_condt ?_ ?_; focus (simp only [evo, lk, lk1, lk2, Nat.reduceDiv, Nat.reduceMod]; done))
      | (refine A_condf ?_ ?_; focus (simp only [evo, lk, lk1, lk2, Nat.reduceDiv, Nat.reduceMod]; done))
      | (refine A_skip ?_; simp only [Thn, InB])
      | (refine A_exit ?_; simp only [Thn, InB, reduceIte, Nat.reduceEqDiff])
      | refine A_ret ?_)
  (first | refine A_quietG (gs := [none, none, none, some (some 44, false), some (some 44, false), some (some 44, false), some (some 44, false), none, none, some (some 50, false), none]) mixedO (by kernel_rfl) (by kernel_rfl) rfl (aqg_run ?_) | refine A_calmG (gs := [none, none, none, some (some 44, false), some (some 44, false), some (some 44, false), some (some 44, false), none, none, some (some 50, false), none]) (by kernel_rfl) rfl (aqg_run ?_)); simp only [runG, stepG_n, stepG_s, opW, bsD, opV, mkOp, resE_ap, resA, go_sem, Nat.reduceLT, Nat.reduceLeDiff, Nat.reduceAdd, Nat.reduceSub, Nat.reduceMul, Nat.reduceEqDiff, Nat.reduceBEq, Nat.reduceBNe, Nat.reduceMod, Nat.reduceDiv, Int.reduceEq, Int.reduceNe, Int.reduceLT, Int.reduceLE, Int.reduceToNat, Int.reduceBEq, Int.reduceBNe, Int.reduceNeg, reduceIte, reduceCtorEq, reduceDIte, Value.oneCell', tv, lv]
  (try (refine aqg_nil ?_; (try simp only [Thn, InB])))
  (refine aqg_callg0 (fun _ => rsame_c v) rfl rfl (fun _ => ?_) (by first | assumption | simp only [go_sem]) (by first | rfl | simp only [noNames, namesAll, AV.names, names_ds, go_sem, List.append_nil, List.cons_append, List.nil_append, Bool.and_self]) (by first | rfl | simp only [noName, namesAll, AV.names, names_ds, go_sem, Bool.and_self]) ?_; focus (constructor <;> simp only [go_sem, Nat.reduceLT, Nat.reduceLeDiff, Nat.reduceAdd, Nat.reduceSub, Nat.reduceMul, Nat.reduceEqDiff, Nat.reduceBEq, Nat.reduceBNe, Nat.reduceMod, Nat.reduceDiv, Int.reduceEq, Int.reduceNe, Int.reduceLT, Int.reduceLE, Int.reduceToNat, Int.reduceBEq, Int.reduceBNe, Int.reduceNeg, reduceIte, reduceCtorEq, reduceDIte, Value.oneCell', resE_ap, resA, tv, lv]))
  (refine aqg_run ?_; simp only [runG, stepG_n, stepG_s, opW, bsD, opV, mkOp, resE_ap, resA, go_sem, Nat.reduceLT, Nat.reduceLeDiff, Nat.reduceAdd, Nat.reduceSub, Nat.reduceMul, Nat.reduceEqDiff, Nat.reduceBEq, Nat.reduceBNe, Nat.reduceMod, Nat.reduceDiv, Int.reduceEq, Int.reduceNe, Int.reduceLT, Int.reduceLE, Int.reduceToNat, Int.reduceBEq, Int.reduceBNe, Int.reduceNeg, reduceIte, reduceCtorEq, reduceDIte, Value.oneCell'])
  (try (refine aqg_nil ?_; (try simp only [Thn, InB])))
  repeat (first
      | refine A_seq ?_
      | refine A_block ?_
      | (refine A_region (A_run ?_); simp only [go_sem, Nat.reduceLT, Nat.reduceLeDiff, Nat.reduceAdd, Nat.reduceSub, Nat.reduceMul, Nat.reduceEqDiff, Nat.reduceBEq, Nat.reduceBNe, Nat.reduceMod, Nat.reduceDiv, Int.reduceEq, Int.reduceNe, Int.reduceLT, Int.reduceLE, Int.reduceToNat, Int.reduceBEq, Int.reduceBNe, Int.reduceNeg, reduceIte, reduceCtorEq, reduceDIte, Value.oneCell']; refine A_nil ?_; simp only [Thn, InB])
      | (refine A_condt ?_ ?_; focus (simp only [evo, lk, lk1, lk2, Nat.reduceDiv, Nat.reduceMod]; done))
      | (refine A_condf ?_ ?_; focus (simp only [evo, lk, lk1, lk2, Nat.reduceDiv, Nat.reduceMod]; done))
      | (refine A_skip ?_; simp only [Thn, InB])
      | (refine A_exit ?_; simp only [Thn, InB, reduceIte, Nat.reduceEqDiff])
      | refine A_ret ?_)
  refine A_cond rfl (fun h => ?_) (fun h => ?_)
  · skip
    repeat (first
        | refine A_seq ?_
        | refine A_block ?_
        | (refine A_region (A_run ?_); simp only [go_sem, Nat.reduceLT, Nat.reduceLeDiff, Nat.reduceAdd, Nat.reduceSub, Nat.reduceMul, Nat.reduceEqDiff, Nat.reduceBEq, Nat.reduceBNe, Nat.reduceMod, Nat.reduceDiv, Int.reduceEq, Int.reduceNe, Int.reduceLT, Int.reduceLE, Int.reduceToNat, Int.reduceBEq, Int.reduceBNe, Int.reduceNeg, reduceIte, reduceCtorEq, reduceDIte, Value.oneCell']; refine A_nil ?_; simp only [Thn, InB])
        | (refine A_condt ?_ ?_; focus (simp only [evo, lk, lk1, lk2, Nat.reduceDiv, Nat.reduceMod]; done))
        | (refine A_condf ?_ ?_; focus (simp only [evo, lk, lk1, lk2, Nat.reduceDiv, Nat.reduceMod]; done))
        | (refine A_skip ?_; simp only [Thn, InB])
        | (refine A_exit ?_; simp only [Thn, InB, reduceIte, Nat.reduceEqDiff])
        | refine A_ret ?_)
    exact ⟨_, rfl, _, _, fin_pure rfl (Le.refl _), rfl, rfl⟩
  repeat (first
      | refine A_seq ?_
      | refine A_block ?_
      | (refine A_region (A_run ?_); simp only [go_sem, Nat.reduceLT, Nat.reduceLeDiff, Nat.reduceAdd, Nat.reduceSub, Nat.reduceMul, Nat.reduceEqDiff, Nat.reduceBEq, Nat.reduceBNe, Nat.reduceMod, Nat.reduceDiv, Int.reduceEq, Int.reduceNe, Int.reduceLT, Int.reduceLE, Int.reduceToNat, Int.reduceBEq, Int.reduceBNe, Int.reduceNeg, reduceIte, reduceCtorEq, reduceDIte, Value.oneCell']; refine A_nil ?_; simp only [Thn, InB])
      | (refine A_condt ?_ ?_; focus (simp only [evo, lk, lk1, lk2, Nat.reduceDiv, Nat.reduceMod]; done))
      | (refine A_condf ?_ ?_; focus (simp only [evo, lk, lk1, lk2, Nat.reduceDiv, Nat.reduceMod]; done))
      | (refine A_skip ?_; simp only [Thn, InB])
      | (refine A_exit ?_; simp only [Thn, InB, reduceIte, Nat.reduceEqDiff])
      | refine A_ret ?_)
  have g3 := get_c (W0 := W0) other m
  have g4 := get_c (W0 := W0) other (putV key v m)
  have g5 := get_c (W0 := W0) other (dropV key (putV key v m))
  rw [get_put_other v h] at g4
  rw [get_drop_other h, get_put_other v h] at g5
  generalize getV other m = G at g3 g4 g5
  obtain ⟨gx, gb⟩ := G
  simp only at g3 g4 g5
  have tg := take_len (l := (vD gx).map AV.d) (n := 7) (by rw [List.length_map, vD_len])
  have lg := vD_len gx
  refine A_region (A_run ?_)
  simp only [go_sem, Nat.reduceLT, Nat.reduceLeDiff, Nat.reduceAdd, Nat.reduceSub, Nat.reduceMul, Nat.reduceEqDiff, Nat.reduceBEq, Nat.reduceBNe, Nat.reduceMod, Nat.reduceDiv, Int.reduceEq, Int.reduceNe, Int.reduceLT, Int.reduceLE, Int.reduceToNat, Int.reduceBEq, Int.reduceBNe, Int.reduceNeg, reduceIte, reduceCtorEq, reduceDIte, Value.oneCell']
  (refine A_call (g3) rfl rfl rfl rfl (by first | assumption | simp only [go_sem]) rfl (by first | rfl | simp only [noNames, namesAll, AV.names, names_ds, go_sem, List.append_nil, List.cons_append, List.nil_append, Bool.and_self]) ?_; rintro r rfl; refine ⟨(by first | rfl | simp only [noName, namesAll, AV.names, names_ds, go_sem, Bool.and_self]), A_run ?_⟩; simp only [go_sem, Nat.reduceLT, Nat.reduceLeDiff, Nat.reduceAdd, Nat.reduceSub, Nat.reduceMul, Nat.reduceEqDiff, Nat.reduceBEq, Nat.reduceBNe, Nat.reduceMod, Nat.reduceDiv, Int.reduceEq, Int.reduceNe, Int.reduceLT, Int.reduceLE, Int.reduceToNat, Int.reduceBEq, Int.reduceBNe, Int.reduceNeg, reduceIte, reduceCtorEq, reduceDIte, Value.oneCell', tg, lg, over])
  refine A_nil ?_
  simp only [Thn, InB]
  repeat (first
      | refine A_seq ?_
      | refine A_block ?_
      | (refine A_region (A_run ?_); simp only [go_sem, Nat.reduceLT, Nat.reduceLeDiff, Nat.reduceAdd, Nat.reduceSub, Nat.reduceMul, Nat.reduceEqDiff, Nat.reduceBEq, Nat.reduceBNe, Nat.reduceMod, Nat.reduceDiv, Int.reduceEq, Int.reduceNe, Int.reduceLT, Int.reduceLE, Int.reduceToNat, Int.reduceBEq, Int.reduceBNe, Int.reduceNeg, reduceIte, reduceCtorEq, reduceDIte, Value.oneCell']; refine A_nil ?_; simp only [Thn, InB])
      | (refine A_condt ?_ ?_; focus (simp only [evo, lk, lk1, lk2, Nat.reduceDiv, Nat.reduceMod]; done))
      | (refine A_condf ?_ ?_; focus (simp only [evo, lk, lk1, lk2, Nat.reduceDiv, Nat.reduceMod]; done))
      | (refine A_skip ?_; simp only [Thn, InB])
      | (refine A_exit ?_; simp only [Thn, InB, reduceIte, Nat.reduceEqDiff])
      | refine A_ret ?_)
  refine A_region (A_run ?_)
  simp only [go_sem, Nat.reduceLT, Nat.reduceLeDiff, Nat.reduceAdd, Nat.reduceSub, Nat.reduceMul, Nat.reduceEqDiff, Nat.reduceBEq, Nat.reduceBNe, Nat.reduceMod, Nat.reduceDiv, Int.reduceEq, Int.reduceNe, Int.reduceLT, Int.reduceLE, Int.reduceToNat, Int.reduceBEq, Int.reduceBNe, Int.reduceNeg, reduceIte, reduceCtorEq, reduceDIte, Value.oneCell']
  (refine A_call (g4) rfl rfl rfl rfl (by first | assumption | simp only [go_sem]) rfl (by first | rfl | simp only [noNames, namesAll, AV.names, names_ds, go_sem, List.append_nil, List.cons_append, List.nil_append, Bool.and_self]) ?_; rintro r rfl; refine ⟨(by first | rfl | simp only [noName, namesAll, AV.names, names_ds, go_sem, Bool.and_self]), A_run ?_⟩; simp only [go_sem, Nat.reduceLT, Nat.reduceLeDiff, Nat.reduceAdd, Nat.reduceSub, Nat.reduceMul, Nat.reduceEqDiff, Nat.reduceBEq, Nat.reduceBNe, Nat.reduceMod, Nat.reduceDiv, Int.reduceEq, Int.reduceNe, Int.reduceLT, Int.reduceLE, Int.reduceToNat, Int.reduceBEq, Int.reduceBNe, Int.reduceNeg, reduceIte, reduceCtorEq, reduceDIte, Value.oneCell', tg, lg, over])
  refine A_nil ?_
  simp only [Thn, InB]
  repeat (first
      | refine A_seq ?_
      | refine A_block ?_
      | (refine A_region (A_run ?_); simp only [go_sem, Nat.reduceLT, Nat.reduceLeDiff, Nat.reduceAdd, Nat.reduceSub, Nat.reduceMul, Nat.reduceEqDiff, Nat.reduceBEq, Nat.reduceBNe, Nat.reduceMod, Nat.reduceDiv, Int.reduceEq, Int.reduceNe, Int.reduceLT, Int.reduceLE, Int.reduceToNat, Int.reduceBEq, Int.reduceBNe, Int.reduceNeg, reduceIte, reduceCtorEq, reduceDIte, Value.oneCell']; refine A_nil ?_; simp only [Thn, InB])
      | (refine A_condt ?_ ?_; focus (simp only [evo, lk, lk1, lk2, Nat.reduceDiv, Nat.reduceMod]; done))
      | (refine A_condf ?_ ?_; focus (simp only [evo, lk, lk1, lk2, Nat.reduceDiv, Nat.reduceMod]; done))
      | (refine A_skip ?_; simp only [Thn, InB])
      | (refine A_exit ?_; simp only [Thn, InB, reduceIte, Nat.reduceEqDiff])
      | refine A_ret ?_)
  refine A_region (A_run ?_)
  simp only [go_sem, Nat.reduceLT, Nat.reduceLeDiff, Nat.reduceAdd, Nat.reduceSub, Nat.reduceMul, Nat.reduceEqDiff, Nat.reduceBEq, Nat.reduceBNe, Nat.reduceMod, Nat.reduceDiv, Int.reduceEq, Int.reduceNe, Int.reduceLT, Int.reduceLE, Int.reduceToNat, Int.reduceBEq, Int.reduceBNe, Int.reduceNeg, reduceIte, reduceCtorEq, reduceDIte, Value.oneCell']
  (refine A_call (g5) rfl rfl rfl rfl (by first | assumption | simp only [go_sem]) rfl (by first | rfl | simp only [noNames, namesAll, AV.names, names_ds, go_sem, List.append_nil, List.cons_append, List.nil_append, Bool.and_self]) ?_; rintro r rfl; refine ⟨(by first | rfl | simp only [noName, namesAll, AV.names, names_ds, go_sem, Bool.and_self]), A_run ?_⟩; simp only [go_sem, Nat.reduceLT, Nat.reduceLeDiff, Nat.reduceAdd, Nat.reduceSub, Nat.reduceMul, Nat.reduceEqDiff, Nat.reduceBEq, Nat.reduceBNe, Nat.reduceMod, Nat.reduceDiv, Int.reduceEq, Int.reduceNe, Int.reduceLT, Int.reduceLE, Int.reduceToNat, Int.reduceBEq, Int.reduceBNe, Int.reduceNeg, reduceIte, reduceCtorEq, reduceDIte, Value.oneCell', tg, lg, over])
  refine A_nil ?_
  simp only [Thn, InB]
  repeat (first
      | refine A_seq ?_
      | refine A_block ?_
      | (refine A_region (A_run ?_); simp only [go_sem, Nat.reduceLT, Nat.reduceLeDiff, Nat.reduceAdd, Nat.reduceSub, Nat.reduceMul, Nat.reduceEqDiff, Nat.reduceBEq, Nat.reduceBNe, Nat.reduceMod, Nat.reduceDiv, Int.reduceEq, Int.reduceNe, Int.reduceLT, Int.reduceLE, Int.reduceToNat, Int.reduceBEq, Int.reduceBNe, Int.reduceNeg, reduceIte, reduceCtorEq, reduceDIte, Value.oneCell']; refine A_nil ?_; simp only [Thn, InB])
      | (refine A_condt ?_ ?_; focus (simp only [evo, lk, lk1, lk2, Nat.reduceDiv, Nat.reduceMod]; done))
      | (refine A_condf ?_ ?_; focus (simp only [evo, lk, lk1, lk2, Nat.reduceDiv, Nat.reduceMod]; done))
      | (refine A_skip ?_; simp only [Thn, InB])
      | (refine A_exit ?_; simp only [Thn, InB, reduceIte, Nat.reduceEqDiff])
      | refine A_ret ?_)
  (first | refine A_quietG (gs := [none, none, none, none, some (some 77, true), some (some 77, true), some (some 77, true), none, none, some (some 82, true), some (some 82, true), some (some 82, true), none, none, some (some 87, true), some (some 87, true), some (some 87, true), none, none, some (some 92, true), some (some 92, true), some (some 92, true), some (some 92, true), some (some 92, true), none, none]) mixedO (by kernel_rfl) (by kernel_rfl) rfl (aqg_run ?_) | refine A_calmG (gs := [none, none, none, none, some (some 77, true), some (some 77, true), some (some 77, true), none, none, some (some 82, true), some (some 82, true), some (some 82, true), none, none, some (some 87, true), some (some 87, true), some (some 87, true), none, none, some (some 92, true), some (some 92, true), some (some 92, true), some (some 92, true), some (some 92, true), none, none]) (by kernel_rfl) rfl (aqg_run ?_)); simp only [runG, stepG_n, stepG_s, opW, bsD, opV, mkOp, resE_ap, resA, go_sem, Nat.reduceLT, Nat.reduceLeDiff, Nat.reduceAdd, Nat.reduceSub, Nat.reduceMul, Nat.reduceEqDiff, Nat.reduceBEq, Nat.reduceBNe, Nat.reduceMod, Nat.reduceDiv, Int.reduceEq, Int.reduceNe, Int.reduceLT, Int.reduceLE, Int.reduceToNat, Int.reduceBEq, Int.reduceBNe, Int.reduceNeg, reduceIte, reduceCtorEq, reduceDIte, Value.oneCell', tg, lg]
  (try (refine aqg_nil ?_; (try simp only [Thn, InB])))
  (refine aqg_callg0 (fun _ => rsame_c gx) rfl rfl (fun _ => ?_) (by first | assumption | simp only [go_sem]) (by first | rfl | simp only [noNames, namesAll, AV.names, names_ds, go_sem, List.append_nil, List.cons_append, List.nil_append, Bool.and_self]) (by first | rfl | simp only [noName, namesAll, AV.names, names_ds, go_sem, Bool.and_self]) ?_; focus (constructor <;> simp only [go_sem, Nat.reduceLT, Nat.reduceLeDiff, Nat.reduceAdd, Nat.reduceSub, Nat.reduceMul, Nat.reduceEqDiff, Nat.reduceBEq, Nat.reduceBNe, Nat.reduceMod, Nat.reduceDiv, Int.reduceEq, Int.reduceNe, Int.reduceLT, Int.reduceLE, Int.reduceToNat, Int.reduceBEq, Int.reduceBNe, Int.reduceNeg, reduceIte, reduceCtorEq, reduceDIte, Value.oneCell', resE_ap, resA, tg, lg]))
  refine aqg_run ?_
  simp only [runG, stepG_n, stepG_s, opW, bsD, opV, mkOp, resE_ap, resA, go_sem, Nat.reduceLT, Nat.reduceLeDiff, Nat.reduceAdd, Nat.reduceSub, Nat.reduceMul, Nat.reduceEqDiff, Nat.reduceBEq, Nat.reduceBNe, Nat.reduceMod, Nat.reduceDiv, Int.reduceEq, Int.reduceNe, Int.reduceLT, Int.reduceLE, Int.reduceToNat, Int.reduceBEq, Int.reduceBNe, Int.reduceNeg, reduceIte, reduceCtorEq, reduceDIte, Value.oneCell', tg, lg]
  (refine aqg_callg0 (fun _ => rsame_c gx) rfl rfl (fun _ => ?_) (by first | assumption | simp only [go_sem]) (by first | rfl | simp only [noNames, namesAll, AV.names, names_ds, go_sem, List.append_nil, List.cons_append, List.nil_append, Bool.and_self]) (by first | rfl | simp only [noName, namesAll, AV.names, names_ds, go_sem, Bool.and_self]) ?_; focus (constructor <;> simp only [go_sem, Nat.reduceLT, Nat.reduceLeDiff, Nat.reduceAdd, Nat.reduceSub, Nat.reduceMul, Nat.reduceEqDiff, Nat.reduceBEq, Nat.reduceBNe, Nat.reduceMod, Nat.reduceDiv, Int.reduceEq, Int.reduceNe, Int.reduceLT, Int.reduceLE, Int.reduceToNat, Int.reduceBEq, Int.reduceBNe, Int.reduceNeg, reduceIte, reduceCtorEq, reduceDIte, Value.oneCell', resE_ap, resA, tg, lg]))
  refine aqg_run ?_
  simp only [runG, stepG_n, stepG_s, opW, bsD, opV, mkOp, resE_ap, resA, go_sem, Nat.reduceLT, Nat.reduceLeDiff, Nat.reduceAdd, Nat.reduceSub, Nat.reduceMul, Nat.reduceEqDiff, Nat.reduceBEq, Nat.reduceBNe, Nat.reduceMod, Nat.reduceDiv, Int.reduceEq, Int.reduceNe, Int.reduceLT, Int.reduceLE, Int.reduceToNat, Int.reduceBEq, Int.reduceBNe, Int.reduceNeg, reduceIte, reduceCtorEq, reduceDIte, Value.oneCell', tg, lg]
  have d2 := drop_c (W0 := W0) key m
  have d3 := rsameP_c (W0 := W0) (dropV key m)
  (refine aqg_callg0 (fun _ => d2) rfl rfl (fun _ => ?_) (by first | assumption | simp only [go_sem]) (by first | rfl | simp only [noNames, namesAll, AV.names, names_ds, go_sem, List.append_nil, List.cons_append, List.nil_append, Bool.and_self]) (by first | rfl | simp only [noName, namesAll, AV.names, names_ds, go_sem, Bool.and_self]) ?_; focus (constructor <;> simp only [go_sem, Nat.reduceLT, Nat.reduceLeDiff, Nat.reduceAdd, Nat.reduceSub, Nat.reduceMul, Nat.reduceEqDiff, Nat.reduceBEq, Nat.reduceBNe, Nat.reduceMod, Nat.reduceDiv, Int.reduceEq, Int.reduceNe, Int.reduceLT, Int.reduceLE, Int.reduceToNat, Int.reduceBEq, Int.reduceBNe, Int.reduceNeg, reduceIte, reduceCtorEq, reduceDIte, Value.oneCell', resE_ap, resA]))
  refine aqg_run ?_
  simp only [runG, stepG_n, stepG_s, opW, bsD, opV, mkOp, resE_ap, resA, go_sem, Nat.reduceLT, Nat.reduceLeDiff, Nat.reduceAdd, Nat.reduceSub, Nat.reduceMul, Nat.reduceEqDiff, Nat.reduceBEq, Nat.reduceBNe, Nat.reduceMod, Nat.reduceDiv, Int.reduceEq, Int.reduceNe, Int.reduceLT, Int.reduceLE, Int.reduceToNat, Int.reduceBEq, Int.reduceBNe, Int.reduceNeg, reduceIte, reduceCtorEq, reduceDIte, Value.oneCell', drop_put]
  (refine aqg_callg0 (fun _ => d3) rfl rfl (fun _ => ?_) (by first | assumption | simp only [go_sem]) (by first | rfl | simp only [noNames, namesAll, AV.names, names_ds, go_sem, List.append_nil, List.cons_append, List.nil_append, Bool.and_self]) (by first | rfl | simp only [noName, namesAll, AV.names, names_ds, go_sem, Bool.and_self]) ?_; focus (constructor <;> simp only [go_sem, Nat.reduceLT, Nat.reduceLeDiff, Nat.reduceAdd, Nat.reduceSub, Nat.reduceMul, Nat.reduceEqDiff, Nat.reduceBEq, Nat.reduceBNe, Nat.reduceMod, Nat.reduceDiv, Int.reduceEq, Int.reduceNe, Int.reduceLT, Int.reduceLE, Int.reduceToNat, Int.reduceBEq, Int.reduceBNe, Int.reduceNeg, reduceIte, reduceCtorEq, reduceDIte, Value.oneCell', resE_ap, resA]))
  (refine aqg_run ?_; simp only [runG, stepG_n, stepG_s, opW, bsD, opV, mkOp, resE_ap, resA, go_sem, Nat.reduceLT, Nat.reduceLeDiff, Nat.reduceAdd, Nat.reduceSub, Nat.reduceMul, Nat.reduceEqDiff, Nat.reduceBEq, Nat.reduceBNe, Nat.reduceMod, Nat.reduceDiv, Int.reduceEq, Int.reduceNe, Int.reduceLT, Int.reduceLE, Int.reduceToNat, Int.reduceBEq, Int.reduceBNe, Int.reduceNeg, reduceIte, reduceCtorEq, reduceDIte, Value.oneCell'])
  (try (refine aqg_nil ?_; (try simp only [Thn, InB])))
  repeat (first
      | refine A_seq ?_
      | refine A_block ?_
      | (refine A_region (A_run ?_); simp only [go_sem, Nat.reduceLT, Nat.reduceLeDiff, Nat.reduceAdd, Nat.reduceSub, Nat.reduceMul, Nat.reduceEqDiff, Nat.reduceBEq, Nat.reduceBNe, Nat.reduceMod, Nat.reduceDiv, Int.reduceEq, Int.reduceNe, Int.reduceLT, Int.reduceLE, Int.reduceToNat, Int.reduceBEq, Int.reduceBNe, Int.reduceNeg, reduceIte, reduceCtorEq, reduceDIte, Value.oneCell']; refine A_nil ?_; simp only [Thn, InB])
      | (refine A_condt ?_ ?_; focus (simp only [evo, lk, lk1, lk2, Nat.reduceDiv, Nat.reduceMod]; done))
      | (refine A_condf ?_ ?_; focus (simp only [evo, lk, lk1, lk2, Nat.reduceDiv, Nat.reduceMod]; done))
      | (refine A_skip ?_; simp only [Thn, InB])
      | (refine A_exit ?_; simp only [Thn, InB, reduceIte, Nat.reduceEqDiff])
      | refine A_ret ?_)
  exact ⟨_, rfl, _, _, fin_pure rfl (Le.refl _), rfl, rfl⟩
end Go.Proofs.YtbgfiflnfndckaaDoor.Lift

/- The lift: the reference's copies, Get, Put, Drop; Hash. No conditions but the room that one pair more takes. -/
set_option linter.unusedVariables false
set_option linter.unusedSimpArgs false
set_option maxHeartbeats 4000000
set_option maxRecDepth 100000
namespace Go.Proofs.YtbgfiflnfndckaaDoor.Lift
open Go Go.RowKit

/-- Pairs copied one by one. -/
theorem copyPairs_own {W0 : World} (m : List (ByteArray × V)) (ih : ∀ p ∈ m, APure Tryd.prog W0 62 [va p.2] (· = .ret (va p.2))) : ACalls Tryd.prog W0 27 [rP m] [] (fun r L' => r = .ret (.sl 0 8 0 m.length) ∧ L' = [.vec 8 112 (m.map pD)]) := by
  refine ACalls.known fun hk => ?_
  have hb47 := ab_rP (hk (rP m) (by simp))
  refine A_body Tryd.func27 rfl (by simp [Tryd.ntmps27]) ?_
  simp only [Tryd.ntmps27, Tryd.results27, mkEnv, List.length_cons, List.length_nil, rP]
  repeat (first
      | refine A_seq ?_
      | refine A_block ?_
      | (refine A_region (A_run ?_); simp only [go_sem, Nat.reduceLT, Nat.reduceLeDiff, Nat.reduceAdd, Nat.reduceSub, Nat.reduceMul, Nat.reduceEqDiff, Nat.reduceBEq, Nat.reduceBNe, Nat.reduceMod, Nat.reduceDiv, Int.reduceEq, Int.reduceNe, Int.reduceLT, Int.reduceLE, Int.reduceToNat, Int.reduceBEq, Int.reduceBNe, Int.reduceNeg, reduceIte, reduceCtorEq, reduceDIte, Value.oneCell']; refine A_nil ?_; simp only [Thn, InB])
      | (refine A_condt ?_ ?_; focus (simp only [evo, lk, lk1, lk2, Nat.reduceDiv, Nat.reduceMod]; done))
      | (refine A_condf ?_ ?_; focus (simp only [evo, lk, lk1, lk2, Nat.reduceDiv, Nat.reduceMod]; done))
      | (refine A_skip ?_; simp only [Thn, InB])
      | (refine A_exit ?_; simp only [Thn, InB, reduceIte, Nat.reduceEqDiff])
      | refine A_ret ?_)
  refine A_sub _ (Sb.opn (t := 3) (sz := 8) (bt := 112) rfl (by decide) (by decide)) ?_
  refine A_lp (σ := { i : Nat // i ≤ m.length }) (fun ξ => (fun i : Nat => (⟨23, ofL [(3, .sl 0 8 0 i), (6, .d (.rows 8 112 (m.map pD))), (7, .d (.v (.int .i64 m.length))), (8, .d (.v (.int .i64 (i : Nat))))], [.vec 8 112 ((m.take i).map pD)]⟩ : St)) ξ.1) (fun ξ => m.length - ξ.1) ⟨0, Nat.zero_le _⟩ ?_ ?_
  · (try simp only [List.take_zero, List.map_nil, List.flatten_nil, List.foldl_nil, Int.natCast_zero, Nat.cast_zero, Int.ofNat_zero]); ((try dsimp only); refine Sb.mk ?_ ?_ ?_ ?_ ?_ ?_; (focus rfl); (focus (repeat (first | exact eSub_nil _ | refine eSub_cons rfl ?_))); (focus exact ⟨_, rfl⟩); (focus (first | exact Nat.zero_le _ | exact Nat.le_refl _)); (focus (first | rfl | simp only [envBelow, List.all_cons, List.all_nil, namesAll, AV.names, names_ds, go_sem])); (focus (first | rfl | simp only [List.all_cons, List.all_nil, boxBelow, namesAll, AV.names, names_ds, go_sem])))
  rintro ⟨i, hi⟩ R hR
  try simp only
  repeat (first
      | refine A_seq ?_
      | refine A_block ?_
      | (refine A_region (A_run ?_); simp only [go_sem, Nat.reduceLT, Nat.reduceLeDiff, Nat.reduceAdd, Nat.reduceSub, Nat.reduceMul, Nat.reduceEqDiff, Nat.reduceBEq, Nat.reduceBNe, Nat.reduceMod, Nat.reduceDiv, Int.reduceEq, Int.reduceNe, Int.reduceLT, Int.reduceLE, Int.reduceToNat, Int.reduceBEq, Int.reduceBNe, Int.reduceNeg, reduceIte, reduceCtorEq, reduceDIte, Value.oneCell']; refine A_nil ?_; simp only [Thn, InB])
      | (refine A_condt ?_ ?_; focus (simp only [evo, lk, lk1, lk2, Nat.reduceDiv, Nat.reduceMod]; done))
      | (refine A_condf ?_ ?_; focus (simp only [evo, lk, lk1, lk2, Nat.reduceDiv, Nat.reduceMod]; done))
      | (refine A_skip ?_; simp only [Thn, InB])
      | (refine A_exit ?_; simp only [Thn, InB, reduceIte, Nat.reduceEqDiff])
      | refine A_ret ?_)
  refine A_cond rfl (fun h => ?_) (fun h => ?_)
  · have hlt : i < m.length := by simpa using h
    have hlt2 : ((i : Int) < ((m.length : Nat) : Int)) = True := eq_true (by omega)
    have hw := wrap_succ (i := i) (by omega)
    have hx : (m.map pD)[i]? = some (.v (.string m[i].1) :: vD m[i].2) := by rw [List.getElem?_map, List.getElem?_eq_getElem hlt]; rfl
    have lt : (m.take i).length = i := by simp; omega
    have lt2 : (m.take (i + 1)).length = i + 1 := by simp; omega
    have hs : (m.take i).map pD ++ [.v (.string m[i].1) :: vD m[i].2] = (m.take (i + 1)).map pD := by rw [List.take_succ_eq_append_getElem hlt, List.map_append]; rfl
    repeat (first
        | refine A_seq ?_
        | refine A_block ?_
        | (refine A_region (A_run ?_); simp only [go_sem, Nat.reduceLT, Nat.reduceLeDiff, Nat.reduceAdd, Nat.reduceSub, Nat.reduceMul, Nat.reduceEqDiff, Nat.reduceBEq, Nat.reduceBNe, Nat.reduceMod, Nat.reduceDiv, Int.reduceEq, Int.reduceNe, Int.reduceLT, Int.reduceLE, Int.reduceToNat, Int.reduceBEq, Int.reduceBNe, Int.reduceNeg, reduceIte, reduceCtorEq, reduceDIte, Value.oneCell', hx, hlt2, over]; refine A_nil ?_; simp only [Thn, InB])
        | (refine A_condt ?_ ?_; focus (simp only [evo, lk, lk1, lk2, Nat.reduceDiv, Nat.reduceMod]; done))
        | (refine A_condf ?_ ?_; focus (simp only [evo, lk, lk1, lk2, Nat.reduceDiv, Nat.reduceMod]; done))
        | (refine A_skip ?_; simp only [Thn, InB])
        | (refine A_exit ?_; simp only [Thn, InB, reduceIte, Nat.reduceEqDiff])
        | refine A_ret ?_)
    refine A_drawn (gs := [none, none, none, none, none, none, none, none]) 8 [] mixedO (by simp only [List.take_succ_cons, List.take_zero] <;> rfl) (by kernel_rfl) (by kernel_rfl) rfl (by decide) (aqg_run ?_)
    simp only [runG, stepG_n, stepG_s, opW, bsD, opV, mkOp, resE_ap, resA, go_sem, Nat.reduceLT, Nat.reduceLeDiff, Nat.reduceAdd, Nat.reduceSub, Nat.reduceMul, Nat.reduceEqDiff, Nat.reduceBEq, Nat.reduceBNe, Nat.reduceMod, Nat.reduceDiv, Int.reduceEq, Int.reduceNe, Int.reduceLT, Int.reduceLE, Int.reduceToNat, Int.reduceBEq, Int.reduceBNe, Int.reduceNeg, reduceIte, reduceCtorEq, reduceDIte, Value.oneCell', hx, hlt2, over]
    (try (refine aqg_nil ?_))
    (refine aqg_call (caps := []) (ih m[i] (List.getElem_mem hlt)) rfl rfl rfl (by first | assumption | simp only [go_sem]) (by first | rfl | simp only [noNames, namesAll, AV.names, names_ds, go_sem, List.append_nil, List.cons_append, List.nil_append, Bool.and_self]) (by first | rfl | simp only [noName, namesAll, AV.names, names_ds, go_sem, Bool.and_self]) ?_)
    (refine aqg_run ?_; simp only [runG, stepG_n, stepG_s, opW, bsD, opV, mkOp, resE_ap, resA, go_sem, Nat.reduceLT, Nat.reduceLeDiff, Nat.reduceAdd, Nat.reduceSub, Nat.reduceMul, Nat.reduceEqDiff, Nat.reduceBEq, Nat.reduceBNe, Nat.reduceMod, Nat.reduceDiv, Int.reduceEq, Int.reduceNe, Int.reduceLT, Int.reduceLE, Int.reduceToNat, Int.reduceBEq, Int.reduceBNe, Int.reduceNeg, reduceIte, reduceCtorEq, reduceDIte, Value.oneCell', hx, hlt2, over])
    (try (refine aqg_nil ?_; (try simp only [Thn, InB])))
    refine T_one 8 _ (by kernel_rfl) (by simp only [List.getElem?_toArray, List.getElem?_cons_succ, List.getElem?_cons_zero] <;> rfl) (by rfl) (by rfl) (?_)
    refine A_append (b := 0) (sz := 8) (bt := 112) (l := (m.take i).map pD) (l2 := [.v (.string m[i].1) :: vD m[i].2]) rfl rfl (by simp only [go_sem] <;> rfl) (by simp only [go_sem] <;> rfl) (by simp only [go_sem] <;> rfl) (by simp only [go_sem] <;> rfl) (by rfl) rfl (by first | rfl | (simp; done) | (simp; omega)) rfl rfl (by simp [apR, lt2, hs]) rfl (by simp only [List.length_map, lt, List.length_cons, List.length_nil]; omega) ?_
    simp only [killE, mapE, killA, killB, killL, List.length_append, go_sem, Nat.reduceLT, Nat.reduceLeDiff, Nat.reduceAdd, Nat.reduceSub, Nat.reduceMul, Nat.reduceEqDiff, Nat.reduceBEq, Nat.reduceBNe, Nat.reduceMod, Nat.reduceDiv, Int.reduceEq, Int.reduceNe, Int.reduceLT, Int.reduceLE, Int.reduceToNat, Int.reduceBEq, Int.reduceBNe, Int.reduceNeg, reduceIte, reduceCtorEq, reduceDIte, Value.oneCell', lt2, hs]
    refine A_nil ?_
    refine ⟨rfl, rfl, ?_⟩
    refine T_one 9 _ (by kernel_rfl) (by simp only [List.getElem?_toArray, List.getElem?_cons_succ, List.getElem?_cons_zero] <;> rfl) (by rfl) (by rfl) (A_run ?_)
    simp only [go_sem, Nat.reduceLT, Nat.reduceLeDiff, Nat.reduceAdd, Nat.reduceSub, Nat.reduceMul, Nat.reduceEqDiff, Nat.reduceBEq, Nat.reduceBNe, Nat.reduceMod, Nat.reduceDiv, Int.reduceEq, Int.reduceNe, Int.reduceLT, Int.reduceLE, Int.reduceToNat, Int.reduceBEq, Int.reduceBNe, Int.reduceNeg, reduceIte, reduceCtorEq, reduceDIte, Value.oneCell', lt2, hs]
    refine A_nil ?_
    refine ⟨rfl, rfl, ?_⟩
    refine T_nil (by kernel_rfl) ?_
    simp only [Thn, InB]
    repeat (first
        | refine A_seq ?_
        | refine A_block ?_
        | (refine A_region (A_run ?_); simp only [go_sem, Nat.reduceLT, Nat.reduceLeDiff, Nat.reduceAdd, Nat.reduceSub, Nat.reduceMul, Nat.reduceEqDiff, Nat.reduceBEq, Nat.reduceBNe, Nat.reduceMod, Nat.reduceDiv, Int.reduceEq, Int.reduceNe, Int.reduceLT, Int.reduceLE, Int.reduceToNat, Int.reduceBEq, Int.reduceBNe, Int.reduceNeg, reduceIte, reduceCtorEq, reduceDIte, Value.oneCell', hw]; refine A_nil ?_; simp only [Thn, InB])
        | (refine A_condt ?_ ?_; focus (simp only [evo, lk, lk1, lk2, Nat.reduceDiv, Nat.reduceMod]; done))
        | (refine A_condf ?_ ?_; focus (simp only [evo, lk, lk1, lk2, Nat.reduceDiv, Nat.reduceMod]; done))
        | (refine A_skip ?_; simp only [Thn, InB])
        | (refine A_exit ?_; simp only [Thn, InB, reduceIte, Nat.reduceEqDiff])
        | refine A_ret ?_)
    refine hR _ ⟨⟨i + 1, by omega⟩, by simp only; omega, ?_⟩
    (try simp only); ((try dsimp only); refine Sb.mk ?_ ?_ ?_ ?_ ?_ ?_; (focus rfl); (focus (repeat (first | exact eSub_nil _ | refine eSub_cons rfl ?_))); (focus exact ⟨_, rfl⟩); (focus (first | exact Nat.zero_le _ | exact Nat.le_refl _)); (focus (first | rfl | simp only [envBelow, List.all_cons, List.all_nil, namesAll, AV.names, names_ds, go_sem])); (focus (first | rfl | simp only [List.all_cons, List.all_nil, boxBelow, namesAll, AV.names, names_ds, go_sem])))
  · have hge : i = m.length := by simp at h; omega
    subst hge
    simp only [List.take_length]
    repeat (first
        | refine A_seq ?_
        | refine A_block ?_
        | (refine A_region (A_run ?_); simp only [go_sem, Nat.reduceLT, Nat.reduceLeDiff, Nat.reduceAdd, Nat.reduceSub, Nat.reduceMul, Nat.reduceEqDiff, Nat.reduceBEq, Nat.reduceBNe, Nat.reduceMod, Nat.reduceDiv, Int.reduceEq, Int.reduceNe, Int.reduceLT, Int.reduceLE, Int.reduceToNat, Int.reduceBEq, Int.reduceBNe, Int.reduceNeg, reduceIte, reduceCtorEq, reduceDIte, Value.oneCell']; refine A_nil ?_; simp only [Thn, InB])
        | (refine A_condt ?_ ?_; focus (simp only [evo, lk, lk1, lk2, Nat.reduceDiv, Nat.reduceMod]; done))
        | (refine A_condf ?_ ?_; focus (simp only [evo, lk, lk1, lk2, Nat.reduceDiv, Nat.reduceMod]; done))
        | (refine A_skip ?_; simp only [Thn, InB])
        | (refine A_exit ?_; simp only [Thn, InB, reduceIte, Nat.reduceEqDiff])
        | refine A_ret ?_)
    exact ⟨_, rfl, _, _, fin_own _ rfl rfl, rfl, rfl⟩
theorem copyPairs_of {W0 : World} (m : List (ByteArray × V)) (ih : ∀ p ∈ m, APure Tryd.prog W0 62 [va p.2] (· = .ret (va p.2))) : APure Tryd.prog W0 27 [rP m] (· = .ret (rP m)) := (copyPairs_own m ih).frozen (List.length_map ..).symm
theorem copy_c {W0 : World} : ∀ x : V, APure Tryd.prog W0 62 [va x] (· = .ret (va x)) := by
  intro x
  refine V.ind (p := fun x => APure Tryd.prog W0 62 [va x] (· = .ret (va x))) ?_ x
  intro k s b n f l m hl hm
  refine APure.known fun hk => ?_
  obtain ⟨hb1, hb2⟩ := ab_va (hk (va (.mk k s b n f l m)) (by simp))
  refine A_body Tryd.func62 rfl (by simp [Tryd.ntmps62]) ?_
  simp only [Tryd.ntmps62, Tryd.results62, mkEnv, List.length_cons, List.length_nil, va, vD, vDs_map, pDs_map, List.map_cons, List.map_nil]
  repeat (first
      | refine A_seq ?_
      | refine A_block ?_
      | (refine A_region (A_run ?_); simp only [go_sem, Nat.reduceLT, Nat.reduceLeDiff, Nat.reduceAdd, Nat.reduceSub, Nat.reduceMul, Nat.reduceEqDiff, Nat.reduceBEq, Nat.reduceBNe, Nat.reduceMod, Nat.reduceDiv, Int.reduceEq, Int.reduceNe, Int.reduceLT, Int.reduceLE, Int.reduceToNat, Int.reduceBEq, Int.reduceBNe, Int.reduceNeg, reduceIte, reduceCtorEq, reduceDIte, Value.oneCell']; refine A_nil ?_; simp only [Thn, InB])
      | (refine A_condt ?_ ?_; focus (simp only [evo, lk, lk1, lk2, Nat.reduceDiv, Nat.reduceMod]; done))
      | (refine A_condf ?_ ?_; focus (simp only [evo, lk, lk1, lk2, Nat.reduceDiv, Nat.reduceMod]; done))
      | (refine A_skip ?_; simp only [Thn, InB])
      | (refine A_exit ?_; simp only [Thn, InB, reduceIte, Nat.reduceEqDiff])
      | refine A_ret ?_)
  refine A_sub _ (Sb.opnC (b := 2) (j := 5) (sz := 7) (bt := 96) rfl rfl (by decide) (by decide)) ?_
  simp only [go_sem, Nat.reduceLT, Nat.reduceLeDiff, Nat.reduceAdd, Nat.reduceSub, Nat.reduceMul, Nat.reduceEqDiff, Nat.reduceBEq, Nat.reduceBNe, Nat.reduceMod, Nat.reduceDiv, Int.reduceEq, Int.reduceNe, Int.reduceLT, Int.reduceLE, Int.reduceToNat, Int.reduceBEq, Int.reduceBNe, Int.reduceNeg, reduceIte, reduceCtorEq, reduceDIte, Value.oneCell']
  refine A_lp (σ := { i : Nat // i ≤ l.length }) (fun ξ => (fun i : Nat => (⟨28, ofL [(1, .ptr 0 0), (2, .ptr 1 0), (3, .ptr 2 0), (9, .d (.rows 7 96 (l.map vD))), (10, .d (.v (.int .i64 l.length))), (11, .d (.v (.int .i64 (i : Nat))))], [.var [.d (.v (.int .u8 k)), .d (.v (.string s)), .d (.v (.bool b)), .d (.v (.int .i64 n)), .d (.v (.float .f64 f)), .d (.rows 7 96 (l.map vD)), .d (.rows 8 112 (m.map pD))], .var [.d (.v (.int .u8 0)), .d (.v (.string ByteArray.empty)), .d (.v (.bool false)), .d (.v (.int .i64 0)), .d (.v (.float .f64 0)), .d .e, .d .e], .var [.d (.v (.int .u8 k)), .d (.v (.string s)), .d (.v (.bool b)), .d (.v (.int .i64 n)), .d (.v (.float .f64 f)), .sl 3 7 0 i, .d (.rows 8 112 (m.map pD))], .vec 7 96 ((l.take i).map vD)]⟩ : St)) ξ.1) (fun ξ => l.length - ξ.1) ⟨0, Nat.zero_le _⟩ ?_ ?_
  · (try simp only [List.take_zero, List.map_nil, List.flatten_nil, List.foldl_nil, Int.natCast_zero, Nat.cast_zero, Int.ofNat_zero]); ((try dsimp only); refine Sb.mk ?_ ?_ ?_ ?_ ?_ ?_; (focus rfl); (focus (repeat (first | exact eSub_nil _ | refine eSub_cons rfl ?_))); (focus exact ⟨_, rfl⟩); (focus (first | exact Nat.zero_le _ | exact Nat.le_refl _)); (focus (first | rfl | simp only [envBelow, List.all_cons, List.all_nil, namesAll, AV.names, names_ds, go_sem])); (focus (first | rfl | simp only [List.all_cons, List.all_nil, boxBelow, namesAll, AV.names, names_ds, go_sem])))
  rintro ⟨i, hi⟩ R hR
  try simp only
  repeat (first
      | refine A_seq ?_
      | refine A_block ?_
      | (refine A_region (A_run ?_); simp only [go_sem, Nat.reduceLT, Nat.reduceLeDiff, Nat.reduceAdd, Nat.reduceSub, Nat.reduceMul, Nat.reduceEqDiff, Nat.reduceBEq, Nat.reduceBNe, Nat.reduceMod, Nat.reduceDiv, Int.reduceEq, Int.reduceNe, Int.reduceLT, Int.reduceLE, Int.reduceToNat, Int.reduceBEq, Int.reduceBNe, Int.reduceNeg, reduceIte, reduceCtorEq, reduceDIte, Value.oneCell']; refine A_nil ?_; simp only [Thn, InB])
      | (refine A_condt ?_ ?_; focus (simp only [evo, lk, lk1, lk2, Nat.reduceDiv, Nat.reduceMod]; done))
      | (refine A_condf ?_ ?_; focus (simp only [evo, lk, lk1, lk2, Nat.reduceDiv, Nat.reduceMod]; done))
      | (refine A_skip ?_; simp only [Thn, InB])
      | (refine A_exit ?_; simp only [Thn, InB, reduceIte, Nat.reduceEqDiff])
      | refine A_ret ?_)
  refine A_cond rfl (fun h => ?_) (fun h => ?_)
  · have hlt : i < l.length := by simpa using h
    have hlt2 : ((i : Int) < ((l.length : Nat) : Int)) = True := eq_true (by omega)
    have hw := wrap_succ (i := i) (by omega)
    have hx : (l.map vD)[i]? = some (vD l[i]) := by rw [List.getElem?_map, List.getElem?_eq_getElem hlt]; rfl
    have lt : (l.take i).length = i := by simp; omega
    have lt2 : (l.take (i + 1)).length = i + 1 := by simp; omega
    have hs : (l.take i).map vD ++ [vD l[i]] = (l.take (i + 1)).map vD := by rw [List.take_succ_eq_append_getElem hlt, List.map_append]; rfl
    repeat (first
        | refine A_seq ?_
        | refine A_block ?_
        | (refine A_region (A_run ?_); simp only [go_sem, Nat.reduceLT, Nat.reduceLeDiff, Nat.reduceAdd, Nat.reduceSub, Nat.reduceMul, Nat.reduceEqDiff, Nat.reduceBEq, Nat.reduceBNe, Nat.reduceMod, Nat.reduceDiv, Int.reduceEq, Int.reduceNe, Int.reduceLT, Int.reduceLE, Int.reduceToNat, Int.reduceBEq, Int.reduceBNe, Int.reduceNeg, reduceIte, reduceCtorEq, reduceDIte, Value.oneCell', hx, hlt2, over]; refine A_nil ?_; simp only [Thn, InB])
        | (refine A_condt ?_ ?_; focus (simp only [evo, lk, lk1, lk2, Nat.reduceDiv, Nat.reduceMod]; done))
        | (refine A_condf ?_ ?_; focus (simp only [evo, lk, lk1, lk2, Nat.reduceDiv, Nat.reduceMod]; done))
        | (refine A_skip ?_; simp only [Thn, InB])
        | (refine A_exit ?_; simp only [Thn, InB, reduceIte, Nat.reduceEqDiff])
        | refine A_ret ?_)
    refine A_drawn (gs := [none, none, none, none, none]) 5 [] mixedO (by simp only [List.take_succ_cons, List.take_zero] <;> rfl) (by kernel_rfl) (by kernel_rfl) rfl (by decide) (aqg_run ?_)
    simp only [runG, stepG_n, stepG_s, opW, bsD, opV, mkOp, resE_ap, resA, go_sem, Nat.reduceLT, Nat.reduceLeDiff, Nat.reduceAdd, Nat.reduceSub, Nat.reduceMul, Nat.reduceEqDiff, Nat.reduceBEq, Nat.reduceBNe, Nat.reduceMod, Nat.reduceDiv, Int.reduceEq, Int.reduceNe, Int.reduceLT, Int.reduceLE, Int.reduceToNat, Int.reduceBEq, Int.reduceBNe, Int.reduceNeg, reduceIte, reduceCtorEq, reduceDIte, Value.oneCell', hx, hlt2, over]
    (try (refine aqg_nil ?_))
    (refine aqg_call (caps := []) (hl l[i] (List.getElem_mem hlt)) rfl rfl rfl (by first | assumption | simp only [go_sem]) (by first | rfl | simp only [noNames, namesAll, AV.names, names_ds, go_sem, List.append_nil, List.cons_append, List.nil_append, Bool.and_self]) (by first | rfl | simp only [noName, namesAll, AV.names, names_ds, go_sem, Bool.and_self]) ?_)
    (refine aqg_run ?_; simp only [runG, stepG_n, stepG_s, opW, bsD, opV, mkOp, resE_ap, resA, go_sem, Nat.reduceLT, Nat.reduceLeDiff, Nat.reduceAdd, Nat.reduceSub, Nat.reduceMul, Nat.reduceEqDiff, Nat.reduceBEq, Nat.reduceBNe, Nat.reduceMod, Nat.reduceDiv, Int.reduceEq, Int.reduceNe, Int.reduceLT, Int.reduceLE, Int.reduceToNat, Int.reduceBEq, Int.reduceBNe, Int.reduceNeg, reduceIte, reduceCtorEq, reduceDIte, Value.oneCell', hx, hlt2, over])
    (try (refine aqg_nil ?_; (try simp only [Thn, InB])))
    refine T_one 5 _ (by kernel_rfl) (by simp only [List.getElem?_toArray, List.getElem?_cons_succ, List.getElem?_cons_zero] <;> rfl) (by rfl) (by rfl) (?_)
    refine A_append (b := 3) (sz := 7) (bt := 96) (l := (l.take i).map vD) (l2 := [vD l[i]]) rfl rfl (by simp only [go_sem] <;> rfl) (by simp only [go_sem] <;> rfl) (by simp only [go_sem] <;> rfl) (by simp only [go_sem] <;> rfl) (by rfl) rfl (by first | rfl | (simp; done) | (simp; omega)) rfl rfl (by simp [apR, lt2, hs, killA]) rfl (by simp only [List.length_map, lt, List.length_cons, List.length_nil]; omega) ?_
    simp only [killE, mapE, killA, killB, killL, List.length_append, go_sem, Nat.reduceLT, Nat.reduceLeDiff, Nat.reduceAdd, Nat.reduceSub, Nat.reduceMul, Nat.reduceEqDiff, Nat.reduceBEq, Nat.reduceBNe, Nat.reduceMod, Nat.reduceDiv, Int.reduceEq, Int.reduceNe, Int.reduceLT, Int.reduceLE, Int.reduceToNat, Int.reduceBEq, Int.reduceBNe, Int.reduceNeg, reduceIte, reduceCtorEq, reduceDIte, Value.oneCell', lt2, hs, killA]
    refine A_nil ?_
    refine ⟨rfl, rfl, ?_⟩
    refine T_one 6 _ (by kernel_rfl) (by simp only [List.getElem?_toArray, List.getElem?_cons_succ, List.getElem?_cons_zero] <;> rfl) (by rfl) (by rfl) (A_run ?_)
    simp only [go_sem, Nat.reduceLT, Nat.reduceLeDiff, Nat.reduceAdd, Nat.reduceSub, Nat.reduceMul, Nat.reduceEqDiff, Nat.reduceBEq, Nat.reduceBNe, Nat.reduceMod, Nat.reduceDiv, Int.reduceEq, Int.reduceNe, Int.reduceLT, Int.reduceLE, Int.reduceToNat, Int.reduceBEq, Int.reduceBNe, Int.reduceNeg, reduceIte, reduceCtorEq, reduceDIte, Value.oneCell', lt2, hs]
    refine A_nil ?_
    refine ⟨rfl, rfl, ?_⟩
    refine T_one 7 _ (by kernel_rfl) (by simp only [List.getElem?_toArray, List.getElem?_cons_succ, List.getElem?_cons_zero] <;> rfl) (by rfl) (by rfl) (A_run ?_)
    simp only [go_sem, Nat.reduceLT, Nat.reduceLeDiff, Nat.reduceAdd, Nat.reduceSub, Nat.reduceMul, Nat.reduceEqDiff, Nat.reduceBEq, Nat.reduceBNe, Nat.reduceMod, Nat.reduceDiv, Int.reduceEq, Int.reduceNe, Int.reduceLT, Int.reduceLE, Int.reduceToNat, Int.reduceBEq, Int.reduceBNe, Int.reduceNeg, reduceIte, reduceCtorEq, reduceDIte, Value.oneCell', lt2, hs, over]
    refine A_nil ?_
    refine ⟨rfl, rfl, ?_⟩
    refine T_nil (by kernel_rfl) ?_
    simp only [Thn, InB]
    repeat (first
        | refine A_seq ?_
        | refine A_block ?_
        | (refine A_region (A_run ?_); simp only [go_sem, Nat.reduceLT, Nat.reduceLeDiff, Nat.reduceAdd, Nat.reduceSub, Nat.reduceMul, Nat.reduceEqDiff, Nat.reduceBEq, Nat.reduceBNe, Nat.reduceMod, Nat.reduceDiv, Int.reduceEq, Int.reduceNe, Int.reduceLT, Int.reduceLE, Int.reduceToNat, Int.reduceBEq, Int.reduceBNe, Int.reduceNeg, reduceIte, reduceCtorEq, reduceDIte, Value.oneCell', hw]; refine A_nil ?_; simp only [Thn, InB])
        | (refine A_condt ?_ ?_; focus (simp only [evo, lk, lk1, lk2, Nat.reduceDiv, Nat.reduceMod]; done))
        | (refine A_condf ?_ ?_; focus (simp only [evo, lk, lk1, lk2, Nat.reduceDiv, Nat.reduceMod]; done))
        | (refine A_skip ?_; simp only [Thn, InB])
        | (refine A_exit ?_; simp only [Thn, InB, reduceIte, Nat.reduceEqDiff])
        | refine A_ret ?_)
    refine hR _ ⟨⟨i + 1, by omega⟩, by simp only; omega, ?_⟩
    (try simp only); ((try dsimp only); refine Sb.mk ?_ ?_ ?_ ?_ ?_ ?_; (focus rfl); (focus (repeat (first | exact eSub_nil _ | refine eSub_cons rfl ?_))); (focus exact ⟨_, rfl⟩); (focus (first | exact Nat.zero_le _ | exact Nat.le_refl _)); (focus (first | rfl | simp only [envBelow, List.all_cons, List.all_nil, namesAll, AV.names, names_ds, go_sem])); (focus (first | rfl | simp only [List.all_cons, List.all_nil, boxBelow, namesAll, AV.names, names_ds, go_sem])))
  · have hge : i = l.length := by simp at h; omega
    subst hge
    refine A_sub _ (Sb.freeze 3 rfl (Nat.zero_le _)) ?_
    simp only [fzE, mapE, fzA, fzL, fzB, go_sem, Nat.reduceLT, Nat.reduceLeDiff, Nat.reduceAdd, Nat.reduceSub, Nat.reduceMul, Nat.reduceEqDiff, Nat.reduceBEq, Nat.reduceBNe, Nat.reduceMod, Nat.reduceDiv, Int.reduceEq, Int.reduceNe, Int.reduceLT, Int.reduceLE, Int.reduceToNat, Int.reduceBEq, Int.reduceBNe, Int.reduceNeg, reduceIte, reduceCtorEq, reduceDIte, Value.oneCell']
    repeat (first
        | refine A_seq ?_
        | refine A_block ?_
        | (refine A_region (A_run ?_); simp only [go_sem, Nat.reduceLT, Nat.reduceLeDiff, Nat.reduceAdd, Nat.reduceSub, Nat.reduceMul, Nat.reduceEqDiff, Nat.reduceBEq, Nat.reduceBNe, Nat.reduceMod, Nat.reduceDiv, Int.reduceEq, Int.reduceNe, Int.reduceLT, Int.reduceLE, Int.reduceToNat, Int.reduceBEq, Int.reduceBNe, Int.reduceNeg, reduceIte, reduceCtorEq, reduceDIte, Value.oneCell']; refine A_nil ?_; simp only [Thn, InB])
        | (refine A_condt ?_ ?_; focus (simp only [evo, lk, lk1, lk2, Nat.reduceDiv, Nat.reduceMod]; done))
        | (refine A_condf ?_ ?_; focus (simp only [evo, lk, lk1, lk2, Nat.reduceDiv, Nat.reduceMod]; done))
        | (refine A_skip ?_; simp only [Thn, InB])
        | (refine A_exit ?_; simp only [Thn, InB, reduceIte, Nat.reduceEqDiff])
        | refine A_ret ?_)
    (repeat (first | refine A_seq ?_ | refine A_block ?_))
    refine A_region (A_run ?_)
    simp only [go_sem, Nat.reduceLT, Nat.reduceLeDiff, Nat.reduceAdd, Nat.reduceSub, Nat.reduceMul, Nat.reduceEqDiff, Nat.reduceBEq, Nat.reduceBNe, Nat.reduceMod, Nat.reduceDiv, Int.reduceEq, Int.reduceNe, Int.reduceLT, Int.reduceLE, Int.reduceToNat, Int.reduceBEq, Int.reduceBNe, Int.reduceNeg, reduceIte, reduceCtorEq, reduceDIte, Value.oneCell', over]
    (refine A_call (copyPairs_of m hm) rfl rfl rfl rfl (by first | assumption | simp only [go_sem]) rfl (by first | rfl | simp only [noNames, namesAll, AV.names, names_ds, go_sem, List.append_nil, List.cons_append, List.nil_append, Bool.and_self]) ?_; rintro r rfl; refine ⟨(by first | rfl | simp only [noName, namesAll, AV.names, names_ds, go_sem, Bool.and_self]), A_run ?_⟩; simp only [go_sem, Nat.reduceLT, Nat.reduceLeDiff, Nat.reduceAdd, Nat.reduceSub, Nat.reduceMul, Nat.reduceEqDiff, Nat.reduceBEq, Nat.reduceBNe, Nat.reduceMod, Nat.reduceDiv, Int.reduceEq, Int.reduceNe, Int.reduceLT, Int.reduceLE, Int.reduceToNat, Int.reduceBEq, Int.reduceBNe, Int.reduceNeg, reduceIte, reduceCtorEq, reduceDIte, Value.oneCell', over])
    refine A_nil ?_
    simp only [Thn, InB]
    repeat (first
        | refine A_seq ?_
        | refine A_block ?_
        | (refine A_region (A_run ?_); simp only [go_sem, Nat.reduceLT, Nat.reduceLeDiff, Nat.reduceAdd, Nat.reduceSub, Nat.reduceMul, Nat.reduceEqDiff, Nat.reduceBEq, Nat.reduceBNe, Nat.reduceMod, Nat.reduceDiv, Int.reduceEq, Int.reduceNe, Int.reduceLT, Int.reduceLE, Int.reduceToNat, Int.reduceBEq, Int.reduceBNe, Int.reduceNeg, reduceIte, reduceCtorEq, reduceDIte, Value.oneCell', over]; refine A_nil ?_; simp only [Thn, InB])
        | (refine A_condt ?_ ?_; focus (simp only [evo, lk, lk1, lk2, Nat.reduceDiv, Nat.reduceMod]; done))
        | (refine A_condf ?_ ?_; focus (simp only [evo, lk, lk1, lk2, Nat.reduceDiv, Nat.reduceMod]; done))
        | (refine A_skip ?_; simp only [Thn, InB])
        | (refine A_exit ?_; simp only [Thn, InB, reduceIte, Nat.reduceEqDiff])
        | refine A_ret ?_)
    exact ⟨_, rfl, _, _, fin_pure rfl (Le.refl _), rfl, rfl⟩
theorem copyPairs_c {W0 : World} (m : List (ByteArray × V)) : APure Tryd.prog W0 27 [rP m] (· = .ret (rP m)) := copyPairs_of m fun p _ => copy_c p.2
theorem tup_V0 {b : Bool} : Le (.tup [.agg [.d (.v (.int .u8 0)), .d (.v (.string ByteArray.empty)), .d (.v (.bool false)), .d (.v (.int .i64 0)), .d (.v (.float .f64 0)), .d .e, .d .e], .d (.v (.bool b))]) (.tup [va V0, .d (.v (.bool b))]) :=
  Le.tup (LeL.cons va0_le (LeL.refl _))
theorem rget_c {W0 : World} (key : ByteArray) (m : List (ByteArray × V)) : APure Tryd.prog W0 30 [rP m, .d (.v (.string key))] (· = .ret (.tup [va (getV key m).1, .d (.v (.bool (getV key m).2))])) := by
  refine APure.known fun hk => ?_
  have hb47 := ab_rP (hk (rP m) (by simp))
  refine A_body Tryd.func30 rfl (by simp [Tryd.ntmps30]) ?_
  simp only [Tryd.ntmps30, Tryd.results30, mkEnv, List.length_cons, List.length_nil, rP]
  repeat (first
      | refine A_seq ?_
      | refine A_block ?_
      | (refine A_region (A_run ?_); simp only [go_sem, Nat.reduceLT, Nat.reduceLeDiff, Nat.reduceAdd, Nat.reduceSub, Nat.reduceMul, Nat.reduceEqDiff, Nat.reduceBEq, Nat.reduceBNe, Nat.reduceMod, Nat.reduceDiv, Int.reduceEq, Int.reduceNe, Int.reduceLT, Int.reduceLE, Int.reduceToNat, Int.reduceBEq, Int.reduceBNe, Int.reduceNeg, reduceIte, reduceCtorEq, reduceDIte, Value.oneCell']; refine A_nil ?_; simp only [Thn, InB])
      | (refine A_condt ?_ ?_; focus (simp only [evo, lk, lk1, lk2, Nat.reduceDiv, Nat.reduceMod]; done))
      | (refine A_condf ?_ ?_; focus (simp only [evo, lk, lk1, lk2, Nat.reduceDiv, Nat.reduceMod]; done))
      | (refine A_skip ?_; simp only [Thn, InB])
      | (refine A_exit ?_; simp only [Thn, InB, reduceIte, Nat.reduceEqDiff])
      | refine A_ret ?_)
  refine A_lp (σ := { i : Nat // i ≤ m.length ∧ getV key m = getV key (m.drop i) }) (fun ξ => (fun i : Nat => (⟨23, ofL [(1, .d (.v (.string key))), (4, .ptr 0 0), (5, .d (.v (.bool false))), (8, .d (.rows 8 112 (m.map pD))), (9, .d (.v (.int .i64 m.length))), (10, .d (.v (.int .i64 (i : Nat))))], [.var [.d (.v (.int .u8 0)), .d (.v (.string ByteArray.empty)), .d (.v (.bool false)), .d (.v (.int .i64 0)), .d (.v (.float .f64 0)), .d .e, .d .e]]⟩ : St)) ξ.1) (fun ξ => m.length - ξ.1) ⟨0, Nat.zero_le _, rfl⟩ ?_ ?_
  · (try simp only [List.take_zero, List.map_nil, List.flatten_nil, List.foldl_nil, Int.natCast_zero, Nat.cast_zero, Int.ofNat_zero]); ((try dsimp only); refine Sb.mk ?_ ?_ ?_ ?_ ?_ ?_; (focus rfl); (focus (repeat (first | exact eSub_nil _ | refine eSub_cons rfl ?_))); (focus exact ⟨_, rfl⟩); (focus (first | exact Nat.zero_le _ | exact Nat.le_refl _)); (focus (first | rfl | simp only [envBelow, List.all_cons, List.all_nil, namesAll, AV.names, names_ds, go_sem])); (focus (first | rfl | simp only [List.all_cons, List.all_nil, boxBelow, namesAll, AV.names, names_ds, go_sem])))
  rintro ⟨i, hi, hinv⟩ R hR
  try simp only
  repeat (first
      | refine A_seq ?_
      | refine A_block ?_
      | (refine A_region (A_run ?_); simp only [go_sem, Nat.reduceLT, Nat.reduceLeDiff, Nat.reduceAdd, Nat.reduceSub, Nat.reduceMul, Nat.reduceEqDiff, Nat.reduceBEq, Nat.reduceBNe, Nat.reduceMod, Nat.reduceDiv, Int.reduceEq, Int.reduceNe, Int.reduceLT, Int.reduceLE, Int.reduceToNat, Int.reduceBEq, Int.reduceBNe, Int.reduceNeg, reduceIte, reduceCtorEq, reduceDIte, Value.oneCell']; refine A_nil ?_; simp only [Thn, InB])
      | (refine A_condt ?_ ?_; focus (simp only [evo, lk, lk1, lk2, Nat.reduceDiv, Nat.reduceMod]; done))
      | (refine A_condf ?_ ?_; focus (simp only [evo, lk, lk1, lk2, Nat.reduceDiv, Nat.reduceMod]; done))
      | (refine A_skip ?_; simp only [Thn, InB])
      | (refine A_exit ?_; simp only [Thn, InB, reduceIte, Nat.reduceEqDiff])
      | refine A_ret ?_)
  refine A_cond rfl (fun h => ?_) (fun h => ?_)
  · have hlt : i < m.length := by simpa using h
    have hlt2 : ((i : Int) < ((m.length : Nat) : Int)) = True := eq_true (by omega)
    have hw := wrap_succ (i := i) (by omega)
    have hx : (m.map pD)[i]? = some (.v (.string m[i].1) :: vD m[i].2) := by rw [List.getElem?_map, List.getElem?_eq_getElem hlt]; rfl
    have hd := List.drop_eq_getElem_cons hlt
    repeat (first
        | refine A_seq ?_
        | refine A_block ?_
        | (refine A_region (A_run ?_); simp only [go_sem, Nat.reduceLT, Nat.reduceLeDiff, Nat.reduceAdd, Nat.reduceSub, Nat.reduceMul, Nat.reduceEqDiff, Nat.reduceBEq, Nat.reduceBNe, Nat.reduceMod, Nat.reduceDiv, Int.reduceEq, Int.reduceNe, Int.reduceLT, Int.reduceLE, Int.reduceToNat, Int.reduceBEq, Int.reduceBNe, Int.reduceNeg, reduceIte, reduceCtorEq, reduceDIte, Value.oneCell', hx, hlt2, over]; refine A_nil ?_; simp only [Thn, InB])
        | (refine A_condt ?_ ?_; focus (simp only [evo, lk, lk1, lk2, Nat.reduceDiv, Nat.reduceMod]; done))
        | (refine A_condf ?_ ?_; focus (simp only [evo, lk, lk1, lk2, Nat.reduceDiv, Nat.reduceMod]; done))
        | (refine A_skip ?_; simp only [Thn, InB])
        | (refine A_exit ?_; simp only [Thn, InB, reduceIte, Nat.reduceEqDiff])
        | refine A_ret ?_)
    refine A_cond rfl (fun h => ?_) (fun h => ?_)
    · (repeat (first | refine A_seq ?_ | refine A_block ?_))
      refine A_region (A_run ?_)
      simp only [go_sem, Nat.reduceLT, Nat.reduceLeDiff, Nat.reduceAdd, Nat.reduceSub, Nat.reduceMul, Nat.reduceEqDiff, Nat.reduceBEq, Nat.reduceBNe, Nat.reduceMod, Nat.reduceDiv, Int.reduceEq, Int.reduceNe, Int.reduceLT, Int.reduceLE, Int.reduceToNat, Int.reduceBEq, Int.reduceBNe, Int.reduceNeg, reduceIte, reduceCtorEq, reduceDIte, Value.oneCell', over]
      (refine A_call (copy_c m[i].2) rfl rfl rfl rfl (by first | assumption | simp only [go_sem]) rfl (by first | rfl | simp only [noNames, namesAll, AV.names, names_ds, go_sem, List.append_nil, List.cons_append, List.nil_append, Bool.and_self]) ?_; rintro r rfl; refine ⟨(by first | rfl | simp only [noName, namesAll, AV.names, names_ds, go_sem, Bool.and_self]), A_run ?_⟩; simp only [go_sem, Nat.reduceLT, Nat.reduceLeDiff, Nat.reduceAdd, Nat.reduceSub, Nat.reduceMul, Nat.reduceEqDiff, Nat.reduceBEq, Nat.reduceBNe, Nat.reduceMod, Nat.reduceDiv, Int.reduceEq, Int.reduceNe, Int.reduceLT, Int.reduceLE, Int.reduceToNat, Int.reduceBEq, Int.reduceBNe, Int.reduceNeg, reduceIte, reduceCtorEq, reduceDIte, Value.oneCell', over])
      refine A_nil ?_
      simp only [Thn, InB]
      repeat (first
          | refine A_seq ?_
          | refine A_block ?_
          | (refine A_region (A_run ?_); simp only [go_sem, Nat.reduceLT, Nat.reduceLeDiff, Nat.reduceAdd, Nat.reduceSub, Nat.reduceMul, Nat.reduceEqDiff, Nat.reduceBEq, Nat.reduceBNe, Nat.reduceMod, Nat.reduceDiv, Int.reduceEq, Int.reduceNe, Int.reduceLT, Int.reduceLE, Int.reduceToNat, Int.reduceBEq, Int.reduceBNe, Int.reduceNeg, reduceIte, reduceCtorEq, reduceDIte, Value.oneCell', over]; refine A_nil ?_; simp only [Thn, InB])
          | (refine A_condt ?_ ?_; focus (simp only [evo, lk, lk1, lk2, Nat.reduceDiv, Nat.reduceMod]; done))
          | (refine A_condf ?_ ?_; focus (simp only [evo, lk, lk1, lk2, Nat.reduceDiv, Nat.reduceMod]; done))
          | (refine A_skip ?_; simp only [Thn, InB])
          | (refine A_exit ?_; simp only [Thn, InB, reduceIte, Nat.reduceEqDiff])
          | refine A_ret ?_)
      have hg : getV key m = (m[i].2, true) := by rw [hinv, hd, getV_cons, if_pos (by simpa [isK] using h)]
      rw [hg]
      refine ⟨_, ?_, _, _, fin_pure (x' := .tup [va m[i].2, .d (.v (.bool true))]) ?_ (Le.refl _), rfl, rfl⟩
      · first | rfl | simp only [resV, rvs, rv1, go_sem, Nat.reduceLT, Nat.reduceLeDiff, Nat.reduceAdd, Nat.reduceSub, Nat.reduceMul, Nat.reduceEqDiff, Nat.reduceBEq, Nat.reduceBNe, Nat.reduceMod, Nat.reduceDiv, Int.reduceEq, Int.reduceNe, Int.reduceLT, Int.reduceLE, Int.reduceToNat, Int.reduceBEq, Int.reduceBNe, Int.reduceNeg, reduceIte, reduceCtorEq, reduceDIte, Value.oneCell']
      · first | rfl | simp only [noName, namesAll, AV.names, names_ds, go_sem, Bool.and_self]
    · repeat (first
          | refine A_seq ?_
          | refine A_block ?_
          | (refine A_region (A_run ?_); simp only [go_sem, Nat.reduceLT, Nat.reduceLeDiff, Nat.reduceAdd, Nat.reduceSub, Nat.reduceMul, Nat.reduceEqDiff, Nat.reduceBEq, Nat.reduceBNe, Nat.reduceMod, Nat.reduceDiv, Int.reduceEq, Int.reduceNe, Int.reduceLT, Int.reduceLE, Int.reduceToNat, Int.reduceBEq, Int.reduceBNe, Int.reduceNeg, reduceIte, reduceCtorEq, reduceDIte, Value.oneCell', hw]; refine A_nil ?_; simp only [Thn, InB])
          | (refine A_condt ?_ ?_; focus (simp only [evo, lk, lk1, lk2, Nat.reduceDiv, Nat.reduceMod]; done))
          | (refine A_condf ?_ ?_; focus (simp only [evo, lk, lk1, lk2, Nat.reduceDiv, Nat.reduceMod]; done))
          | (refine A_skip ?_; simp only [Thn, InB])
          | (refine A_exit ?_; simp only [Thn, InB, reduceIte, Nat.reduceEqDiff])
          | refine A_ret ?_)
      refine hR _ ⟨⟨i + 1, by omega, by rw [hinv, hd, getV_cons, if_neg (by simpa [isK] using h)]⟩, by simp only; omega, ?_⟩
      (try simp only); ((try dsimp only); refine Sb.mk ?_ ?_ ?_ ?_ ?_ ?_; (focus rfl); (focus (repeat (first | exact eSub_nil _ | refine eSub_cons rfl ?_))); (focus exact ⟨_, rfl⟩); (focus (first | exact Nat.zero_le _ | exact Nat.le_refl _)); (focus (first | rfl | simp only [envBelow, List.all_cons, List.all_nil, namesAll, AV.names, names_ds, go_sem])); (focus (first | rfl | simp only [List.all_cons, List.all_nil, boxBelow, namesAll, AV.names, names_ds, go_sem])))
  · have hge : i = m.length := by simp at h; omega
    subst hge
    repeat (first
        | refine A_seq ?_
        | refine A_block ?_
        | (refine A_region (A_run ?_); simp only [go_sem, Nat.reduceLT, Nat.reduceLeDiff, Nat.reduceAdd, Nat.reduceSub, Nat.reduceMul, Nat.reduceEqDiff, Nat.reduceBEq, Nat.reduceBNe, Nat.reduceMod, Nat.reduceDiv, Int.reduceEq, Int.reduceNe, Int.reduceLT, Int.reduceLE, Int.reduceToNat, Int.reduceBEq, Int.reduceBNe, Int.reduceNeg, reduceIte, reduceCtorEq, reduceDIte, Value.oneCell', over]; refine A_nil ?_; simp only [Thn, InB])
        | (refine A_condt ?_ ?_; focus (simp only [evo, lk, lk1, lk2, Nat.reduceDiv, Nat.reduceMod]; done))
        | (refine A_condf ?_ ?_; focus (simp only [evo, lk, lk1, lk2, Nat.reduceDiv, Nat.reduceMod]; done))
        | (refine A_skip ?_; simp only [Thn, InB])
        | (refine A_exit ?_; simp only [Thn, InB, reduceIte, Nat.reduceEqDiff])
        | refine A_ret ?_)
    have hg : getV key m = (V0, false) := by rw [hinv, List.drop_length]; rfl
    rw [hg]
    exact ⟨_, rfl, _, _, fin_pure rfl tup_V0, rfl, rfl⟩
theorem rdrop_c {W0 : World} (key : ByteArray) (m : List (ByteArray × V)) : APure Tryd.prog W0 33 [rP m, .d (.v (.string key))] (· = .ret (rP (dropV key m))) := by
  refine APure.known fun hk => ?_
  have hb47 := ab_rP (hk (rP m) (by simp))
  refine A_body Tryd.func33 rfl (by simp [Tryd.ntmps33]) ?_
  simp only [Tryd.ntmps33, Tryd.results33, mkEnv, List.length_cons, List.length_nil, rP]
  repeat (first
      | refine A_seq ?_
      | refine A_block ?_
      | (refine A_region (A_run ?_); simp only [go_sem, Nat.reduceLT, Nat.reduceLeDiff, Nat.reduceAdd, Nat.reduceSub, Nat.reduceMul, Nat.reduceEqDiff, Nat.reduceBEq, Nat.reduceBNe, Nat.reduceMod, Nat.reduceDiv, Int.reduceEq, Int.reduceNe, Int.reduceLT, Int.reduceLE, Int.reduceToNat, Int.reduceBEq, Int.reduceBNe, Int.reduceNeg, reduceIte, reduceCtorEq, reduceDIte, Value.oneCell']; refine A_nil ?_; simp only [Thn, InB])
      | (refine A_condt ?_ ?_; focus (simp only [evo, lk, lk1, lk2, Nat.reduceDiv, Nat.reduceMod]; done))
      | (refine A_condf ?_ ?_; focus (simp only [evo, lk, lk1, lk2, Nat.reduceDiv, Nat.reduceMod]; done))
      | (refine A_skip ?_; simp only [Thn, InB])
      | (refine A_exit ?_; simp only [Thn, InB, reduceIte, Nat.reduceEqDiff])
      | refine A_ret ?_)
  (repeat (first | refine A_seq ?_ | refine A_block ?_))
  refine A_region (A_run ?_)
  simp only [go_sem, Nat.reduceLT, Nat.reduceLeDiff, Nat.reduceAdd, Nat.reduceSub, Nat.reduceMul, Nat.reduceEqDiff, Nat.reduceBEq, Nat.reduceBNe, Nat.reduceMod, Nat.reduceDiv, Int.reduceEq, Int.reduceNe, Int.reduceLT, Int.reduceLE, Int.reduceToNat, Int.reduceBEq, Int.reduceBNe, Int.reduceNeg, reduceIte, reduceCtorEq, reduceDIte, Value.oneCell']
  (refine A_call (copyPairs_c m) rfl rfl rfl rfl (by first | assumption | simp only [go_sem]) rfl (by first | rfl | simp only [noNames, namesAll, AV.names, names_ds, go_sem, List.append_nil, List.cons_append, List.nil_append, Bool.and_self]) ?_; rintro r rfl; refine ⟨(by first | rfl | simp only [noName, namesAll, AV.names, names_ds, go_sem, Bool.and_self]), A_run ?_⟩; simp only [go_sem, Nat.reduceLT, Nat.reduceLeDiff, Nat.reduceAdd, Nat.reduceSub, Nat.reduceMul, Nat.reduceEqDiff, Nat.reduceBEq, Nat.reduceBNe, Nat.reduceMod, Nat.reduceDiv, Int.reduceEq, Int.reduceNe, Int.reduceLT, Int.reduceLE, Int.reduceToNat, Int.reduceBEq, Int.reduceBNe, Int.reduceNeg, reduceIte, reduceCtorEq, reduceDIte, Value.oneCell'])
  refine A_nil ?_
  simp only [Thn, InB]
  repeat (first
      | refine A_seq ?_
      | refine A_block ?_
      | (refine A_region (A_run ?_); simp only [go_sem, Nat.reduceLT, Nat.reduceLeDiff, Nat.reduceAdd, Nat.reduceSub, Nat.reduceMul, Nat.reduceEqDiff, Nat.reduceBEq, Nat.reduceBNe, Nat.reduceMod, Nat.reduceDiv, Int.reduceEq, Int.reduceNe, Int.reduceLT, Int.reduceLE, Int.reduceToNat, Int.reduceBEq, Int.reduceBNe, Int.reduceNeg, reduceIte, reduceCtorEq, reduceDIte, Value.oneCell']; refine A_nil ?_; simp only [Thn, InB])
      | (refine A_condt ?_ ?_; focus (simp only [evo, lk, lk1, lk2, Nat.reduceDiv, Nat.reduceMod]; done))
      | (refine A_condf ?_ ?_; focus (simp only [evo, lk, lk1, lk2, Nat.reduceDiv, Nat.reduceMod]; done))
      | (refine A_skip ?_; simp only [Thn, InB])
      | (refine A_exit ?_; simp only [Thn, InB, reduceIte, Nat.reduceEqDiff])
      | refine A_ret ?_)
  refine A_sub _ (Sb.opn (t := 5) (sz := 8) (bt := 112) rfl (by decide) (by decide)) ?_
  refine A_lp (σ := { i : Nat // i ≤ m.length }) (fun ξ => (fun i : Nat => (⟨25, ofL [(1, .d (.v (.string key))), (5, .sl 0 8 0 (dropV key (m.take i)).length), (9, .d (.rows 8 112 (m.map pD))), (10, .d (.v (.int .i64 m.length))), (11, .d (.v (.int .i64 (i : Nat))))], [.vec 8 112 ((dropV key (m.take i)).map pD)]⟩ : St)) ξ.1) (fun ξ => m.length - ξ.1) ⟨0, Nat.zero_le _⟩ ?_ ?_
  · (try simp only [List.take_zero, List.map_nil, List.flatten_nil, List.foldl_nil, Int.natCast_zero, Nat.cast_zero, Int.ofNat_zero]); ((try dsimp only); refine Sb.mk ?_ ?_ ?_ ?_ ?_ ?_; (focus rfl); (focus (repeat (first | exact eSub_nil _ | refine eSub_cons rfl ?_))); (focus exact ⟨_, rfl⟩); (focus (first | exact Nat.zero_le _ | exact Nat.le_refl _)); (focus (first | rfl | simp only [envBelow, List.all_cons, List.all_nil, namesAll, AV.names, names_ds, go_sem])); (focus (first | rfl | simp only [List.all_cons, List.all_nil, boxBelow, namesAll, AV.names, names_ds, go_sem])))
  rintro ⟨i, hi⟩ R hR
  try simp only
  repeat (first
      | refine A_seq ?_
      | refine A_block ?_
      | (refine A_region (A_run ?_); simp only [go_sem, Nat.reduceLT, Nat.reduceLeDiff, Nat.reduceAdd, Nat.reduceSub, Nat.reduceMul, Nat.reduceEqDiff, Nat.reduceBEq, Nat.reduceBNe, Nat.reduceMod, Nat.reduceDiv, Int.reduceEq, Int.reduceNe, Int.reduceLT, Int.reduceLE, Int.reduceToNat, Int.reduceBEq, Int.reduceBNe, Int.reduceNeg, reduceIte, reduceCtorEq, reduceDIte, Value.oneCell']; refine A_nil ?_; simp only [Thn, InB])
      | (refine A_condt ?_ ?_; focus (simp only [evo, lk, lk1, lk2, Nat.reduceDiv, Nat.reduceMod]; done))
      | (refine A_condf ?_ ?_; focus (simp only [evo, lk, lk1, lk2, Nat.reduceDiv, Nat.reduceMod]; done))
      | (refine A_skip ?_; simp only [Thn, InB])
      | (refine A_exit ?_; simp only [Thn, InB, reduceIte, Nat.reduceEqDiff])
      | refine A_ret ?_)
  refine A_cond rfl (fun h => ?_) (fun h => ?_)
  · have hlt : i < m.length := by simpa using h
    have hlt2 : ((i : Int) < ((m.length : Nat) : Int)) = True := eq_true (by omega)
    have hw := wrap_succ (i := i) (by omega)
    have hx : (m.map pD)[i]? = some (.v (.string m[i].1) :: vD m[i].2) := by rw [List.getElem?_map, List.getElem?_eq_getElem hlt]; rfl
    have hs : dropV key (m.take (i + 1)) = dropV key (m.take i) ++ dropV key [m[i]] := by rw [List.take_succ_eq_append_getElem hlt]; exact List.filter_append ..
    have hle : (dropV key (m.take i)).length ≤ i := Nat.le_trans (List.length_filter_le ..) (by simp; omega)
    repeat (first
        | refine A_seq ?_
        | refine A_block ?_
        | (refine A_region (A_run ?_); simp only [go_sem, Nat.reduceLT, Nat.reduceLeDiff, Nat.reduceAdd, Nat.reduceSub, Nat.reduceMul, Nat.reduceEqDiff, Nat.reduceBEq, Nat.reduceBNe, Nat.reduceMod, Nat.reduceDiv, Int.reduceEq, Int.reduceNe, Int.reduceLT, Int.reduceLE, Int.reduceToNat, Int.reduceBEq, Int.reduceBNe, Int.reduceNeg, reduceIte, reduceCtorEq, reduceDIte, Value.oneCell', hx, hlt2, over]; refine A_nil ?_; simp only [Thn, InB])
        | (refine A_condt ?_ ?_; focus (simp only [evo, lk, lk1, lk2, Nat.reduceDiv, Nat.reduceMod]; done))
        | (refine A_condf ?_ ?_; focus (simp only [evo, lk, lk1, lk2, Nat.reduceDiv, Nat.reduceMod]; done))
        | (refine A_skip ?_; simp only [Thn, InB])
        | (refine A_exit ?_; simp only [Thn, InB, reduceIte, Nat.reduceEqDiff])
        | refine A_ret ?_)
    refine A_cond rfl (fun h => ?_) (fun h => ?_)
    · have hd : dropV key [m[i]] = [m[i]] := by simp [dropV, isK] at h ⊢; exact h
      rw [hd] at hs
      have hs2 : (dropV key (m.take i)).map pD ++ [.v (.string m[i].1) :: vD m[i].2] = (dropV key (m.take (i + 1))).map pD := by rw [hs, List.map_append]; rfl
      have hl2 : (dropV key (m.take (i + 1))).length = (dropV key (m.take i)).length + 1 := by rw [hs]; simp
      (repeat (first | refine A_seq ?_ | refine A_block ?_))
      refine A_region (A_run ?_)
      simp only [go_sem, Nat.reduceLT, Nat.reduceLeDiff, Nat.reduceAdd, Nat.reduceSub, Nat.reduceMul, Nat.reduceEqDiff, Nat.reduceBEq, Nat.reduceBNe, Nat.reduceMod, Nat.reduceDiv, Int.reduceEq, Int.reduceNe, Int.reduceLT, Int.reduceLE, Int.reduceToNat, Int.reduceBEq, Int.reduceBNe, Int.reduceNeg, reduceIte, reduceCtorEq, reduceDIte, Value.oneCell', over]
      refine A_append (b := 0) (sz := 8) (bt := 112) (l := (dropV key (m.take i)).map pD) (l2 := [.v (.string m[i].1) :: vD m[i].2]) rfl rfl (by simp only [go_sem] <;> rfl) (by simp only [go_sem] <;> rfl) (by simp only [go_sem] <;> rfl) (by simp only [go_sem] <;> rfl) (by rfl) rfl (by first | rfl | (simp; done) | (simp; omega)) rfl rfl (by simp [apR, hs2]) rfl (by simp only [List.length_map, List.length_cons, List.length_nil]; omega) ?_
      simp only [killE, mapE, killA, killB, killL, List.length_append, go_sem, Nat.reduceLT, Nat.reduceLeDiff, Nat.reduceAdd, Nat.reduceSub, Nat.reduceMul, Nat.reduceEqDiff, Nat.reduceBEq, Nat.reduceBNe, Nat.reduceMod, Nat.reduceDiv, Int.reduceEq, Int.reduceNe, Int.reduceLT, Int.reduceLE, Int.reduceToNat, Int.reduceBEq, Int.reduceBNe, Int.reduceNeg, reduceIte, reduceCtorEq, reduceDIte, Value.oneCell', hs2]
      refine A_run ?_
      simp only [go_sem, Nat.reduceLT, Nat.reduceLeDiff, Nat.reduceAdd, Nat.reduceSub, Nat.reduceMul, Nat.reduceEqDiff, Nat.reduceBEq, Nat.reduceBNe, Nat.reduceMod, Nat.reduceDiv, Int.reduceEq, Int.reduceNe, Int.reduceLT, Int.reduceLE, Int.reduceToNat, Int.reduceBEq, Int.reduceBNe, Int.reduceNeg, reduceIte, reduceCtorEq, reduceDIte, Value.oneCell']
      refine A_nil ?_
      simp only [Thn, InB]
      repeat (first
          | refine A_seq ?_
          | refine A_block ?_
          | (refine A_region (A_run ?_); simp only [go_sem, Nat.reduceLT, Nat.reduceLeDiff, Nat.reduceAdd, Nat.reduceSub, Nat.reduceMul, Nat.reduceEqDiff, Nat.reduceBEq, Nat.reduceBNe, Nat.reduceMod, Nat.reduceDiv, Int.reduceEq, Int.reduceNe, Int.reduceLT, Int.reduceLE, Int.reduceToNat, Int.reduceBEq, Int.reduceBNe, Int.reduceNeg, reduceIte, reduceCtorEq, reduceDIte, Value.oneCell', hw]; refine A_nil ?_; simp only [Thn, InB])
          | (refine A_condt ?_ ?_; focus (simp only [evo, lk, lk1, lk2, Nat.reduceDiv, Nat.reduceMod]; done))
          | (refine A_condf ?_ ?_; focus (simp only [evo, lk, lk1, lk2, Nat.reduceDiv, Nat.reduceMod]; done))
          | (refine A_skip ?_; simp only [Thn, InB])
          | (refine A_exit ?_; simp only [Thn, InB, reduceIte, Nat.reduceEqDiff])
          | refine A_ret ?_)
      refine hR _ ⟨⟨i + 1, by omega⟩, by simp only; omega, ?_⟩
      (try simp only); ((try dsimp only); refine Sb.mk ?_ ?_ ?_ ?_ ?_ ?_; (focus rfl); (focus (repeat (first | exact eSub_nil _ | refine eSub_cons rfl ?_))); (focus exact ⟨_, rfl⟩); (focus (first | exact Nat.zero_le _ | exact Nat.le_refl _)); (focus (first | rfl | simp only [envBelow, List.all_cons, List.all_nil, namesAll, AV.names, names_ds, go_sem])); (focus (first | rfl | simp only [List.all_cons, List.all_nil, boxBelow, namesAll, AV.names, names_ds, go_sem])))
    · have hd : dropV key [m[i]] = [] := by simp [dropV, isK] at h ⊢; exact h
      rw [hd, List.append_nil] at hs
      repeat (first
          | refine A_seq ?_
          | refine A_block ?_
          | (refine A_region (A_run ?_); simp only [go_sem, Nat.reduceLT, Nat.reduceLeDiff, Nat.reduceAdd, Nat.reduceSub, Nat.reduceMul, Nat.reduceEqDiff, Nat.reduceBEq, Nat.reduceBNe, Nat.reduceMod, Nat.reduceDiv, Int.reduceEq, Int.reduceNe, Int.reduceLT, Int.reduceLE, Int.reduceToNat, Int.reduceBEq, Int.reduceBNe, Int.reduceNeg, reduceIte, reduceCtorEq, reduceDIte, Value.oneCell', hw]; refine A_nil ?_; simp only [Thn, InB])
          | (refine A_condt ?_ ?_; focus (simp only [evo, lk, lk1, lk2, Nat.reduceDiv, Nat.reduceMod]; done))
          | (refine A_condf ?_ ?_; focus (simp only [evo, lk, lk1, lk2, Nat.reduceDiv, Nat.reduceMod]; done))
          | (refine A_skip ?_; simp only [Thn, InB])
          | (refine A_exit ?_; simp only [Thn, InB, reduceIte, Nat.reduceEqDiff])
          | refine A_ret ?_)
      rw [← hs]
      refine hR _ ⟨⟨i + 1, by omega⟩, by simp only; omega, ?_⟩
      (try simp only); ((try dsimp only); refine Sb.mk ?_ ?_ ?_ ?_ ?_ ?_; (focus rfl); (focus (repeat (first | exact eSub_nil _ | refine eSub_cons rfl ?_))); (focus exact ⟨_, rfl⟩); (focus (first | exact Nat.zero_le _ | exact Nat.le_refl _)); (focus (first | rfl | simp only [envBelow, List.all_cons, List.all_nil, namesAll, AV.names, names_ds, go_sem])); (focus (first | rfl | simp only [List.all_cons, List.all_nil, boxBelow, namesAll, AV.names, names_ds, go_sem])))
  · have hge : i = m.length := by simp at h; omega
    subst hge
    simp only [List.take_length]
    refine A_sub _ (Sb.freeze 0 rfl (Nat.zero_le _)) ?_
    simp only [fzE, mapE, fzA, fzL, fzB, go_sem, Nat.reduceLT, Nat.reduceLeDiff, Nat.reduceAdd, Nat.reduceSub, Nat.reduceMul, Nat.reduceEqDiff, Nat.reduceBEq, Nat.reduceBNe, Nat.reduceMod, Nat.reduceDiv, Int.reduceEq, Int.reduceNe, Int.reduceLT, Int.reduceLE, Int.reduceToNat, Int.reduceBEq, Int.reduceBNe, Int.reduceNeg, reduceIte, reduceCtorEq, reduceDIte, Value.oneCell']
    repeat (first
        | refine A_seq ?_
        | refine A_block ?_
        | (refine A_region (A_run ?_); simp only [go_sem, Nat.reduceLT, Nat.reduceLeDiff, Nat.reduceAdd, Nat.reduceSub, Nat.reduceMul, Nat.reduceEqDiff, Nat.reduceBEq, Nat.reduceBNe, Nat.reduceMod, Nat.reduceDiv, Int.reduceEq, Int.reduceNe, Int.reduceLT, Int.reduceLE, Int.reduceToNat, Int.reduceBEq, Int.reduceBNe, Int.reduceNeg, reduceIte, reduceCtorEq, reduceDIte, Value.oneCell']; refine A_nil ?_; simp only [Thn, InB])
        | (refine A_condt ?_ ?_; focus (simp only [evo, lk, lk1, lk2, Nat.reduceDiv, Nat.reduceMod]; done))
        | (refine A_condf ?_ ?_; focus (simp only [evo, lk, lk1, lk2, Nat.reduceDiv, Nat.reduceMod]; done))
        | (refine A_skip ?_; simp only [Thn, InB])
        | (refine A_exit ?_; simp only [Thn, InB, reduceIte, Nat.reduceEqDiff])
        | refine A_ret ?_)
    exact ⟨_, rfl, _, _, fin_pure rfl (Le.refl _), rfl, rfl⟩
theorem put_len (key : ByteArray) (v : V) (m : List (ByteArray × V)) : (putV key v m).length ≤ m.length + 1 := by
  unfold putV
  split <;> simp
theorem putV_skip {key : ByteArray} {v : V} : ∀ {i : Nat} {m : List (ByteArray × V)}, (∀ j, j < i → ∀ p, m[j]? = some p → isK key p = false) → putV key v m = m.take i ++ putV key v (m.drop i)
  | 0, m, _ => by simp
  | i + 1, [], _ => by simp
  | i + 1, p :: m, h => by
    rw [putV_cons, if_neg (by simp [h 0 (by omega) p rfl]), List.take_succ_cons, List.drop_succ_cons, List.cons_append, putV_skip (i := i) fun j hj q hq => h (j + 1) (by omega) q (by simpa using hq)]
theorem rput_c {W0 : World} (key : ByteArray) (v : V) (m : List (ByteArray × V)) (hroom : (m.length + 1) * 112 ≤ 140737488355328) : APure Tryd.prog W0 31 [rP m, .d (.v (.string key)), va v] (· = .ret (rP (putV key v m))) := by
  refine A_body Tryd.func31 rfl (by simp [Tryd.ntmps31]) ?_
  simp only [Tryd.ntmps31, Tryd.results31, mkEnv, List.length_cons, List.length_nil, rP, va]
  repeat (first
      | refine A_seq ?_
      | refine A_block ?_
      | (refine A_region (A_run ?_); simp only [go_sem, Nat.reduceLT, Nat.reduceLeDiff, Nat.reduceAdd, Nat.reduceSub, Nat.reduceMul, Nat.reduceEqDiff, Nat.reduceBEq, Nat.reduceBNe, Nat.reduceMod, Nat.reduceDiv, Int.reduceEq, Int.reduceNe, Int.reduceLT, Int.reduceLE, Int.reduceToNat, Int.reduceBEq, Int.reduceBNe, Int.reduceNeg, reduceIte, reduceCtorEq, reduceDIte, Value.oneCell']; refine A_nil ?_; simp only [Thn, InB])
      | (refine A_condt ?_ ?_; focus (simp only [evo, lk, lk1, lk2, Nat.reduceDiv, Nat.reduceMod]; done))
      | (refine A_condf ?_ ?_; focus (simp only [evo, lk, lk1, lk2, Nat.reduceDiv, Nat.reduceMod]; done))
      | (refine A_skip ?_; simp only [Thn, InB])
      | (refine A_exit ?_; simp only [Thn, InB, reduceIte, Nat.reduceEqDiff])
      | refine A_ret ?_)
  (repeat (first | refine A_seq ?_ | refine A_block ?_))
  refine A_region (A_run ?_)
  simp only [go_sem, Nat.reduceLT, Nat.reduceLeDiff, Nat.reduceAdd, Nat.reduceSub, Nat.reduceMul, Nat.reduceEqDiff, Nat.reduceBEq, Nat.reduceBNe, Nat.reduceMod, Nat.reduceDiv, Int.reduceEq, Int.reduceNe, Int.reduceLT, Int.reduceLE, Int.reduceToNat, Int.reduceBEq, Int.reduceBNe, Int.reduceNeg, reduceIte, reduceCtorEq, reduceDIte, Value.oneCell']
  (refine A_callB [] (copyPairs_own m fun p _ => copy_c p.2) rfl rfl rfl rfl (by first | assumption | simp only [go_sem]) rfl (by simp) rfl (fun i b h => by simp at h) rfl ?_; rintro r L' ⟨rfl, rfl⟩; refine ⟨rfl, A_run ?_⟩; simp only [St.aft, killPE, mapE, killP, killPB, killPL, moved, isVar, setAll, renB, renA, renL, sg_nil, List.drop_nil, go_sem, Nat.reduceLT, Nat.reduceLeDiff, Nat.reduceAdd, Nat.reduceSub, Nat.reduceMul, Nat.reduceEqDiff, Nat.reduceBEq, Nat.reduceBNe, Nat.reduceMod, Nat.reduceDiv, Int.reduceEq, Int.reduceNe, Int.reduceLT, Int.reduceLE, Int.reduceToNat, Int.reduceBEq, Int.reduceBNe, Int.reduceNeg, reduceIte, reduceCtorEq, reduceDIte, Value.oneCell'])
  refine A_nil ?_
  simp only [Thn, InB]
  repeat (first
      | refine A_seq ?_
      | refine A_block ?_
      | (refine A_region (A_run ?_); simp only [go_sem, Nat.reduceLT, Nat.reduceLeDiff, Nat.reduceAdd, Nat.reduceSub, Nat.reduceMul, Nat.reduceEqDiff, Nat.reduceBEq, Nat.reduceBNe, Nat.reduceMod, Nat.reduceDiv, Int.reduceEq, Int.reduceNe, Int.reduceLT, Int.reduceLE, Int.reduceToNat, Int.reduceBEq, Int.reduceBNe, Int.reduceNeg, reduceIte, reduceCtorEq, reduceDIte, Value.oneCell']; refine A_nil ?_; simp only [Thn, InB])
      | (refine A_condt ?_ ?_; focus (simp only [evo, lk, lk1, lk2, Nat.reduceDiv, Nat.reduceMod]; done))
      | (refine A_condf ?_ ?_; focus (simp only [evo, lk, lk1, lk2, Nat.reduceDiv, Nat.reduceMod]; done))
      | (refine A_skip ?_; simp only [Thn, InB])
      | (refine A_exit ?_; simp only [Thn, InB, reduceIte, Nat.reduceEqDiff])
      | refine A_ret ?_)
  refine A_lp (σ := { i : Nat // i ≤ m.length ∧ putV key v m = m.take i ++ putV key v (m.drop i) }) (fun ξ => (fun i : Nat => (⟨38, ofL [(1, .d (.v (.string key))), (5, .ptr 0 0), (6, .d .e), (7, .sl 1 8 0 m.length), (12, .d (.v (.int .i64 m.length))), (13, .d (.v (.int .i64 (i : Nat))))], [.var ((vD v).map .d), .vec 8 112 (m.map pD)]⟩ : St)) ξ.1) (fun ξ => m.length - ξ.1) ⟨0, Nat.zero_le _, by simp⟩ ?_ ?_
  · (try simp only [List.take_zero, List.map_nil, List.flatten_nil, List.foldl_nil, Int.natCast_zero, Nat.cast_zero, Int.ofNat_zero]); ((try dsimp only); refine Sb.mk ?_ ?_ ?_ ?_ ?_ ?_; (focus rfl); (focus (repeat (first | exact eSub_nil _ | refine eSub_cons rfl ?_))); (focus exact ⟨_, rfl⟩); (focus (first | exact Nat.zero_le _ | exact Nat.le_refl _)); (focus (first | rfl | simp only [envBelow, List.all_cons, List.all_nil, namesAll, AV.names, names_ds, go_sem])); (focus (first | rfl | simp only [List.all_cons, List.all_nil, boxBelow, namesAll, AV.names, names_ds, go_sem])))
  rintro ⟨i, hi, hinv⟩ R hR
  try simp only
  repeat (first
      | refine A_seq ?_
      | refine A_block ?_
      | (refine A_region (A_run ?_); simp only [go_sem, Nat.reduceLT, Nat.reduceLeDiff, Nat.reduceAdd, Nat.reduceSub, Nat.reduceMul, Nat.reduceEqDiff, Nat.reduceBEq, Nat.reduceBNe, Nat.reduceMod, Nat.reduceDiv, Int.reduceEq, Int.reduceNe, Int.reduceLT, Int.reduceLE, Int.reduceToNat, Int.reduceBEq, Int.reduceBNe, Int.reduceNeg, reduceIte, reduceCtorEq, reduceDIte, Value.oneCell']; refine A_nil ?_; simp only [Thn, InB])
      | (refine A_condt ?_ ?_; focus (simp only [evo, lk, lk1, lk2, Nat.reduceDiv, Nat.reduceMod]; done))
      | (refine A_condf ?_ ?_; focus (simp only [evo, lk, lk1, lk2, Nat.reduceDiv, Nat.reduceMod]; done))
      | (refine A_skip ?_; simp only [Thn, InB])
      | (refine A_exit ?_; simp only [Thn, InB, reduceIte, Nat.reduceEqDiff])
      | refine A_ret ?_)
  refine A_cond rfl (fun h => ?_) (fun h => ?_)
  · have hlt : i < m.length := by simpa using h
    have hlt2 : ((i : Int) < ((m.length : Nat) : Int)) = True := eq_true (by omega)
    have hw := wrap_succ (i := i) (by omega)
    have hx : (m.map pD)[i]? = some (.v (.string m[i].1) :: vD m[i].2) := by rw [List.getElem?_map, List.getElem?_eq_getElem hlt]; rfl
    have hd := List.drop_eq_getElem_cons hlt
    repeat (first
        | refine A_seq ?_
        | refine A_block ?_
        | (refine A_region (A_run ?_); simp only [go_sem, Nat.reduceLT, Nat.reduceLeDiff, Nat.reduceAdd, Nat.reduceSub, Nat.reduceMul, Nat.reduceEqDiff, Nat.reduceBEq, Nat.reduceBNe, Nat.reduceMod, Nat.reduceDiv, Int.reduceEq, Int.reduceNe, Int.reduceLT, Int.reduceLE, Int.reduceToNat, Int.reduceBEq, Int.reduceBNe, Int.reduceNeg, reduceIte, reduceCtorEq, reduceDIte, Value.oneCell', hx, hlt2, over]; refine A_nil ?_; simp only [Thn, InB])
        | (refine A_condt ?_ ?_; focus (simp only [evo, lk, lk1, lk2, Nat.reduceDiv, Nat.reduceMod]; done))
        | (refine A_condf ?_ ?_; focus (simp only [evo, lk, lk1, lk2, Nat.reduceDiv, Nat.reduceMod]; done))
        | (refine A_skip ?_; simp only [Thn, InB])
        | (refine A_exit ?_; simp only [Thn, InB, reduceIte, Nat.reduceEqDiff])
        | refine A_ret ?_)
    refine A_cond rfl (fun h => ?_) (fun h => ?_)
    · have hk : isK key m[i] = true := by simpa [isK] using h
      have hg : putV key v m = m.set i (m[i].1, v) := by rw [hinv, hd, putV_cons, if_pos hk, List.set_eq_take_append_cons_drop, if_pos hlt]
      have hs := set_map pD m i (m[i].1, v)
      simp only [pD] at hs
      (repeat (first | refine A_seq ?_ | refine A_block ?_))
      refine A_region (A_run ?_)
      simp only [go_sem, Nat.reduceLT, Nat.reduceLeDiff, Nat.reduceAdd, Nat.reduceSub, Nat.reduceMul, Nat.reduceEqDiff, Nat.reduceBEq, Nat.reduceBNe, Nat.reduceMod, Nat.reduceDiv, Int.reduceEq, Int.reduceNe, Int.reduceLT, Int.reduceLE, Int.reduceToNat, Int.reduceBEq, Int.reduceBNe, Int.reduceNeg, reduceIte, reduceCtorEq, reduceDIte, Value.oneCell', hx, hlt2, over, hs]
      (refine A_call (copy_c v) rfl rfl rfl rfl (by first | assumption | simp only [go_sem]) rfl (by first | rfl | simp only [noNames, namesAll, AV.names, names_ds, go_sem, List.append_nil, List.cons_append, List.nil_append, Bool.and_self]) ?_; rintro r rfl; refine ⟨(by first | rfl | simp only [noName, namesAll, AV.names, names_ds, go_sem, Bool.and_self]), A_run ?_⟩; simp only [go_sem, Nat.reduceLT, Nat.reduceLeDiff, Nat.reduceAdd, Nat.reduceSub, Nat.reduceMul, Nat.reduceEqDiff, Nat.reduceBEq, Nat.reduceBNe, Nat.reduceMod, Nat.reduceDiv, Int.reduceEq, Int.reduceNe, Int.reduceLT, Int.reduceLE, Int.reduceToNat, Int.reduceBEq, Int.reduceBNe, Int.reduceNeg, reduceIte, reduceCtorEq, reduceDIte, Value.oneCell', hx, hlt2, over, hs])
      refine A_nil ?_
      simp only [Thn, InB]
      rw [hg]
      have ht : List.take m.length ((m.set i (m[i].1, v)).map pD) = (m.set i (m[i].1, v)).map pD := List.take_of_length_le (by simp)
      refine A_sub _ (Sb.freeze 1 rfl (Nat.zero_le _)) ?_
      simp only [fzE, mapE, fzA, fzL, fzB, go_sem, Nat.reduceLT, Nat.reduceLeDiff, Nat.reduceAdd, Nat.reduceSub, Nat.reduceMul, Nat.reduceEqDiff, Nat.reduceBEq, Nat.reduceBNe, Nat.reduceMod, Nat.reduceDiv, Int.reduceEq, Int.reduceNe, Int.reduceLT, Int.reduceLE, Int.reduceToNat, Int.reduceBEq, Int.reduceBNe, Int.reduceNeg, reduceIte, reduceCtorEq, reduceDIte, Value.oneCell', List.length_set, ht]
      repeat (first
          | refine A_seq ?_
          | refine A_block ?_
          | (refine A_region (A_run ?_); simp only [go_sem, Nat.reduceLT, Nat.reduceLeDiff, Nat.reduceAdd, Nat.reduceSub, Nat.reduceMul, Nat.reduceEqDiff, Nat.reduceBEq, Nat.reduceBNe, Nat.reduceMod, Nat.reduceDiv, Int.reduceEq, Int.reduceNe, Int.reduceLT, Int.reduceLE, Int.reduceToNat, Int.reduceBEq, Int.reduceBNe, Int.reduceNeg, reduceIte, reduceCtorEq, reduceDIte, Value.oneCell']; refine A_nil ?_; simp only [Thn, InB])
          | (refine A_condt ?_ ?_; focus (simp only [evo, lk, lk1, lk2, Nat.reduceDiv, Nat.reduceMod]; done))
          | (refine A_condf ?_ ?_; focus (simp only [evo, lk, lk1, lk2, Nat.reduceDiv, Nat.reduceMod]; done))
          | (refine A_skip ?_; simp only [Thn, InB])
          | (refine A_exit ?_; simp only [Thn, InB, reduceIte, Nat.reduceEqDiff])
          | refine A_ret ?_)
      exact ⟨_, rfl, _, _, fin_pure rfl (Le.refl _), rfl, rfl⟩
    · repeat (first
          | refine A_seq ?_
          | refine A_block ?_
          | (refine A_region (A_run ?_); simp only [go_sem, Nat.reduceLT, Nat.reduceLeDiff, Nat.reduceAdd, Nat.reduceSub, Nat.reduceMul, Nat.reduceEqDiff, Nat.reduceBEq, Nat.reduceBNe, Nat.reduceMod, Nat.reduceDiv, Int.reduceEq, Int.reduceNe, Int.reduceLT, Int.reduceLE, Int.reduceToNat, Int.reduceBEq, Int.reduceBNe, Int.reduceNeg, reduceIte, reduceCtorEq, reduceDIte, Value.oneCell', hw]; refine A_nil ?_; simp only [Thn, InB])
          | (refine A_condt ?_ ?_; focus (simp only [evo, lk, lk1, lk2, Nat.reduceDiv, Nat.reduceMod]; done))
          | (refine A_condf ?_ ?_; focus (simp only [evo, lk, lk1, lk2, Nat.reduceDiv, Nat.reduceMod]; done))
          | (refine A_skip ?_; simp only [Thn, InB])
          | (refine A_exit ?_; simp only [Thn, InB, reduceIte, Nat.reduceEqDiff])
          | refine A_ret ?_)
      refine hR _ ⟨⟨i + 1, by omega, by rw [hinv, hd, putV_cons, if_neg (by simpa [isK] using h), List.take_succ_eq_append_getElem hlt, List.append_assoc]; rfl⟩, by simp only; omega, ?_⟩
      (try simp only); ((try dsimp only); refine Sb.mk ?_ ?_ ?_ ?_ ?_ ?_; (focus rfl); (focus (repeat (first | exact eSub_nil _ | refine eSub_cons rfl ?_))); (focus exact ⟨_, rfl⟩); (focus (first | exact Nat.zero_le _ | exact Nat.le_refl _)); (focus (first | rfl | simp only [envBelow, List.all_cons, List.all_nil, namesAll, AV.names, names_ds, go_sem])); (focus (first | rfl | simp only [List.all_cons, List.all_nil, boxBelow, namesAll, AV.names, names_ds, go_sem])))
  · have hge : i = m.length := by simp at h; omega
    subst hge
    have hg : putV key v m = m ++ [(key, v)] := by rw [hinv, List.take_length, List.drop_length]; rfl
    rw [hg]
    repeat (first
        | refine A_seq ?_
        | refine A_block ?_
        | (refine A_region (A_run ?_); simp only [go_sem, Nat.reduceLT, Nat.reduceLeDiff, Nat.reduceAdd, Nat.reduceSub, Nat.reduceMul, Nat.reduceEqDiff, Nat.reduceBEq, Nat.reduceBNe, Nat.reduceMod, Nat.reduceDiv, Int.reduceEq, Int.reduceNe, Int.reduceLT, Int.reduceLE, Int.reduceToNat, Int.reduceBEq, Int.reduceBNe, Int.reduceNeg, reduceIte, reduceCtorEq, reduceDIte, Value.oneCell']; refine A_nil ?_; simp only [Thn, InB])
        | (refine A_condt ?_ ?_; focus (simp only [evo, lk, lk1, lk2, Nat.reduceDiv, Nat.reduceMod]; done))
        | (refine A_condf ?_ ?_; focus (simp only [evo, lk, lk1, lk2, Nat.reduceDiv, Nat.reduceMod]; done))
        | (refine A_skip ?_; simp only [Thn, InB])
        | (refine A_exit ?_; simp only [Thn, InB, reduceIte, Nat.reduceEqDiff])
        | refine A_ret ?_)
    (repeat (first | refine A_seq ?_ | refine A_block ?_))
    refine A_region (A_run ?_)
    simp only [go_sem, Nat.reduceLT, Nat.reduceLeDiff, Nat.reduceAdd, Nat.reduceSub, Nat.reduceMul, Nat.reduceEqDiff, Nat.reduceBEq, Nat.reduceBNe, Nat.reduceMod, Nat.reduceDiv, Int.reduceEq, Int.reduceNe, Int.reduceLT, Int.reduceLE, Int.reduceToNat, Int.reduceBEq, Int.reduceBNe, Int.reduceNeg, reduceIte, reduceCtorEq, reduceDIte, Value.oneCell']
    (refine A_call (copy_c v) rfl rfl rfl rfl (by first | assumption | simp only [go_sem]) rfl (by first | rfl | simp only [noNames, namesAll, AV.names, names_ds, go_sem, List.append_nil, List.cons_append, List.nil_append, Bool.and_self]) ?_; rintro r rfl; refine ⟨(by first | rfl | simp only [noName, namesAll, AV.names, names_ds, go_sem, Bool.and_self]), A_run ?_⟩; simp only [go_sem, Nat.reduceLT, Nat.reduceLeDiff, Nat.reduceAdd, Nat.reduceSub, Nat.reduceMul, Nat.reduceEqDiff, Nat.reduceBEq, Nat.reduceBNe, Nat.reduceMod, Nat.reduceDiv, Int.reduceEq, Int.reduceNe, Int.reduceLT, Int.reduceLE, Int.reduceToNat, Int.reduceBEq, Int.reduceBNe, Int.reduceNeg, reduceIte, reduceCtorEq, reduceDIte, Value.oneCell'])
    refine A_append (b := 1) (sz := 8) (bt := 112) (l := m.map pD) (l2 := [.v (.string key) :: vD v]) rfl rfl (by simp only [go_sem] <;> rfl) (by simp only [go_sem] <;> rfl) (by simp only [go_sem] <;> rfl) (by simp only [go_sem] <;> rfl) (by rfl) rfl (by first | rfl | (simp; done) | (simp; omega)) rfl rfl (by simp [apR]) rfl (by simpa using hroom) ?_
    simp only [killE, mapE, killA, killB, killL, List.length_append, go_sem, Nat.reduceLT, Nat.reduceLeDiff, Nat.reduceAdd, Nat.reduceSub, Nat.reduceMul, Nat.reduceEqDiff, Nat.reduceBEq, Nat.reduceBNe, Nat.reduceMod, Nat.reduceDiv, Int.reduceEq, Int.reduceNe, Int.reduceLT, Int.reduceLE, Int.reduceToNat, Int.reduceBEq, Int.reduceBNe, Int.reduceNeg, reduceIte, reduceCtorEq, reduceDIte, Value.oneCell']
    refine A_run ?_
    simp only [go_sem, Nat.reduceLT, Nat.reduceLeDiff, Nat.reduceAdd, Nat.reduceSub, Nat.reduceMul, Nat.reduceEqDiff, Nat.reduceBEq, Nat.reduceBNe, Nat.reduceMod, Nat.reduceDiv, Int.reduceEq, Int.reduceNe, Int.reduceLT, Int.reduceLE, Int.reduceToNat, Int.reduceBEq, Int.reduceBNe, Int.reduceNeg, reduceIte, reduceCtorEq, reduceDIte, Value.oneCell']
    refine A_nil ?_
    simp only [Thn, InB]
    have ht : List.take (m.length + 1) (m.map pD ++ [D.v (.string key) :: vD v]) = (m ++ [(key, v)]).map pD := by
      rw [List.take_of_length_le (by simp), List.map_append]
      rfl
    refine A_sub _ (Sb.freeze 1 rfl (Nat.zero_le _)) ?_
    simp only [fzE, mapE, fzA, fzL, fzB, go_sem, Nat.reduceLT, Nat.reduceLeDiff, Nat.reduceAdd, Nat.reduceSub, Nat.reduceMul, Nat.reduceEqDiff, Nat.reduceBEq, Nat.reduceBNe, Nat.reduceMod, Nat.reduceDiv, Int.reduceEq, Int.reduceNe, Int.reduceLT, Int.reduceLE, Int.reduceToNat, Int.reduceBEq, Int.reduceBNe, Int.reduceNeg, reduceIte, reduceCtorEq, reduceDIte, Value.oneCell', List.length_append, ht]
    repeat (first
        | refine A_seq ?_
        | refine A_block ?_
        | (refine A_region (A_run ?_); simp only [go_sem, Nat.reduceLT, Nat.reduceLeDiff, Nat.reduceAdd, Nat.reduceSub, Nat.reduceMul, Nat.reduceEqDiff, Nat.reduceBEq, Nat.reduceBNe, Nat.reduceMod, Nat.reduceDiv, Int.reduceEq, Int.reduceNe, Int.reduceLT, Int.reduceLE, Int.reduceToNat, Int.reduceBEq, Int.reduceBNe, Int.reduceNeg, reduceIte, reduceCtorEq, reduceDIte, Value.oneCell']; refine A_nil ?_; simp only [Thn, InB])
        | (refine A_condt ?_ ?_; focus (simp only [evo, lk, lk1, lk2, Nat.reduceDiv, Nat.reduceMod]; done))
        | (refine A_condf ?_ ?_; focus (simp only [evo, lk, lk1, lk2, Nat.reduceDiv, Nat.reduceMod]; done))
        | (refine A_skip ?_; simp only [Thn, InB])
        | (refine A_exit ?_; simp only [Thn, InB, reduceIte, Nat.reduceEqDiff])
        | refine A_ret ?_)
    exact ⟨_, rfl, _, _, fin_pure rfl (Le.refl _), rfl, rfl⟩
/-- A text's hash: a byte more. -/
def hstepI (h b : Int) : Int := IntKind.u64.wrap (xorI .u64 h (IntKind.u64.wrap b) * 1099511628211)
def hashI (l : List UInt8) : Int := l.foldl (fun h b => hstepI h b.toNat) 14695981039346656037
theorem hashI_succ {l : List UInt8} {i : Nat} (h : i < l.length) : hashI (l.take (i + 1)) = hstepI (hashI (l.take i)) l[i].toNat := by
  rw [List.take_succ_eq_append_getElem h]
  unfold hashI
  rw [List.foldl_append]
  rfl
theorem hash_c {W0 : World} (s : ByteArray) (hs : s.size ≤ 140737488355328) : APure Tryd.prog W0 14 [.d (.v (.string s))] (· = .ret (.d (.v (.int .u64 (hashI s.data.toList))))) := by
  refine A_body Tryd.func14 rfl (by simp [Tryd.ntmps14]) ?_
  simp only [Tryd.ntmps14, Tryd.results14, mkEnv, List.length_cons, List.length_nil]
  repeat (first
      | refine A_seq ?_
      | refine A_block ?_
      | (refine A_region (A_run ?_); simp only [go_sem, Nat.reduceLT, Nat.reduceLeDiff, Nat.reduceAdd, Nat.reduceSub, Nat.reduceMul, Nat.reduceEqDiff, Nat.reduceBEq, Nat.reduceBNe, Nat.reduceMod, Nat.reduceDiv, Int.reduceEq, Int.reduceNe, Int.reduceLT, Int.reduceLE, Int.reduceToNat, Int.reduceBEq, Int.reduceBNe, Int.reduceNeg, reduceIte, reduceCtorEq, reduceDIte, Value.oneCell']; refine A_nil ?_; simp only [Thn, InB])
      | (refine A_condt ?_ ?_; focus (simp only [evo, lk, lk1, lk2, Nat.reduceDiv, Nat.reduceMod]; done))
      | (refine A_condf ?_ ?_; focus (simp only [evo, lk, lk1, lk2, Nat.reduceDiv, Nat.reduceMod]; done))
      | (refine A_skip ?_; simp only [Thn, InB])
      | (refine A_exit ?_; simp only [Thn, InB, reduceIte, Nat.reduceEqDiff])
      | refine A_ret ?_)
  (repeat (first | refine A_seq ?_ | refine A_block ?_))
  refine A_region (A_run ?_)
  simp only [go_sem, Nat.reduceLT, Nat.reduceLeDiff, Nat.reduceAdd, Nat.reduceSub, Nat.reduceMul, Nat.reduceEqDiff, Nat.reduceBEq, Nat.reduceBNe, Nat.reduceMod, Nat.reduceDiv, Int.reduceEq, Int.reduceNe, Int.reduceLT, Int.reduceLE, Int.reduceToNat, Int.reduceBEq, Int.reduceBNe, Int.reduceNeg, reduceIte, reduceCtorEq, reduceDIte, Value.oneCell']
  refine A_tobytes s rfl rfl (by simp only [go_sem] <;> rfl) (by simp only [go_sem] <;> rfl) (by simp only [go_sem] <;> rfl) rfl hs rfl ?_
  refine A_run ?_
  simp only [go_sem, Nat.reduceLT, Nat.reduceLeDiff, Nat.reduceAdd, Nat.reduceSub, Nat.reduceMul, Nat.reduceEqDiff, Nat.reduceBEq, Nat.reduceBNe, Nat.reduceMod, Nat.reduceDiv, Int.reduceEq, Int.reduceNe, Int.reduceLT, Int.reduceLE, Int.reduceToNat, Int.reduceBEq, Int.reduceBNe, Int.reduceNeg, reduceIte, reduceCtorEq, reduceDIte, Value.oneCell', bytesD_len]
  refine A_nil ?_
  simp only [Thn, InB]
  repeat (first
      | refine A_seq ?_
      | refine A_block ?_
      | (refine A_region (A_run ?_); simp only [go_sem, Nat.reduceLT, Nat.reduceLeDiff, Nat.reduceAdd, Nat.reduceSub, Nat.reduceMul, Nat.reduceEqDiff, Nat.reduceBEq, Nat.reduceBNe, Nat.reduceMod, Nat.reduceDiv, Int.reduceEq, Int.reduceNe, Int.reduceLT, Int.reduceLE, Int.reduceToNat, Int.reduceBEq, Int.reduceBNe, Int.reduceNeg, reduceIte, reduceCtorEq, reduceDIte, Value.oneCell']; refine A_nil ?_; simp only [Thn, InB])
      | (refine A_condt ?_ ?_; focus (simp only [evo, lk, lk1, lk2, Nat.reduceDiv, Nat.reduceMod]; done))
      | (refine A_condf ?_ ?_; focus (simp only [evo, lk, lk1, lk2, Nat.reduceDiv, Nat.reduceMod]; done))
      | (refine A_skip ?_; simp only [Thn, InB])
      | (refine A_exit ?_; simp only [Thn, InB, reduceIte, Nat.reduceEqDiff])
      | refine A_ret ?_)
  have hsl : s.data.toList.length = s.size := Array.length_toList ..
  refine A_lp (σ := { i : Nat // i ≤ s.size }) (fun ξ => (fun i : Nat => (⟨21, ofL [(3, .d (.v (.int .u64 (hashI (s.data.toList.take i))))), (7, .d (.rows 1 1 (bytesD s))), (8, .d (.v (.int .i64 s.size))), (9, .d (.v (.int .i64 (i : Nat))))], []⟩ : St)) ξ.1) (fun ξ => s.size - ξ.1) ⟨0, Nat.zero_le _⟩ ?_ ?_
  · (try simp only [List.take_zero, List.map_nil, List.flatten_nil, List.foldl_nil, Int.natCast_zero, Nat.cast_zero, Int.ofNat_zero]); ((try dsimp only); refine Sb.mk ?_ ?_ ?_ ?_ ?_ ?_; (focus rfl); (focus (repeat (first | exact eSub_nil _ | refine eSub_cons rfl ?_))); (focus exact ⟨_, rfl⟩); (focus (first | exact Nat.zero_le _ | exact Nat.le_refl _)); (focus (first | rfl | simp only [envBelow, List.all_cons, List.all_nil, namesAll, AV.names, names_ds, go_sem])); (focus (first | rfl | simp only [List.all_cons, List.all_nil, boxBelow, namesAll, AV.names, names_ds, go_sem])))
  rintro ⟨i, hi⟩ R hR
  try simp only
  repeat (first
      | refine A_seq ?_
      | refine A_block ?_
      | (refine A_region (A_run ?_); simp only [go_sem, Nat.reduceLT, Nat.reduceLeDiff, Nat.reduceAdd, Nat.reduceSub, Nat.reduceMul, Nat.reduceEqDiff, Nat.reduceBEq, Nat.reduceBNe, Nat.reduceMod, Nat.reduceDiv, Int.reduceEq, Int.reduceNe, Int.reduceLT, Int.reduceLE, Int.reduceToNat, Int.reduceBEq, Int.reduceBNe, Int.reduceNeg, reduceIte, reduceCtorEq, reduceDIte, Value.oneCell']; refine A_nil ?_; simp only [Thn, InB])
      | (refine A_condt ?_ ?_; focus (simp only [evo, lk, lk1, lk2, Nat.reduceDiv, Nat.reduceMod]; done))
      | (refine A_condf ?_ ?_; focus (simp only [evo, lk, lk1, lk2, Nat.reduceDiv, Nat.reduceMod]; done))
      | (refine A_skip ?_; simp only [Thn, InB])
      | (refine A_exit ?_; simp only [Thn, InB, reduceIte, Nat.reduceEqDiff])
      | refine A_ret ?_)
  refine A_cond rfl (fun h => ?_) (fun h => ?_)
  · have hlt : i < s.size := by simpa using h
    have hlt2 : ((i : Int) < ((s.size : Nat) : Int)) = True := eq_true (by omega)
    have hw := wrap_succ (i := i) (by omega)
    have hx : (bytesD s)[i]? = some [.v (.int .u8 s.data[i].toNat)] := by rw [bytesD_get, Array.getElem?_eq_getElem hlt]; rfl
    have hh := (hashI_succ (l := s.data.toList) (i := i) (by omega)).symm
    simp only [hstepI, Array.getElem_toList] at hh
    repeat (first
        | refine A_seq ?_
        | refine A_block ?_
        | (refine A_region (A_run ?_); simp only [go_sem, Nat.reduceLT, Nat.reduceLeDiff, Nat.reduceAdd, Nat.reduceSub, Nat.reduceMul, Nat.reduceEqDiff, Nat.reduceBEq, Nat.reduceBNe, Nat.reduceMod, Nat.reduceDiv, Int.reduceEq, Int.reduceNe, Int.reduceLT, Int.reduceLE, Int.reduceToNat, Int.reduceBEq, Int.reduceBNe, Int.reduceNeg, reduceIte, reduceCtorEq, reduceDIte, Value.oneCell', hx, hlt2, over, bytesD_len, hh, hw]; refine A_nil ?_; simp only [Thn, InB])
        | (refine A_condt ?_ ?_; focus (simp only [evo, lk, lk1, lk2, Nat.reduceDiv, Nat.reduceMod]; done))
        | (refine A_condf ?_ ?_; focus (simp only [evo, lk, lk1, lk2, Nat.reduceDiv, Nat.reduceMod]; done))
        | (refine A_skip ?_; simp only [Thn, InB])
        | (refine A_exit ?_; simp only [Thn, InB, reduceIte, Nat.reduceEqDiff])
        | refine A_ret ?_)
    refine hR _ ⟨⟨i + 1, by omega⟩, by simp only; omega, ?_⟩
    (try simp only); ((try dsimp only); refine Sb.mk ?_ ?_ ?_ ?_ ?_ ?_; (focus rfl); (focus (repeat (first | exact eSub_nil _ | refine eSub_cons rfl ?_))); (focus exact ⟨_, rfl⟩); (focus (first | exact Nat.zero_le _ | exact Nat.le_refl _)); (focus (first | rfl | simp only [envBelow, List.all_cons, List.all_nil, namesAll, AV.names, names_ds, go_sem])); (focus (first | rfl | simp only [List.all_cons, List.all_nil, boxBelow, namesAll, AV.names, names_ds, go_sem])))
  · have hge : i = s.size := by simp at h; omega
    subst hge
    rw [← hsl, List.take_length]
    repeat (first
        | refine A_seq ?_
        | refine A_block ?_
        | (refine A_region (A_run ?_); simp only [go_sem, Nat.reduceLT, Nat.reduceLeDiff, Nat.reduceAdd, Nat.reduceSub, Nat.reduceMul, Nat.reduceEqDiff, Nat.reduceBEq, Nat.reduceBNe, Nat.reduceMod, Nat.reduceDiv, Int.reduceEq, Int.reduceNe, Int.reduceLT, Int.reduceLE, Int.reduceToNat, Int.reduceBEq, Int.reduceBNe, Int.reduceNeg, reduceIte, reduceCtorEq, reduceDIte, Value.oneCell']; refine A_nil ?_; simp only [Thn, InB])
        | (refine A_condt ?_ ?_; focus (simp only [evo, lk, lk1, lk2, Nat.reduceDiv, Nat.reduceMod]; done))
        | (refine A_condf ?_ ?_; focus (simp only [evo, lk, lk1, lk2, Nat.reduceDiv, Nat.reduceMod]; done))
        | (refine A_skip ?_; simp only [Thn, InB])
        | (refine A_exit ?_; simp only [Thn, InB, reduceIte, Nat.reduceEqDiff])
        | refine A_ret ?_)
    exact ⟨_, rfl, _, _, fin_pure rfl (Le.refl _), rfl, rfl⟩
theorem rhash_c {W0 : World} (s : ByteArray) (hs : s.size ≤ 140737488355328) : APure Tryd.prog W0 34 [.d (.v (.string s))] (· = .ret (.d (.v (.int .u64 (hashI s.data.toList))))) := by
  refine A_body Tryd.func34 rfl (by simp [Tryd.ntmps34]) ?_
  simp only [Tryd.ntmps34, Tryd.results34, mkEnv, List.length_cons, List.length_nil]
  repeat (first
      | refine A_seq ?_
      | refine A_block ?_
      | (refine A_region (A_run ?_); simp only [go_sem, Nat.reduceLT, Nat.reduceLeDiff, Nat.reduceAdd, Nat.reduceSub, Nat.reduceMul, Nat.reduceEqDiff, Nat.reduceBEq, Nat.reduceBNe, Nat.reduceMod, Nat.reduceDiv, Int.reduceEq, Int.reduceNe, Int.reduceLT, Int.reduceLE, Int.reduceToNat, Int.reduceBEq, Int.reduceBNe, Int.reduceNeg, reduceIte, reduceCtorEq, reduceDIte, Value.oneCell']; refine A_nil ?_; simp only [Thn, InB])
      | (refine A_condt ?_ ?_; focus (simp only [evo, lk, lk1, lk2, Nat.reduceDiv, Nat.reduceMod]; done))
      | (refine A_condf ?_ ?_; focus (simp only [evo, lk, lk1, lk2, Nat.reduceDiv, Nat.reduceMod]; done))
      | (refine A_skip ?_; simp only [Thn, InB])
      | (refine A_exit ?_; simp only [Thn, InB, reduceIte, Nat.reduceEqDiff])
      | refine A_ret ?_)
  have hsl : s.data.toList.length = s.size := Array.length_toList ..
  refine A_lp (σ := { i : Nat // i ≤ s.size }) (fun ξ => (fun i : Nat => (⟨19, ofL [(0, .d (.v (.string s))), (3, .d (.v (.int .u64 (hashI (s.data.toList.take i))))), (4, .d (.v (.int .i64 (i : Nat))))], []⟩ : St)) ξ.1) (fun ξ => s.size - ξ.1) ⟨0, Nat.zero_le _⟩ ?_ ?_
  · (try simp only [List.take_zero, List.map_nil, List.flatten_nil, List.foldl_nil, Int.natCast_zero, Nat.cast_zero, Int.ofNat_zero]); ((try dsimp only); refine Sb.mk ?_ ?_ ?_ ?_ ?_ ?_; (focus rfl); (focus (repeat (first | exact eSub_nil _ | refine eSub_cons rfl ?_))); (focus exact ⟨_, rfl⟩); (focus (first | exact Nat.zero_le _ | exact Nat.le_refl _)); (focus (first | rfl | simp only [envBelow, List.all_cons, List.all_nil, namesAll, AV.names, names_ds, go_sem])); (focus (first | rfl | simp only [List.all_cons, List.all_nil, boxBelow, namesAll, AV.names, names_ds, go_sem])))
  rintro ⟨i, hi⟩ R hR
  try simp only
  repeat (first
      | refine A_seq ?_
      | refine A_block ?_
      | (refine A_region (A_run ?_); simp only [go_sem, Nat.reduceLT, Nat.reduceLeDiff, Nat.reduceAdd, Nat.reduceSub, Nat.reduceMul, Nat.reduceEqDiff, Nat.reduceBEq, Nat.reduceBNe, Nat.reduceMod, Nat.reduceDiv, Int.reduceEq, Int.reduceNe, Int.reduceLT, Int.reduceLE, Int.reduceToNat, Int.reduceBEq, Int.reduceBNe, Int.reduceNeg, reduceIte, reduceCtorEq, reduceDIte, Value.oneCell']; refine A_nil ?_; simp only [Thn, InB])
      | (refine A_condt ?_ ?_; focus (simp only [evo, lk, lk1, lk2, Nat.reduceDiv, Nat.reduceMod]; done))
      | (refine A_condf ?_ ?_; focus (simp only [evo, lk, lk1, lk2, Nat.reduceDiv, Nat.reduceMod]; done))
      | (refine A_skip ?_; simp only [Thn, InB])
      | (refine A_exit ?_; simp only [Thn, InB, reduceIte, Nat.reduceEqDiff])
      | refine A_ret ?_)
  refine A_cond rfl (fun h => ?_) (fun h => ?_)
  · have hlt : i < s.size := by simpa using h
    have hlt2 : ((i : Int) < ((s.size : Nat) : Int)) = True := eq_true (by omega)
    have hw := wrap_succ (i := i) (by omega)
    have hh := (hashI_succ (l := s.data.toList) (i := i) (by omega)).symm
    simp only [hstepI, Array.getElem_toList] at hh
    have hs : s[i]? = some s.data[i] := by
      show (if h : i < s.size then some (s.data[i]) else none) = _
      rw [dif_pos hlt]
    repeat (first
        | refine A_seq ?_
        | refine A_block ?_
        | (refine A_region (A_run ?_); simp only [go_sem, Nat.reduceLT, Nat.reduceLeDiff, Nat.reduceAdd, Nat.reduceSub, Nat.reduceMul, Nat.reduceEqDiff, Nat.reduceBEq, Nat.reduceBNe, Nat.reduceMod, Nat.reduceDiv, Int.reduceEq, Int.reduceNe, Int.reduceLT, Int.reduceLE, Int.reduceToNat, Int.reduceBEq, Int.reduceBNe, Int.reduceNeg, reduceIte, reduceCtorEq, reduceDIte, Value.oneCell', hlt2, hh, hw, hs]; refine A_nil ?_; simp only [Thn, InB])
        | (refine A_condt ?_ ?_; focus (simp only [evo, lk, lk1, lk2, Nat.reduceDiv, Nat.reduceMod]; done))
        | (refine A_condf ?_ ?_; focus (simp only [evo, lk, lk1, lk2, Nat.reduceDiv, Nat.reduceMod]; done))
        | (refine A_skip ?_; simp only [Thn, InB])
        | (refine A_exit ?_; simp only [Thn, InB, reduceIte, Nat.reduceEqDiff])
        | refine A_ret ?_)
    refine hR _ ⟨⟨i + 1, by omega⟩, by simp only; omega, ?_⟩
    (try simp only); ((try dsimp only); refine Sb.mk ?_ ?_ ?_ ?_ ?_ ?_; (focus rfl); (focus (repeat (first | exact eSub_nil _ | refine eSub_cons rfl ?_))); (focus exact ⟨_, rfl⟩); (focus (first | exact Nat.zero_le _ | exact Nat.le_refl _)); (focus (first | rfl | simp only [envBelow, List.all_cons, List.all_nil, namesAll, AV.names, names_ds, go_sem])); (focus (first | rfl | simp only [List.all_cons, List.all_nil, boxBelow, namesAll, AV.names, names_ds, go_sem])))
  · have hge : i = s.size := by simp at h; omega
    subst hge
    rw [← hsl, List.take_length]
    repeat (first
        | refine A_seq ?_
        | refine A_block ?_
        | (refine A_region (A_run ?_); simp only [go_sem, Nat.reduceLT, Nat.reduceLeDiff, Nat.reduceAdd, Nat.reduceSub, Nat.reduceMul, Nat.reduceEqDiff, Nat.reduceBEq, Nat.reduceBNe, Nat.reduceMod, Nat.reduceDiv, Int.reduceEq, Int.reduceNe, Int.reduceLT, Int.reduceLE, Int.reduceToNat, Int.reduceBEq, Int.reduceBNe, Int.reduceNeg, reduceIte, reduceCtorEq, reduceDIte, Value.oneCell']; refine A_nil ?_; simp only [Thn, InB])
        | (refine A_condt ?_ ?_; focus (simp only [evo, lk, lk1, lk2, Nat.reduceDiv, Nat.reduceMod]; done))
        | (refine A_condf ?_ ?_; focus (simp only [evo, lk, lk1, lk2, Nat.reduceDiv, Nat.reduceMod]; done))
        | (refine A_skip ?_; simp only [Thn, InB])
        | (refine A_exit ?_; simp only [Thn, InB, reduceIte, Nat.reduceEqDiff])
        | refine A_ret ?_)
    exact ⟨_, rfl, _, _, fin_pure rfl (Le.refl _), rfl, rfl⟩
end Go.Proofs.YtbgfiflnfndckaaDoor.Lift

/- ValueAttrs: attributes are got, put and dropped, texts hashed, as the document says. No conditions but the room of one pair more. -/
set_option linter.unusedVariables false
set_option linter.unusedSimpArgs false
set_option maxHeartbeats 4000000
set_option maxRecDepth 100000
namespace Go.Proofs.YtbgfiflnfndckaaDoor.Lift
open Go Go.RowKit

theorem attrs_c {W0 : World} (hlives : APure Tryd.prog W0 12 [] (· = .ret (.d (.v (.bool true))))) (m : List (ByteArray × V)) (key : ByteArray) (v : V) (hroom : (m.length + 1) * 112 ≤ 140737488355328) (hkey : key.size ≤ 140737488355328) :
    APure Tryd.prog W0 8 [rP m, .d (.v (.string key)), va v] (· = .ret (.d (.v (.bool true)))) := by
  have g1 := get_c (W0 := W0) key m
  have g2 := rget_c (W0 := W0) key m
  generalize getV key m = G at g1 g2
  obtain ⟨gx, gb⟩ := G
  simp only at g1 g2
  refine A_body Tryd.func8 rfl (by simp [Tryd.ntmps8]) ?_
  simp only [Tryd.ntmps8, Tryd.results8, mkEnv, List.length_cons, List.length_nil, rP, va]
  repeat (first
      | refine A_seq ?_
      | refine A_block ?_
      | (refine A_region (A_run ?_); simp only [go_sem, Nat.reduceLT, Nat.reduceLeDiff, Nat.reduceAdd, Nat.reduceSub, Nat.reduceMul, Nat.reduceEqDiff, Nat.reduceBEq, Nat.reduceBNe, Nat.reduceMod, Nat.reduceDiv, Int.reduceEq, Int.reduceNe, Int.reduceLT, Int.reduceLE, Int.reduceToNat, Int.reduceBEq, Int.reduceBNe, Int.reduceNeg, reduceIte, reduceCtorEq, reduceDIte, Value.oneCell']; refine A_nil ?_; simp only [Thn, InB])
      | (refine A_condt ?_ ?_; focus (simp only [evo, lk, lk1, lk2, Nat.reduceDiv, Nat.reduceMod]; done))
      | (refine A_condf ?_ ?_; focus (simp only [evo, lk, lk1, lk2, Nat.reduceDiv, Nat.reduceMod]; done))
      | (refine A_skip ?_; simp only [Thn, InB])
      | (refine A_exit ?_; simp only [Thn, InB, reduceIte, Nat.reduceEqDiff])
      | refine A_ret ?_)
  (repeat (first | refine A_seq ?_ | refine A_block ?_))
  refine A_region (A_run ?_)
  simp only [go_sem, Nat.reduceLT, Nat.reduceLeDiff, Nat.reduceAdd, Nat.reduceSub, Nat.reduceMul, Nat.reduceEqDiff, Nat.reduceBEq, Nat.reduceBNe, Nat.reduceMod, Nat.reduceDiv, Int.reduceEq, Int.reduceNe, Int.reduceLT, Int.reduceLE, Int.reduceToNat, Int.reduceBEq, Int.reduceBNe, Int.reduceNeg, reduceIte, reduceCtorEq, reduceDIte, Value.oneCell', over]
  (refine A_call (copyPairs_c m) rfl rfl rfl rfl (by first | assumption | simp only [go_sem]) rfl (by first | rfl | simp only [noNames, namesAll, AV.names, names_ds, go_sem, List.append_nil, List.cons_append, List.nil_append, Bool.and_self]) ?_; rintro r rfl; refine ⟨(by first | rfl | simp only [noName, namesAll, AV.names, names_ds, go_sem, Bool.and_self]), A_run ?_⟩; simp only [go_sem, Nat.reduceLT, Nat.reduceLeDiff, Nat.reduceAdd, Nat.reduceSub, Nat.reduceMul, Nat.reduceEqDiff, Nat.reduceBEq, Nat.reduceBNe, Nat.reduceMod, Nat.reduceDiv, Int.reduceEq, Int.reduceNe, Int.reduceLT, Int.reduceLE, Int.reduceToNat, Int.reduceBEq, Int.reduceBNe, Int.reduceNeg, reduceIte, reduceCtorEq, reduceDIte, Value.oneCell', over])
  refine A_nil ?_
  simp only [Thn, InB]
  repeat (first
      | refine A_seq ?_
      | refine A_block ?_
      | (refine A_region (A_run ?_); simp only [go_sem, Nat.reduceLT, Nat.reduceLeDiff, Nat.reduceAdd, Nat.reduceSub, Nat.reduceMul, Nat.reduceEqDiff, Nat.reduceBEq, Nat.reduceBNe, Nat.reduceMod, Nat.reduceDiv, Int.reduceEq, Int.reduceNe, Int.reduceLT, Int.reduceLE, Int.reduceToNat, Int.reduceBEq, Int.reduceBNe, Int.reduceNeg, reduceIte, reduceCtorEq, reduceDIte, Value.oneCell', over]; refine A_nil ?_; simp only [Thn, InB])
      | (refine A_condt ?_ ?_; focus (simp only [evo, lk, lk1, lk2, Nat.reduceDiv, Nat.reduceMod]; done))
      | (refine A_condf ?_ ?_; focus (simp only [evo, lk, lk1, lk2, Nat.reduceDiv, Nat.reduceMod]; done))
      | (refine A_skip ?_; simp only [Thn, InB])
      | (refine A_exit ?_; simp only [Thn, InB, reduceIte, Nat.reduceEqDiff])
      | refine A_ret ?_)
  (repeat (first | refine A_seq ?_ | refine A_block ?_))
  refine A_region (A_run ?_)
  simp only [go_sem, Nat.reduceLT, Nat.reduceLeDiff, Nat.reduceAdd, Nat.reduceSub, Nat.reduceMul, Nat.reduceEqDiff, Nat.reduceBEq, Nat.reduceBNe, Nat.reduceMod, Nat.reduceDiv, Int.reduceEq, Int.reduceNe, Int.reduceLT, Int.reduceLE, Int.reduceToNat, Int.reduceBEq, Int.reduceBNe, Int.reduceNeg, reduceIte, reduceCtorEq, reduceDIte, Value.oneCell', over]
  (refine A_call (g1) rfl rfl rfl rfl (by first | assumption | simp only [go_sem]) rfl (by first | rfl | simp only [noNames, namesAll, AV.names, names_ds, go_sem, List.append_nil, List.cons_append, List.nil_append, Bool.and_self]) ?_; rintro r rfl; refine ⟨(by first | rfl | simp only [noName, namesAll, AV.names, names_ds, go_sem, Bool.and_self]), A_run ?_⟩; simp only [go_sem, Nat.reduceLT, Nat.reduceLeDiff, Nat.reduceAdd, Nat.reduceSub, Nat.reduceMul, Nat.reduceEqDiff, Nat.reduceBEq, Nat.reduceBNe, Nat.reduceMod, Nat.reduceDiv, Int.reduceEq, Int.reduceNe, Int.reduceLT, Int.reduceLE, Int.reduceToNat, Int.reduceBEq, Int.reduceBNe, Int.reduceNeg, reduceIte, reduceCtorEq, reduceDIte, Value.oneCell', over])
  refine A_nil ?_
  simp only [Thn, InB]
  repeat (first
      | refine A_seq ?_
      | refine A_block ?_
      | (refine A_region (A_run ?_); simp only [go_sem, Nat.reduceLT, Nat.reduceLeDiff, Nat.reduceAdd, Nat.reduceSub, Nat.reduceMul, Nat.reduceEqDiff, Nat.reduceBEq, Nat.reduceBNe, Nat.reduceMod, Nat.reduceDiv, Int.reduceEq, Int.reduceNe, Int.reduceLT, Int.reduceLE, Int.reduceToNat, Int.reduceBEq, Int.reduceBNe, Int.reduceNeg, reduceIte, reduceCtorEq, reduceDIte, Value.oneCell', over]; refine A_nil ?_; simp only [Thn, InB])
      | (refine A_condt ?_ ?_; focus (simp only [evo, lk, lk1, lk2, Nat.reduceDiv, Nat.reduceMod]; done))
      | (refine A_condf ?_ ?_; focus (simp only [evo, lk, lk1, lk2, Nat.reduceDiv, Nat.reduceMod]; done))
      | (refine A_skip ?_; simp only [Thn, InB])
      | (refine A_exit ?_; simp only [Thn, InB, reduceIte, Nat.reduceEqDiff])
      | refine A_ret ?_)
  (repeat (first | refine A_seq ?_ | refine A_block ?_))
  refine A_region (A_run ?_)
  simp only [go_sem, Nat.reduceLT, Nat.reduceLeDiff, Nat.reduceAdd, Nat.reduceSub, Nat.reduceMul, Nat.reduceEqDiff, Nat.reduceBEq, Nat.reduceBNe, Nat.reduceMod, Nat.reduceDiv, Int.reduceEq, Int.reduceNe, Int.reduceLT, Int.reduceLE, Int.reduceToNat, Int.reduceBEq, Int.reduceBNe, Int.reduceNeg, reduceIte, reduceCtorEq, reduceDIte, Value.oneCell', over]
  (refine A_call (g2) rfl rfl rfl rfl (by first | assumption | simp only [go_sem]) rfl (by first | rfl | simp only [noNames, namesAll, AV.names, names_ds, go_sem, List.append_nil, List.cons_append, List.nil_append, Bool.and_self]) ?_; rintro r rfl; refine ⟨(by first | rfl | simp only [noName, namesAll, AV.names, names_ds, go_sem, Bool.and_self]), A_run ?_⟩; simp only [go_sem, Nat.reduceLT, Nat.reduceLeDiff, Nat.reduceAdd, Nat.reduceSub, Nat.reduceMul, Nat.reduceEqDiff, Nat.reduceBEq, Nat.reduceBNe, Nat.reduceMod, Nat.reduceDiv, Int.reduceEq, Int.reduceNe, Int.reduceLT, Int.reduceLE, Int.reduceToNat, Int.reduceBEq, Int.reduceBNe, Int.reduceNeg, reduceIte, reduceCtorEq, reduceDIte, Value.oneCell', over])
  refine A_nil ?_
  simp only [Thn, InB]
  (repeat (first | refine A_seq ?_ | refine A_block ?_))
  (first | refine A_quietG (gs := [none, none, some (some 27, true), some (some 27, true), some (some 27, true), none, none, some (some 32, true), some (some 32, true), some (some 32, true), none, none, some (some 37, true), some (some 37, true), some (some 37, true), some (some 37, true), some (some 37, true), some (some 37, true), some (some 37, true), some (some 37, true), some (some 37, true), none, none, some (some 48, true), some (some 48, true), some (some 48, true), some (some 48, true), some (some 48, true), some (some 48, true), some (some 48, true), none, none, some (some 57, true), some (some 57, true), some (some 57, true), some (some 57, true), some (some 57, true), none, none, some (some 64, true), some (some 64, true), some (some 64, true), none, none]) mixedO (by kernel_rfl) (by kernel_rfl) rfl (aqg_run ?_) | refine A_calmG (gs := [none, none, some (some 27, true), some (some 27, true), some (some 27, true), none, none, some (some 32, true), some (some 32, true), some (some 32, true), none, none, some (some 37, true), some (some 37, true), some (some 37, true), some (some 37, true), some (some 37, true), some (some 37, true), some (some 37, true), some (some 37, true), some (some 37, true), none, none, some (some 48, true), some (some 48, true), some (some 48, true), some (some 48, true), some (some 48, true), some (some 48, true), some (some 48, true), none, none, some (some 57, true), some (some 57, true), some (some 57, true), some (some 57, true), some (some 57, true), none, none, some (some 64, true), some (some 64, true), some (some 64, true), none, none]) (by kernel_rfl) rfl (aqg_run ?_)); simp only [runG, stepG_n, stepG_s, opW, bsD, opV, mkOp, resE_ap, resA, go_sem, Nat.reduceLT, Nat.reduceLeDiff, Nat.reduceAdd, Nat.reduceSub, Nat.reduceMul, Nat.reduceEqDiff, Nat.reduceBEq, Nat.reduceBNe, Nat.reduceMod, Nat.reduceDiv, Int.reduceEq, Int.reduceNe, Int.reduceLT, Int.reduceLE, Int.reduceToNat, Int.reduceBEq, Int.reduceBNe, Int.reduceNeg, reduceIte, reduceCtorEq, reduceDIte, Value.oneCell', over]
  (try (refine aqg_nil ?_; (try simp only [Thn, InB])))
  (refine aqg_call (caps := []) (hlives) rfl rfl rfl (by first | assumption | simp only [go_sem]) (by first | rfl | simp only [noNames, namesAll, AV.names, names_ds, go_sem, List.append_nil, List.cons_append, List.nil_append, Bool.and_self]) (by first | rfl | simp only [noName, namesAll, AV.names, names_ds, go_sem, Bool.and_self]) ?_)
  (refine aqg_run ?_; simp only [runG, stepG_n, stepG_s, opW, bsD, opV, mkOp, resE_ap, resA, go_sem, Nat.reduceLT, Nat.reduceLeDiff, Nat.reduceAdd, Nat.reduceSub, Nat.reduceMul, Nat.reduceEqDiff, Nat.reduceBEq, Nat.reduceBNe, Nat.reduceMod, Nat.reduceDiv, Int.reduceEq, Int.reduceNe, Int.reduceLT, Int.reduceLE, Int.reduceToNat, Int.reduceBEq, Int.reduceBNe, Int.reduceNeg, reduceIte, reduceCtorEq, reduceDIte, Value.oneCell', over])
  (try (refine aqg_nil ?_; (try simp only [Thn, InB])))
  (refine aqg_callg0 (fun _ => rsame_c gx) rfl rfl (fun _ => ?_) (by first | assumption | simp only [go_sem]) (by first | rfl | simp only [noNames, namesAll, AV.names, names_ds, go_sem, List.append_nil, List.cons_append, List.nil_append, Bool.and_self]) (by first | rfl | simp only [noName, namesAll, AV.names, names_ds, go_sem, Bool.and_self]) ?_; focus (constructor <;> simp only [go_sem, Nat.reduceLT, Nat.reduceLeDiff, Nat.reduceAdd, Nat.reduceSub, Nat.reduceMul, Nat.reduceEqDiff, Nat.reduceBEq, Nat.reduceBNe, Nat.reduceMod, Nat.reduceDiv, Int.reduceEq, Int.reduceNe, Int.reduceLT, Int.reduceLE, Int.reduceToNat, Int.reduceBEq, Int.reduceBNe, Int.reduceNeg, reduceIte, reduceCtorEq, reduceDIte, Value.oneCell', resE_ap, resA, over]))
  (refine aqg_run ?_; simp only [runG, stepG_n, stepG_s, opW, bsD, opV, mkOp, resE_ap, resA, go_sem, Nat.reduceLT, Nat.reduceLeDiff, Nat.reduceAdd, Nat.reduceSub, Nat.reduceMul, Nat.reduceEqDiff, Nat.reduceBEq, Nat.reduceBNe, Nat.reduceMod, Nat.reduceDiv, Int.reduceEq, Int.reduceNe, Int.reduceLT, Int.reduceLE, Int.reduceToNat, Int.reduceBEq, Int.reduceBNe, Int.reduceNeg, reduceIte, reduceCtorEq, reduceDIte, Value.oneCell', over])
  (try (refine aqg_nil ?_; (try simp only [Thn, InB])))
  (refine aqg_callg0 (fun _ => put_c key v m hroom) rfl rfl (fun _ => ?_) (by first | assumption | simp only [go_sem]) (by first | rfl | simp only [noNames, namesAll, AV.names, names_ds, go_sem, List.append_nil, List.cons_append, List.nil_append, Bool.and_self]) (by first | rfl | simp only [noName, namesAll, AV.names, names_ds, go_sem, Bool.and_self]) ?_; focus (constructor <;> simp only [go_sem, Nat.reduceLT, Nat.reduceLeDiff, Nat.reduceAdd, Nat.reduceSub, Nat.reduceMul, Nat.reduceEqDiff, Nat.reduceBEq, Nat.reduceBNe, Nat.reduceMod, Nat.reduceDiv, Int.reduceEq, Int.reduceNe, Int.reduceLT, Int.reduceLE, Int.reduceToNat, Int.reduceBEq, Int.reduceBNe, Int.reduceNeg, reduceIte, reduceCtorEq, reduceDIte, Value.oneCell', resE_ap, resA]))
  (refine aqg_run ?_; simp only [runG, stepG_n, stepG_s, opW, bsD, opV, mkOp, resE_ap, resA, go_sem, Nat.reduceLT, Nat.reduceLeDiff, Nat.reduceAdd, Nat.reduceSub, Nat.reduceMul, Nat.reduceEqDiff, Nat.reduceBEq, Nat.reduceBNe, Nat.reduceMod, Nat.reduceDiv, Int.reduceEq, Int.reduceNe, Int.reduceLT, Int.reduceLE, Int.reduceToNat, Int.reduceBEq, Int.reduceBNe, Int.reduceNeg, reduceIte, reduceCtorEq, reduceDIte, Value.oneCell'])
  (try (refine aqg_nil ?_; (try simp only [Thn, InB])))
  (refine aqg_callg0 (fun _ => rput_c key v m hroom) rfl rfl (fun _ => ?_) (by first | assumption | simp only [go_sem]) (by first | rfl | simp only [noNames, namesAll, AV.names, names_ds, go_sem, List.append_nil, List.cons_append, List.nil_append, Bool.and_self]) (by first | rfl | simp only [noName, namesAll, AV.names, names_ds, go_sem, Bool.and_self]) ?_; focus (constructor <;> simp only [go_sem, Nat.reduceLT, Nat.reduceLeDiff, Nat.reduceAdd, Nat.reduceSub, Nat.reduceMul, Nat.reduceEqDiff, Nat.reduceBEq, Nat.reduceBNe, Nat.reduceMod, Nat.reduceDiv, Int.reduceEq, Int.reduceNe, Int.reduceLT, Int.reduceLE, Int.reduceToNat, Int.reduceBEq, Int.reduceBNe, Int.reduceNeg, reduceIte, reduceCtorEq, reduceDIte, Value.oneCell', resE_ap, resA]))
  (refine aqg_run ?_; simp only [runG, stepG_n, stepG_s, opW, bsD, opV, mkOp, resE_ap, resA, go_sem, Nat.reduceLT, Nat.reduceLeDiff, Nat.reduceAdd, Nat.reduceSub, Nat.reduceMul, Nat.reduceEqDiff, Nat.reduceBEq, Nat.reduceBNe, Nat.reduceMod, Nat.reduceDiv, Int.reduceEq, Int.reduceNe, Int.reduceLT, Int.reduceLE, Int.reduceToNat, Int.reduceBEq, Int.reduceBNe, Int.reduceNeg, reduceIte, reduceCtorEq, reduceDIte, Value.oneCell'])
  (try (refine aqg_nil ?_; (try simp only [Thn, InB])))
  (refine aqg_callg0 (fun _ => rsameP_c (putV key v m)) rfl rfl (fun _ => ?_) (by first | assumption | simp only [go_sem]) (by first | rfl | simp only [noNames, namesAll, AV.names, names_ds, go_sem, List.append_nil, List.cons_append, List.nil_append, Bool.and_self]) (by first | rfl | simp only [noName, namesAll, AV.names, names_ds, go_sem, Bool.and_self]) ?_; focus (constructor <;> simp only [go_sem, Nat.reduceLT, Nat.reduceLeDiff, Nat.reduceAdd, Nat.reduceSub, Nat.reduceMul, Nat.reduceEqDiff, Nat.reduceBEq, Nat.reduceBNe, Nat.reduceMod, Nat.reduceDiv, Int.reduceEq, Int.reduceNe, Int.reduceLT, Int.reduceLE, Int.reduceToNat, Int.reduceBEq, Int.reduceBNe, Int.reduceNeg, reduceIte, reduceCtorEq, reduceDIte, Value.oneCell', resE_ap, resA]))
  (refine aqg_run ?_; simp only [runG, stepG_n, stepG_s, opW, bsD, opV, mkOp, resE_ap, resA, go_sem, Nat.reduceLT, Nat.reduceLeDiff, Nat.reduceAdd, Nat.reduceSub, Nat.reduceMul, Nat.reduceEqDiff, Nat.reduceBEq, Nat.reduceBNe, Nat.reduceMod, Nat.reduceDiv, Int.reduceEq, Int.reduceNe, Int.reduceLT, Int.reduceLE, Int.reduceToNat, Int.reduceBEq, Int.reduceBNe, Int.reduceNeg, reduceIte, reduceCtorEq, reduceDIte, Value.oneCell'])
  (try (refine aqg_nil ?_; (try simp only [Thn, InB])))
  (refine aqg_callg0 (fun _ => drop_c key m) rfl rfl (fun _ => ?_) (by first | assumption | simp only [go_sem]) (by first | rfl | simp only [noNames, namesAll, AV.names, names_ds, go_sem, List.append_nil, List.cons_append, List.nil_append, Bool.and_self]) (by first | rfl | simp only [noName, namesAll, AV.names, names_ds, go_sem, Bool.and_self]) ?_; focus (constructor <;> simp only [go_sem, Nat.reduceLT, Nat.reduceLeDiff, Nat.reduceAdd, Nat.reduceSub, Nat.reduceMul, Nat.reduceEqDiff, Nat.reduceBEq, Nat.reduceBNe, Nat.reduceMod, Nat.reduceDiv, Int.reduceEq, Int.reduceNe, Int.reduceLT, Int.reduceLE, Int.reduceToNat, Int.reduceBEq, Int.reduceBNe, Int.reduceNeg, reduceIte, reduceCtorEq, reduceDIte, Value.oneCell', resE_ap, resA]))
  (refine aqg_run ?_; simp only [runG, stepG_n, stepG_s, opW, bsD, opV, mkOp, resE_ap, resA, go_sem, Nat.reduceLT, Nat.reduceLeDiff, Nat.reduceAdd, Nat.reduceSub, Nat.reduceMul, Nat.reduceEqDiff, Nat.reduceBEq, Nat.reduceBNe, Nat.reduceMod, Nat.reduceDiv, Int.reduceEq, Int.reduceNe, Int.reduceLT, Int.reduceLE, Int.reduceToNat, Int.reduceBEq, Int.reduceBNe, Int.reduceNeg, reduceIte, reduceCtorEq, reduceDIte, Value.oneCell'])
  (try (refine aqg_nil ?_; (try simp only [Thn, InB])))
  (refine aqg_callg0 (fun _ => rdrop_c key m) rfl rfl (fun _ => ?_) (by first | assumption | simp only [go_sem]) (by first | rfl | simp only [noNames, namesAll, AV.names, names_ds, go_sem, List.append_nil, List.cons_append, List.nil_append, Bool.and_self]) (by first | rfl | simp only [noName, namesAll, AV.names, names_ds, go_sem, Bool.and_self]) ?_; focus (constructor <;> simp only [go_sem, Nat.reduceLT, Nat.reduceLeDiff, Nat.reduceAdd, Nat.reduceSub, Nat.reduceMul, Nat.reduceEqDiff, Nat.reduceBEq, Nat.reduceBNe, Nat.reduceMod, Nat.reduceDiv, Int.reduceEq, Int.reduceNe, Int.reduceLT, Int.reduceLE, Int.reduceToNat, Int.reduceBEq, Int.reduceBNe, Int.reduceNeg, reduceIte, reduceCtorEq, reduceDIte, Value.oneCell', resE_ap, resA]))
  (refine aqg_run ?_; simp only [runG, stepG_n, stepG_s, opW, bsD, opV, mkOp, resE_ap, resA, go_sem, Nat.reduceLT, Nat.reduceLeDiff, Nat.reduceAdd, Nat.reduceSub, Nat.reduceMul, Nat.reduceEqDiff, Nat.reduceBEq, Nat.reduceBNe, Nat.reduceMod, Nat.reduceDiv, Int.reduceEq, Int.reduceNe, Int.reduceLT, Int.reduceLE, Int.reduceToNat, Int.reduceBEq, Int.reduceBNe, Int.reduceNeg, reduceIte, reduceCtorEq, reduceDIte, Value.oneCell'])
  (try (refine aqg_nil ?_; (try simp only [Thn, InB])))
  (refine aqg_callg0 (fun _ => rsameP_c (dropV key m)) rfl rfl (fun _ => ?_) (by first | assumption | simp only [go_sem]) (by first | rfl | simp only [noNames, namesAll, AV.names, names_ds, go_sem, List.append_nil, List.cons_append, List.nil_append, Bool.and_self]) (by first | rfl | simp only [noName, namesAll, AV.names, names_ds, go_sem, Bool.and_self]) ?_; focus (constructor <;> simp only [go_sem, Nat.reduceLT, Nat.reduceLeDiff, Nat.reduceAdd, Nat.reduceSub, Nat.reduceMul, Nat.reduceEqDiff, Nat.reduceBEq, Nat.reduceBNe, Nat.reduceMod, Nat.reduceDiv, Int.reduceEq, Int.reduceNe, Int.reduceLT, Int.reduceLE, Int.reduceToNat, Int.reduceBEq, Int.reduceBNe, Int.reduceNeg, reduceIte, reduceCtorEq, reduceDIte, Value.oneCell', resE_ap, resA]))
  (refine aqg_run ?_; simp only [runG, stepG_n, stepG_s, opW, bsD, opV, mkOp, resE_ap, resA, go_sem, Nat.reduceLT, Nat.reduceLeDiff, Nat.reduceAdd, Nat.reduceSub, Nat.reduceMul, Nat.reduceEqDiff, Nat.reduceBEq, Nat.reduceBNe, Nat.reduceMod, Nat.reduceDiv, Int.reduceEq, Int.reduceNe, Int.reduceLT, Int.reduceLE, Int.reduceToNat, Int.reduceBEq, Int.reduceBNe, Int.reduceNeg, reduceIte, reduceCtorEq, reduceDIte, Value.oneCell'])
  (try (refine aqg_nil ?_; (try simp only [Thn, InB])))
  (refine aqg_callg0 (fun _ => hash_c key hkey) rfl rfl (fun _ => ?_) (by first | assumption | simp only [go_sem]) (by first | rfl | simp only [noNames, namesAll, AV.names, names_ds, go_sem, List.append_nil, List.cons_append, List.nil_append, Bool.and_self]) (by first | rfl | simp only [noName, namesAll, AV.names, names_ds, go_sem, Bool.and_self]) ?_; focus (constructor <;> simp only [go_sem, Nat.reduceLT, Nat.reduceLeDiff, Nat.reduceAdd, Nat.reduceSub, Nat.reduceMul, Nat.reduceEqDiff, Nat.reduceBEq, Nat.reduceBNe, Nat.reduceMod, Nat.reduceDiv, Int.reduceEq, Int.reduceNe, Int.reduceLT, Int.reduceLE, Int.reduceToNat, Int.reduceBEq, Int.reduceBNe, Int.reduceNeg, reduceIte, reduceCtorEq, reduceDIte, Value.oneCell', resE_ap, resA]))
  (refine aqg_run ?_; simp only [runG, stepG_n, stepG_s, opW, bsD, opV, mkOp, resE_ap, resA, go_sem, Nat.reduceLT, Nat.reduceLeDiff, Nat.reduceAdd, Nat.reduceSub, Nat.reduceMul, Nat.reduceEqDiff, Nat.reduceBEq, Nat.reduceBNe, Nat.reduceMod, Nat.reduceDiv, Int.reduceEq, Int.reduceNe, Int.reduceLT, Int.reduceLE, Int.reduceToNat, Int.reduceBEq, Int.reduceBNe, Int.reduceNeg, reduceIte, reduceCtorEq, reduceDIte, Value.oneCell'])
  (try (refine aqg_nil ?_; (try simp only [Thn, InB])))
  (refine aqg_callg0 (fun _ => rhash_c key hkey) rfl rfl (fun _ => ?_) (by first | assumption | simp only [go_sem]) (by first | rfl | simp only [noNames, namesAll, AV.names, names_ds, go_sem, List.append_nil, List.cons_append, List.nil_append, Bool.and_self]) (by first | rfl | simp only [noName, namesAll, AV.names, names_ds, go_sem, Bool.and_self]) ?_; focus (constructor <;> simp only [go_sem, Nat.reduceLT, Nat.reduceLeDiff, Nat.reduceAdd, Nat.reduceSub, Nat.reduceMul, Nat.reduceEqDiff, Nat.reduceBEq, Nat.reduceBNe, Nat.reduceMod, Nat.reduceDiv, Int.reduceEq, Int.reduceNe, Int.reduceLT, Int.reduceLE, Int.reduceToNat, Int.reduceBEq, Int.reduceBNe, Int.reduceNeg, reduceIte, reduceCtorEq, reduceDIte, Value.oneCell', resE_ap, resA]))
  (refine aqg_run ?_; simp only [runG, stepG_n, stepG_s, opW, bsD, opV, mkOp, resE_ap, resA, go_sem, Nat.reduceLT, Nat.reduceLeDiff, Nat.reduceAdd, Nat.reduceSub, Nat.reduceMul, Nat.reduceEqDiff, Nat.reduceBEq, Nat.reduceBNe, Nat.reduceMod, Nat.reduceDiv, Int.reduceEq, Int.reduceNe, Int.reduceLT, Int.reduceLE, Int.reduceToNat, Int.reduceBEq, Int.reduceBNe, Int.reduceNeg, reduceIte, reduceCtorEq, reduceDIte, Value.oneCell'])
  (try (refine aqg_nil ?_; (try simp only [Thn, InB])))
  (refine aqg_callg0 (fun _ => rsameP_c m) rfl rfl (fun _ => ?_) (by first | assumption | simp only [go_sem]) (by first | rfl | simp only [noNames, namesAll, AV.names, names_ds, go_sem, List.append_nil, List.cons_append, List.nil_append, Bool.and_self]) (by first | rfl | simp only [noName, namesAll, AV.names, names_ds, go_sem, Bool.and_self]) ?_; focus (constructor <;> simp only [go_sem, Nat.reduceLT, Nat.reduceLeDiff, Nat.reduceAdd, Nat.reduceSub, Nat.reduceMul, Nat.reduceEqDiff, Nat.reduceBEq, Nat.reduceBNe, Nat.reduceMod, Nat.reduceDiv, Int.reduceEq, Int.reduceNe, Int.reduceLT, Int.reduceLE, Int.reduceToNat, Int.reduceBEq, Int.reduceBNe, Int.reduceNeg, reduceIte, reduceCtorEq, reduceDIte, Value.oneCell', resE_ap, resA]))
  (refine aqg_run ?_; simp only [runG, stepG_n, stepG_s, opW, bsD, opV, mkOp, resE_ap, resA, go_sem, Nat.reduceLT, Nat.reduceLeDiff, Nat.reduceAdd, Nat.reduceSub, Nat.reduceMul, Nat.reduceEqDiff, Nat.reduceBEq, Nat.reduceBNe, Nat.reduceMod, Nat.reduceDiv, Int.reduceEq, Int.reduceNe, Int.reduceLT, Int.reduceLE, Int.reduceToNat, Int.reduceBEq, Int.reduceBNe, Int.reduceNeg, reduceIte, reduceCtorEq, reduceDIte, Value.oneCell'])
  (try (refine aqg_nil ?_; (try simp only [Thn, InB])))
  repeat (first
      | refine A_seq ?_
      | refine A_block ?_
      | (refine A_region (A_run ?_); simp only [go_sem, Nat.reduceLT, Nat.reduceLeDiff, Nat.reduceAdd, Nat.reduceSub, Nat.reduceMul, Nat.reduceEqDiff, Nat.reduceBEq, Nat.reduceBNe, Nat.reduceMod, Nat.reduceDiv, Int.reduceEq, Int.reduceNe, Int.reduceLT, Int.reduceLE, Int.reduceToNat, Int.reduceBEq, Int.reduceBNe, Int.reduceNeg, reduceIte, reduceCtorEq, reduceDIte, Value.oneCell']; refine A_nil ?_; simp only [Thn, InB])
      | (refine A_condt ?_ ?_; focus (simp only [evo, lk, lk1, lk2, Nat.reduceDiv, Nat.reduceMod]; done))
      | (refine A_condf ?_ ?_; focus (simp only [evo, lk, lk1, lk2, Nat.reduceDiv, Nat.reduceMod]; done))
      | (refine A_skip ?_; simp only [Thn, InB])
      | (refine A_exit ?_; simp only [Thn, InB, reduceIte, Nat.reduceEqDiff])
      | refine A_ret ?_)
  exact ⟨_, rfl, _, _, fin_pure rfl (Le.refl _), rfl, rfl⟩
end Go.Proofs.YtbgfiflnfndckaaDoor.Lift

/- The lift: values and pairs that a row is handed. No conditions. -/
set_option linter.unusedVariables false
set_option linter.unusedSimpArgs false
set_option maxHeartbeats 4000000
set_option maxRecDepth 100000
namespace Go.Proofs.YtbgfiflnfndckaaDoor.Lift
open Go Go.RowKit

/-- What a value's types and memory allow. -/
inductive okV : V → Prop
  | mk (k : Nat) (s : ByteArray) (b : Bool) (n : Int) (f : Nat) (l : List V) (m : List (ByteArray × V)) (hk : k < 256) (hs : s.size ≤ 140737488351232) (hn : -9223372036854775808 ≤ n ∧ n ≤ 9223372036854775807) (hf : f < 2 ^ 64) (hl : l.length * 96 ≤ 140737488351232) (hm : m.length * 112 ≤ 140737488351232)
      (hL : ∀ x ∈ l, okV x) (hM : ∀ p ∈ m, p.1.size ≤ 140737488351232) (hM' : ∀ p ∈ m, okV p.2) : okV (.mk k s b n f l m)
def okP (m : List (ByteArray × V)) : Prop := m.length * 112 ≤ 140737488351232 ∧ ∀ p ∈ m, p.1.size ≤ 140737488351232 ∧ okV p.2
theorem rows_of {α : Type} {p : List D → α → Prop} : ∀ {l : List (List D)}, (∀ row ∈ l, ∃ x, p row x) → ∃ xs : List α, xs.length = l.length ∧ ∀ (i : Nat) (row : List D) (x : α), l[i]? = some row → xs[i]? = some x → p row x
  | [], _ => ⟨[], rfl, fun i row x h => by simp at h⟩
  | r :: l, h => by
    obtain ⟨x, hx⟩ := h r (List.mem_cons_self ..)
    obtain ⟨xs, h1, h2⟩ := rows_of fun row hr => h row (List.mem_cons_of_mem _ hr)
    refine ⟨x :: xs, by simp [h1], fun i row y hr hy => ?_⟩
    cases i with
    | zero =>
      cases hr
      cases hy
      exact hx
    | succ i => exact h2 i row y (by simpa using hr) (by simpa using hy)
theorem rows_map {α : Type} {f : α → List D} {q : α → Prop} {l : List (List D)} (h : ∀ row ∈ l, ∃ x, row = f x ∧ q x) : ∃ xs : List α, l = xs.map f ∧ ∀ x ∈ xs, q x := by
  obtain ⟨xs, h1, h2⟩ := rows_of h
  refine ⟨xs, List.ext_getElem? fun i => ?_, fun x hx => ?_⟩
  · rw [List.getElem?_map]
    by_cases hi : i < l.length
    · rw [List.getElem?_eq_getElem hi, List.getElem?_eq_getElem (by omega)]
      exact congrArg some (h2 i _ _ (List.getElem?_eq_getElem hi) (List.getElem?_eq_getElem (by omega))).1
    · rw [List.getElem?_eq_none (by omega), List.getElem?_eq_none (by omega)]
      rfl
  · obtain ⟨i, hi⟩ := List.getElem?_of_mem hx
    have : i < l.length := by rw [← h1]; exact (List.getElem?_eq_some_iff.1 hi).1
    exact (h2 i _ x (List.getElem?_eq_getElem this) hi).2

theorem cellsV : Tryd.prog.cellsOf 27 = 7 := by kernel_rfl
theorem cellsP : Tryd.prog.cellsOf 50 = 8 := by kernel_rfl
theorem bytesV : Tryd.prog.bytesOf 27 = 96 := by kernel_rfl
theorem bytesP : Tryd.prog.bytesOf 50 = 112 := by kernel_rfl

theorem ty_all {t : TypeId} {ds : List D} (h : TyD Tryd.prog t ds) :
    (t = 27 → ∃ x, ds = vD x ∧ okV x) ∧ (t = 50 → ∃ p, ds = pD p ∧ p.1.size ≤ 140737488351232 ∧ okV p.2) ∧
    (t = 24 → ∃ l : List V, ds = [.rows 7 96 (l.map vD)] ∧ l.length * 96 ≤ 140737488351232 ∧ ∀ x ∈ l, okV x) ∧ (t = 25 → ∃ m, ds = [.rows 8 112 (m.map pD)] ∧ okP m) := by
  have hu1 := Tryd.underlying27
  have hu2 := Tryd.underlying50
  have hu3 := Tryd.underlying24
  have hu4 := Tryd.underlying25
  induction h with
  | int t k a hu _ => exact ⟨(by rintro rfl; rw [hu1] at hu; cases hu), (by rintro rfl; rw [hu2] at hu; cases hu), (by rintro rfl; rw [hu3] at hu; cases hu), (by rintro rfl; rw [hu4] at hu; cases hu)⟩
  | str t s hu _ => exact ⟨(by rintro rfl; rw [hu1] at hu; cases hu), (by rintro rfl; rw [hu2] at hu; cases hu), (by rintro rfl; rw [hu3] at hu; cases hu), (by rintro rfl; rw [hu4] at hu; cases hu)⟩
  | bool t b hu => exact ⟨(by rintro rfl; rw [hu1] at hu; cases hu), (by rintro rfl; rw [hu2] at hu; cases hu), (by rintro rfl; rw [hu3] at hu; cases hu), (by rintro rfl; rw [hu4] at hu; cases hu)⟩
  | float t k b hu _ => exact ⟨(by rintro rfl; rw [hu1] at hu; cases hu), (by rintro rfl; rw [hu2] at hu; cases hu), (by rintro rfl; rw [hu3] at hu; cases hu), (by rintro rfl; rw [hu4] at hu; cases hu)⟩
  | slice t e sz bt l hu hs hb hl h ih =>
    refine ⟨(by rintro rfl; rw [hu1] at hu; cases hu), (by rintro rfl; rw [hu2] at hu; cases hu), ?_, ?_⟩
    · rintro rfl
      rw [hu3] at hu
      cases hu
      rw [cellsV] at hs
      rw [bytesV] at hb
      subst hs hb
      obtain ⟨xs, rfl, h2⟩ := rows_map (f := vD) (q := okV) fun row hr => (ih row hr).1 rfl
      exact ⟨xs, rfl, by simpa using hl, h2⟩
    · rintro rfl
      rw [hu4] at hu
      cases hu
      rw [cellsP] at hs
      rw [bytesP] at hb
      subst hs hb
      obtain ⟨xs, rfl, h2⟩ := rows_map (f := pD) (q := fun p => p.1.size ≤ 140737488351232 ∧ okV p.2) fun row hr => (ih row hr).2.1 rfl
      exact ⟨xs, rfl, by simpa using hl, h2⟩
  | struct t fs dss hu hl h ih =>
    refine ⟨?_, ?_, (by rintro rfl; rw [hu3] at hu; cases hu), (by rintro rfl; rw [hu4] at hu; cases hu)⟩
    · rintro rfl
      rw [hu1] at hu
      cases hu
      match dss, hl with
      | [d0, d1, d2, d3, d4, d5, d6], _ =>
      obtain ⟨a0, rfl, w0⟩ := (h 0 _ d0 rfl rfl).int_inv Tryd.underlying22
      obtain ⟨a1, rfl, w1⟩ := (h 1 _ d1 rfl rfl).str_inv Tryd.underlying9
      obtain ⟨a2, rfl⟩ := (h 2 _ d2 rfl rfl).bool_inv Tryd.underlying4
      obtain ⟨a3, rfl, w3⟩ := (h 3 _ d3 rfl rfl).int_inv Tryd.underlying2
      obtain ⟨a4, rfl, w4⟩ := (h 4 _ d4 rfl rfl).float_inv Tryd.underlying23
      obtain ⟨l, rfl, w5, w5'⟩ := (ih 5 _ d5 rfl rfl).2.2.1 rfl
      obtain ⟨m, rfl, w6, w6'⟩ := (ih 6 _ d6 rfl rfl).2.2.2 rfl
      obtain ⟨k, rfl, hk⟩ := range_u8 w0
      refine ⟨.mk k a1 a2 a3 a4 l m, ?_, .mk _ _ _ _ _ _ _ hk w1 (range_i64 w3) (by simpa [Lit.wf] using w4) w5 w6 w5' (fun p hp => (w6' p hp).1) (fun p hp => (w6' p hp).2)⟩
      simp only [vD, vDs_map, pDs_map, List.flatten_cons, List.flatten_nil, List.cons_append, List.nil_append]
    · rintro rfl
      rw [hu2] at hu
      cases hu
      match dss, hl with
      | [d0, d1], _ =>
      obtain ⟨a0, rfl, w0⟩ := (h 0 _ d0 rfl rfl).str_inv Tryd.underlying9
      obtain ⟨x, rfl, w1⟩ := (ih 1 _ d1 rfl rfl).1 rfl
      exact ⟨(a0, x), by simp only [pD, List.flatten_cons, List.flatten_nil, List.cons_append, List.nil_append, List.append_nil], w0, w1⟩
theorem ty_V {ds : List D} (h : TyD Tryd.prog 27 ds) : ∃ x, ds = vD x ∧ okV x := (ty_all h).1 rfl
theorem ty_P {ds : List D} (h : TyD Tryd.prog 50 ds) : ∃ p, ds = pD p ∧ p.1.size ≤ 140737488351232 ∧ okV p.2 := (ty_all h).2.1 rfl
theorem ty_Ps {ds : List D} (h : TyD Tryd.prog 25 ds) : ∃ m, ds = [.rows 8 112 (m.map pD)] ∧ okP m := (ty_all h).2.2.2 rfl
theorem rows_P {l : List (List D)} (h : ∀ row ∈ l, TyD Tryd.prog 50 row) (hl : l.length * 112 ≤ 140737488351232) : ∃ m, l = m.map pD ∧ okP m := by
  obtain ⟨m, rfl, h2⟩ := rows_map (f := pD) (q := fun p => p.1.size ≤ 140737488351232 ∧ okV p.2) fun row hr => ty_P (h row hr)
  exact ⟨m, rfl, by simpa using hl, h2⟩
end Go.Proofs.YtbgfiflnfndckaaDoor.Lift

/- The lift: old contracts as new ones. No conditions. -/
set_option linter.unusedVariables false
set_option linter.unusedSimpArgs false
namespace Go.Proofs.YtbgfiflnfndckaaDoor.Lift
open Go Go.RowKit

/-- A function that leaves what was there, and answers a plain value. -/
theorem pure_old {P : Program} {W0 : World} {f : FuncId} {args : List AV} {v : Value} (hv : v.oneCell' = true) (h : ∀ (M : Nat → Prop) (m : Nat → Pl) (w : World) (us : Array Value), RAs M m w args us.toList → Calls P f us w fun e w' => e = .returned v ∧ Below w.heap.size w w') : APure P W0 f args (· = .ret (.d (.v v))) := by
  intro M m w us hc ha
  refine (h M m w us ha).mono ?_
  rintro e w' ⟨rfl, hb⟩
  have hf : Fr (fun _ => False) w w' := Fr.below hb
  refine ⟨.ret (.d (.v v)), [], M, m, ⟨rfl, rfl⟩, RA.v_mk (m := m) hv, ?_⟩
  exact hc.chg hf (hc.base.trans hf) (fun _ h => h) (fun _ h => .inl h) (fun k hk => Nat.lt_of_lt_of_le (hc.mLt k hk) hf.size)
theorem lives_c {W0 : World} : APure Tryd.prog W0 12 [] (· = .ret (.d (.v (.bool true)))) := by
  refine pure_old rfl fun M m w us ha => ?_
  obtain rfl : us = #[] := by
    have := ha.length
    exact Array.eq_empty_of_size_eq_zero (by simpa using this.symm)
  exact vlives_calls w
end Go.Proofs.YtbgfiflnfndckaaDoor.Lift

/- ValueAttrs' walk, out of the lift. No conditions but that the arguments lie in memory. -/
set_option linter.unusedVariables false
set_option linter.unusedSimpArgs false
set_option maxHeartbeats 4000000
set_option maxRecDepth 100000
namespace Go.Proofs.YtbgfiflnfndckaaDoor.Lift
open Go Go.RowKit

theorem attrs_walk {w : World} {l0 : List (List D)} {v0 : Value} (rd0 : RD (fun _ => False) w (.rows (Tryd.prog.cellsOf 50) (Tryd.prog.bytesOf 50) l0) v0) (hl0 : l0.length * Tryd.prog.bytesOf 50 ≤ 140737488351232) (ty0 : ∀ row ∈ l0, TyD Tryd.prog 50 row)
    (key : ByteArray) (hkey : key.size ≤ 140737488351232) {ds2 : List D} {us2 : Array Value} (ty2 : TyD Tryd.prog 27 ds2) (rd2 : Dts w ds2 us2.toList) :
    Calls Tryd.prog 8 #[v0, .string key, .agg us2] w fun e w' => e = .returned (.bool true) ∧ Below w.heap.size w w' := by
  rw [cellsP, bytesP] at rd0
  rw [bytesP] at hl0
  obtain ⟨m, rfl, hm⟩ := rows_P ty0 hl0
  obtain ⟨v, rfl, hv⟩ := ty_V ty2
  have h1 := hm.1
  refine (attrs_c (W0 := w) lives_c m key v (by omega) (by omega)).calls ?_
  simp only [RAs, rP, va, and_true]
  exact ⟨ra_d rd0, RA.v_mk rfl, ra_agg rd2⟩
end Go.Proofs.YtbgfiflnfndckaaDoor.Lift
