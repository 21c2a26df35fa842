/- Joined from Lvj, Lvk, Lvl, Lvm, Lvn. No conditions. -/
import Derived.Test.YtbgfiflnfndckaaDoorLwa
import Derived.Test.YtbgfiflnfndckaaDoorLgb
import Derived.Test.YtbgfiflnfndckaaDoorVn
import Derived.Test.YtbgfiflnfndckaaDoorLod
/- The lift: DeleteFunc, Drop. No conditions. -/
set_option linter.unusedVariables false
set_option linter.unusedSimpArgs false
namespace Go.Proofs.YtbgfiflnfndckaaDoor.Lift
open Go Go.RowKit

def dropV (key : ByteArray) (m : List (ByteArray × V)) : List (ByteArray × V) := m.filter fun p => !isK key p
theorem drop_none {key : ByteArray} : ∀ {m : List (ByteArray × V)}, fI (isK key) m = none → dropV key m = m
  | [], _ => rfl
  | p :: m, h => by
    simp only [fI] at h
    split at h
    · cases h
    · rename_i hp
      simp only [Option.map_eq_none_iff] at h
      have hp' : isK key p = false := by simpa using hp
      have := drop_none h
      unfold dropV at this ⊢
      rw [List.filter_cons, hp', this]
      rfl
theorem drop_hit {key : ByteArray} : ∀ {m : List (ByteArray × V)} {i : Nat}, fI (isK key) m = some i → dropV key (m.take (i + 1)) = m.take i
  | [], _, h => by simp [fI] at h
  | p :: m, i, h => by
    simp only [fI] at h
    split at h
    · rename_i hp
      cases h
      simp [dropV, hp]
    · rename_i hp
      simp only [Option.map_eq_some_iff] at h
      obtain ⟨j, hj, rfl⟩ := h
      have hp' : isK key p = false := by simpa using hp
      have := drop_hit hj
      unfold dropV at this ⊢
      rw [List.take_succ_cons, List.filter_cons, hp', this]
      rfl
/-- Where DeleteFunc stands: i are kept, j are seen, r is the row. -/
structure DelAt (key : ByteArray) (m : List (ByteArray × V)) where
  i : Nat
  j : Nat
  r : List (List D)
  hij : i < j
  hj : j ≤ m.length
  hr : r.length = m.length
  kept : r.take i = (dropV key (m.take j)).map pD
  rest : ∀ q, j ≤ q → r[q]? = (m.map pD)[q]?
  len8 : ∀ row ∈ r, row.length = 8
theorem drop_snoc {key : ByteArray} {m : List (ByteArray × V)} {j : Nat} (h : j < m.length) : dropV key (m.take (j + 1)) = dropV key (m.take j) ++ (if isK key m[j] = true then [] else [m[j]]) := by
  unfold dropV
  rw [List.take_add_one, List.getElem?_eq_getElem h, List.filter_append, Option.toList_some]
  cases hk : isK key m[j] <;> simp [hk]
def DelAt.start {key : ByteArray} {m : List (ByteArray × V)} {i : Nat} (ho : fI (isK key) m = some i) (hi : i < m.length) : DelAt key m :=
  ⟨i, i + 1, m.map pD, by omega, by omega, by simp, by rw [drop_hit ho, List.map_take], fun _ _ => rfl, fun row hr => by
    obtain ⟨p, _, rfl⟩ := List.mem_map.1 hr
    exact pD_len p⟩
def DelAt.skip {key : ByteArray} {m : List (ByteArray × V)} (s : DelAt key m) (h : s.j < m.length) (hk : isK key m[s.j] = true) : DelAt key m :=
  ⟨s.i, s.j + 1, s.r, by have := s.hij; omega, by omega, s.hr, by rw [drop_snoc h, if_pos hk, List.append_nil]; exact s.kept, fun q hq => s.rest q (by omega), s.len8⟩
def DelAt.keep {key : ByteArray} {m : List (ByteArray × V)} (s : DelAt key m) (h : s.j < m.length) (hk : isK key m[s.j] = false) : DelAt key m :=
  ⟨s.i + 1, s.j + 1, s.r.set s.i (pD m[s.j]), by have := s.hij; omega, by omega, by rw [List.length_set]; exact s.hr, by
    have hi : s.i < s.r.length := by have := s.hij; have := s.hr; omega
    rw [drop_snoc h, hk, if_neg (by simp), List.map_append, ← s.kept, List.take_add_one, List.getElem?_set_self hi, List.take_set_of_le (Nat.le_refl _)]
    rfl, fun q hq => by
    rw [List.getElem?_set_ne (by have := s.hij; omega)]
    exact s.rest q (by omega), fun row hr => by
    rcases List.mem_or_eq_of_mem_set hr with h1 | rfl
    · exact s.len8 row h1
    · exact pD_len _⟩

set_option maxHeartbeats 4000000 in
set_option maxRecDepth 100000 in
theorem del_c {W0 : World} (key : ByteArray) (m : List (ByteArray × V)) (hb47 : m.length * 112 ≤ 140737488355328) : ACalls Tryd.prog W0 67 [.sl 0 8 0 m.length, kf key] [.vec 8 112 (m.map pD)] (fun r L' => r = .ret (.sl 0 8 0 (dropV key m).length) ∧ L' = [.vec 8 112 ((dropV key m).map pD)]) := by
  have hix := ixf_c (W0 := W0) key m
  have lm : (m.map pD).length = m.length := List.length_map ..
  have tm := take_len (l := m.map pD) lm
  have hz : fzL 0 8 112 (m.map pD) ([.sl 0 8 0 m.length, .fn 89 [.dp [.v (.string key)]]] ++ []) = [rP m, kf key] := by
    simp only [List.cons_append, List.nil_append, fzL, fzA, if_true, Nat.zero_add, lm, Nat.le_refl, and_self, List.drop_zero, tm, rP, kf]
  refine A_body Tryd.func67 rfl (by simp [Tryd.ntmps67]) ?_
  simp only [Tryd.ntmps67, Tryd.results67, mkEnv, List.length_cons, List.length_nil, kf]
  repeat (first
      | refine A_seq ?_
      | refine A_block ?_
      | (refine A_region (A_run ?_); simp only [go_sem, Nat.reduceLT, Nat.reduceLeDiff, Nat.reduceAdd, Nat.reduceSub, Nat.reduceMul, Nat.reduceEqDiff, Nat.reduceBEq, Nat.reduceBNe, Nat.reduceMod, Nat.reduceDiv, Int.reduceEq, Int.reduceNe, Int.reduceLT, Int.reduceLE, Int.reduceToNat, Int.reduceBEq, Int.reduceBNe, Int.reduceNeg, reduceIte, reduceCtorEq, reduceDIte, Value.oneCell']; refine A_nil ?_; simp only [Thn, InB])
      | (refine A_condt ?_ ?_; focus (simp only [evo, lk, lk1, lk2, Nat.reduceDiv, Nat.reduceMod]; done))
      | (refine A_condf ?_ ?_; focus (simp only [evo, lk, lk1, lk2, Nat.reduceDiv, Nat.reduceMod]; done))
      | (refine A_skip ?_; simp only [Thn, InB])
      | (refine A_exit ?_; simp only [Thn, InB, reduceIte, Nat.reduceEqDiff])
      | refine A_ret ?_)
  refine A_region (A_run ?_)
  simp only [go_sem, Nat.reduceLT, Nat.reduceLeDiff, Nat.reduceAdd, Nat.reduceSub, Nat.reduceMul, Nat.reduceEqDiff, Nat.reduceBEq, Nat.reduceBNe, Nat.reduceMod, Nat.reduceDiv, Int.reduceEq, Int.reduceNe, Int.reduceLT, Int.reduceLE, Int.reduceToNat, Int.reduceBEq, Int.reduceBNe, Int.reduceNeg, reduceIte, reduceCtorEq, reduceDIte, Value.oneCell']
  refine A_lend 0 hix rfl rfl rfl rfl rfl (by simp only [go_sem]) rfl hz (by simp only [noNames, namesAll, AV.names, rP, kf, Bool.and_self]) ?_
  rintro r rfl
  refine ⟨_, .inl ⟨rfl, A_run ?_⟩⟩
  simp only [go_sem, Nat.reduceLT, Nat.reduceLeDiff, Nat.reduceAdd, Nat.reduceSub, Nat.reduceMul, Nat.reduceEqDiff, Nat.reduceBEq, Nat.reduceBNe, Nat.reduceMod, Nat.reduceDiv, Int.reduceEq, Int.reduceNe, Int.reduceLT, Int.reduceLE, Int.reduceToNat, Int.reduceBEq, Int.reduceBNe, Int.reduceNeg, reduceIte, reduceCtorEq, reduceDIte, Value.oneCell']
  refine A_nil ?_
  simp only [Thn, InB]
  cases ho : fI (isK key) m with
  | none =>
    simp only [fN]
    repeat (first
        | refine A_seq ?_
        | refine A_block ?_
        | (refine A_region (A_run ?_); simp only [go_sem, Nat.reduceLT, Nat.reduceLeDiff, Nat.reduceAdd, Nat.reduceSub, Nat.reduceMul, Nat.reduceEqDiff, Nat.reduceBEq, Nat.reduceBNe, Nat.reduceMod, Nat.reduceDiv, Int.reduceEq, Int.reduceNe, Int.reduceLT, Int.reduceLE, Int.reduceToNat, Int.reduceBEq, Int.reduceBNe, Int.reduceNeg, reduceIte, reduceCtorEq, reduceDIte, Value.oneCell']; refine A_nil ?_; simp only [Thn, InB])
        | (refine A_condt ?_ ?_; focus (simp only [evo, lk, lk1, lk2, Nat.reduceDiv, Nat.reduceMod]; done))
        | (refine A_condf ?_ ?_; focus (simp only [evo, lk, lk1, lk2, Nat.reduceDiv, Nat.reduceMod]; done))
        | (refine A_skip ?_; simp only [Thn, InB])
        | (refine A_exit ?_; simp only [Thn, InB, reduceIte, Nat.reduceEqDiff])
        | refine A_ret ?_)
    refine ⟨_, rfl, [.vec 8 112 (m.map pD)], _, fin_mk ⟨[], rfl⟩ (Nat.le_refl _) rfl rfl (Le.refl _), ?_, ?_⟩
    · rw [drop_none ho]
    · rw [drop_none ho]
  | some i0 =>
    obtain ⟨p, hp, hkp⟩ := fI_some ho
    have hi0 := (List.getElem?_eq_some_iff.1 hp).1
    have hne : ((i0 : Int) = -1) = False := eq_false (by omega)
    have hne' : ((i0 : Int) == -1) = false := by simp
    have hw0 := wrap_succ (i := i0) (by omega)
    simp only [fN]
    repeat (first
        | refine A_seq ?_
        | refine A_block ?_
        | (refine A_region (A_run ?_); simp only [go_sem, Nat.reduceLT, Nat.reduceLeDiff, Nat.reduceAdd, Nat.reduceSub, Nat.reduceMul, Nat.reduceEqDiff, Nat.reduceBEq, Nat.reduceBNe, Nat.reduceMod, Nat.reduceDiv, Int.reduceEq, Int.reduceNe, Int.reduceLT, Int.reduceLE, Int.reduceToNat, Int.reduceBEq, Int.reduceBNe, Int.reduceNeg, reduceIte, reduceCtorEq, reduceDIte, Value.oneCell', hne, hne', hw0]; refine A_nil ?_; simp only [Thn, InB])
        | (refine A_condt ?_ ?_; focus (simp only [evo, lk, lk1, lk2, Nat.reduceDiv, Nat.reduceMod]; done))
        | (refine A_condf ?_ ?_; focus (simp only [evo, lk, lk1, lk2, Nat.reduceDiv, Nat.reduceMod]; done))
        | (refine A_skip ?_; simp only [Thn, InB])
        | (refine A_exit ?_; simp only [Thn, InB, reduceIte, Nat.reduceEqDiff])
        | refine A_ret ?_)
    refine A_lp (σ := DelAt key m) (fun s => ⟨42, ofL [(0, .sl 0 8 0 m.length), (1, .fn 89 [.dp [.v (.string key)]]), (5, .d (.v (.int .i64 (s.i : Nat)))), (6, .d (.v (.int .i64 (s.j : Nat))))], [.vec 8 112 s.r]⟩) (fun s => m.length - s.j) (DelAt.start ho hi0) ?_ ?_
    · ((try dsimp only); refine Sb.mk ?_ ?_ ?_ ?_ ?_ ?_; (focus rfl); (focus (repeat (first | exact eSub_nil _ | refine eSub_cons rfl ?_))); (focus exact ⟨_, rfl⟩); (focus (first | exact Nat.zero_le _ | exact Nat.le_refl _)); (focus rfl); (focus rfl))
    · intro s R hR
      have hij := s.hij
      have hjm := s.hj
      have hrm := s.hr
      try simp only
      repeat (first
          | refine A_seq ?_
          | refine A_block ?_
          | (refine A_region (A_run ?_); simp only [go_sem, Nat.reduceLT, Nat.reduceLeDiff, Nat.reduceAdd, Nat.reduceSub, Nat.reduceMul, Nat.reduceEqDiff, Nat.reduceBEq, Nat.reduceBNe, Nat.reduceMod, Nat.reduceDiv, Int.reduceEq, Int.reduceNe, Int.reduceLT, Int.reduceLE, Int.reduceToNat, Int.reduceBEq, Int.reduceBNe, Int.reduceNeg, reduceIte, reduceCtorEq, reduceDIte, Value.oneCell']; refine A_nil ?_; simp only [Thn, InB])
          | (refine A_condt ?_ ?_; focus (simp only [evo, lk, lk1, lk2, Nat.reduceDiv, Nat.reduceMod]; done))
          | (refine A_condf ?_ ?_; focus (simp only [evo, lk, lk1, lk2, Nat.reduceDiv, Nat.reduceMod]; done))
          | (refine A_skip ?_; simp only [Thn, InB])
          | (refine A_exit ?_; simp only [Thn, InB, reduceIte, Nat.reduceEqDiff])
          | refine A_ret ?_)
      refine A_cond rfl (fun h => ?_) (fun h => ?_)
      · have hlt : s.j < m.length := by simpa using h
        have hlt2 : ((s.j : Int) < (m.length : Int)) = True := eq_true (by omega)
        have hx : s.r[s.j]? = some (.v (.string m[s.j].1) :: vD m[s.j].2) := by rw [s.rest s.j (Nat.le_refl _), List.getElem?_map, List.getElem?_eq_getElem hlt]; rfl
        have tx := take_len (l := (vD m[s.j].2).map AV.d) (n := 7) (by rw [List.length_map, vD_len])
        have lx := vD_len m[s.j].2
        have hw := wrap_succ (i := s.j) (by omega)
        have hwi := wrap_succ (i := s.i) (by omega)
        have hir : s.i < s.r.length := by omega
        have hxi : s.r[s.i]? = some s.r[s.i] := List.getElem?_eq_getElem hir
        have l8 := s.len8 s.r[s.i] (List.getElem_mem hir)
        have d8 := drop_len (l := s.r[s.i]) l8
        have hlti : ((s.i : Int) < (m.length : Int)) = True := eq_true (by omega)
        repeat (first
            | refine A_seq ?_
            | refine A_block ?_
            | (refine A_region (A_run ?_); simp only [go_sem, Nat.reduceLT, Nat.reduceLeDiff, Nat.reduceAdd, Nat.reduceSub, Nat.reduceMul, Nat.reduceEqDiff, Nat.reduceBEq, Nat.reduceBNe, Nat.reduceMod, Nat.reduceDiv, Int.reduceEq, Int.reduceNe, Int.reduceLT, Int.reduceLE, Int.reduceToNat, Int.reduceBEq, Int.reduceBNe, Int.reduceNeg, reduceIte, reduceCtorEq, reduceDIte, Value.oneCell', hx, tx, lx, hlt2, over]; refine A_nil ?_; simp only [Thn, InB])
            | (refine A_condt ?_ ?_; focus (simp only [evo, lk, lk1, lk2, Nat.reduceDiv, Nat.reduceMod]; done))
            | (refine A_condf ?_ ?_; focus (simp only [evo, lk, lk1, lk2, Nat.reduceDiv, Nat.reduceMod]; done))
            | (refine A_skip ?_; simp only [Thn, InB])
            | (refine A_exit ?_; simp only [Thn, InB, reduceIte, Nat.reduceEqDiff])
            | refine A_ret ?_)
        refine A_region (A_run ?_)
        simp only [go_sem, Nat.reduceLT, Nat.reduceLeDiff, Nat.reduceAdd, Nat.reduceSub, Nat.reduceMul, Nat.reduceEqDiff, Nat.reduceBEq, Nat.reduceBNe, Nat.reduceMod, Nat.reduceDiv, Int.reduceEq, Int.reduceNe, Int.reduceLT, Int.reduceLE, Int.reduceToNat, Int.reduceBEq, Int.reduceBNe, Int.reduceNeg, reduceIte, reduceCtorEq, reduceDIte, Value.oneCell', tx, lx]
        (refine A_call (isK_c key m[s.j]) rfl rfl rfl rfl (by first | assumption | simp only [go_sem]) rfl (by first | rfl | simp only [noNames, namesAll, AV.names, names_ds, go_sem, List.append_nil, List.cons_append, List.nil_append, Bool.and_self]) ?_; rintro r rfl; refine ⟨by first | rfl | simp only [noName, namesAll, AV.names, names_ds, go_sem, Bool.and_self], A_run ?_⟩; simp only [go_sem, Nat.reduceLT, Nat.reduceLeDiff, Nat.reduceAdd, Nat.reduceSub, Nat.reduceMul, Nat.reduceEqDiff, Nat.reduceBEq, Nat.reduceBNe, Nat.reduceMod, Nat.reduceDiv, Int.reduceEq, Int.reduceNe, Int.reduceLT, Int.reduceLE, Int.reduceToNat, Int.reduceBEq, Int.reduceBNe, Int.reduceNeg, reduceIte, reduceCtorEq, reduceDIte, Value.oneCell'])
        refine A_nil ?_
        simp only [Thn, InB]
        refine A_cond rfl (fun h => ?_) (fun h => ?_)
        · have hk : isK key m[s.j] = false := by simpa using h
          repeat (first
              | refine A_seq ?_
              | refine A_block ?_
              | (refine A_region (A_run ?_); simp only [go_sem, Nat.reduceLT, Nat.reduceLeDiff, Nat.reduceAdd, Nat.reduceSub, Nat.reduceMul, Nat.reduceEqDiff, Nat.reduceBEq, Nat.reduceBNe, Nat.reduceMod, Nat.reduceDiv, Int.reduceEq, Int.reduceNe, Int.reduceLT, Int.reduceLE, Int.reduceToNat, Int.reduceBEq, Int.reduceBNe, Int.reduceNeg, reduceIte, reduceCtorEq, reduceDIte, Value.oneCell', tx, lx, hlti, hxi, l8, d8, over, hwi, hw]; refine A_nil ?_; simp only [Thn, InB])
              | (refine A_condt ?_ ?_; focus (simp only [evo, lk, lk1, lk2, Nat.reduceDiv, Nat.reduceMod]; done))
              | (refine A_condf ?_ ?_; focus (simp only [evo, lk, lk1, lk2, Nat.reduceDiv, Nat.reduceMod]; done))
              | (refine A_skip ?_; simp only [Thn, InB])
              | (refine A_exit ?_; simp only [Thn, InB, reduceIte, Nat.reduceEqDiff])
              | refine A_ret ?_)
          refine hR _ ⟨s.keep hlt hk, by show m.length - (s.j + 1) < m.length - s.j; omega, ?_⟩
          ((try dsimp only); refine Sb.mk ?_ ?_ ?_ ?_ ?_ ?_; (focus rfl); (focus (repeat (first | exact eSub_nil _ | refine eSub_cons rfl ?_))); (focus exact ⟨_, rfl⟩); (focus (first | exact Nat.zero_le _ | exact Nat.le_refl _)); (focus rfl); (focus rfl))
        · have hk : isK key m[s.j] = true := by simpa using h
          repeat (first
              | refine A_seq ?_
              | refine A_block ?_
              | (refine A_region (A_run ?_); simp only [go_sem, Nat.reduceLT, Nat.reduceLeDiff, Nat.reduceAdd, Nat.reduceSub, Nat.reduceMul, Nat.reduceEqDiff, Nat.reduceBEq, Nat.reduceBNe, Nat.reduceMod, Nat.reduceDiv, Int.reduceEq, Int.reduceNe, Int.reduceLT, Int.reduceLE, Int.reduceToNat, Int.reduceBEq, Int.reduceBNe, Int.reduceNeg, reduceIte, reduceCtorEq, reduceDIte, Value.oneCell', hw]; refine A_nil ?_; simp only [Thn, InB])
              | (refine A_condt ?_ ?_; focus (simp only [evo, lk, lk1, lk2, Nat.reduceDiv, Nat.reduceMod]; done))
              | (refine A_condf ?_ ?_; focus (simp only [evo, lk, lk1, lk2, Nat.reduceDiv, Nat.reduceMod]; done))
              | (refine A_skip ?_; simp only [Thn, InB])
              | (refine A_exit ?_; simp only [Thn, InB, reduceIte, Nat.reduceEqDiff])
              | refine A_ret ?_)
          refine hR _ ⟨s.skip hlt hk, by show m.length - (s.j + 1) < m.length - s.j; omega, ?_⟩
          ((try dsimp only); refine Sb.mk ?_ ?_ ?_ ?_ ?_ ?_; (focus rfl); (focus (repeat (first | exact eSub_nil _ | refine eSub_cons rfl ?_))); (focus exact ⟨_, rfl⟩); (focus (first | exact Nat.zero_le _ | exact Nat.le_refl _)); (focus rfl); (focus rfl))
      · have hge : s.j = m.length := by simp at h; omega
        have le1 : (s.i ≤ m.length) = True := eq_true (by omega)
        have lt1 : (s.i < m.length) = True := eq_true (by omega)
        have hk : s.r.take s.i = (dropV key m).map pD := by
          have := s.kept
          rwa [hge, List.take_length] at this
        have hki : (dropV key m).length = s.i := by
          have := congrArg List.length hk
          simp only [List.length_take, List.length_map] at this
          omega
        repeat (first
            | refine A_seq ?_
            | refine A_block ?_
            | (refine A_region (A_run ?_); simp only [go_sem, Nat.reduceLT, Nat.reduceLeDiff, Nat.reduceAdd, Nat.reduceSub, Nat.reduceMul, Nat.reduceEqDiff, Nat.reduceBEq, Nat.reduceBNe, Nat.reduceMod, Nat.reduceDiv, Int.reduceEq, Int.reduceNe, Int.reduceLT, Int.reduceLE, Int.reduceToNat, Int.reduceBEq, Int.reduceBNe, Int.reduceNeg, reduceIte, reduceCtorEq, reduceDIte, Value.oneCell']; refine A_nil ?_; simp only [Thn, InB])
            | (refine A_condt ?_ ?_; focus (simp only [evo, lk, lk1, lk2, Nat.reduceDiv, Nat.reduceMod]; done))
            | (refine A_condf ?_ ?_; focus (simp only [evo, lk, lk1, lk2, Nat.reduceDiv, Nat.reduceMod]; done))
            | (refine A_skip ?_; simp only [Thn, InB])
            | (refine A_exit ?_; simp only [Thn, InB, reduceIte, Nat.reduceEqDiff])
            | refine A_ret ?_)
        refine A_region (A_run ?_)
        simp only [go_sem, Nat.reduceLT, Nat.reduceLeDiff, Nat.reduceAdd, Nat.reduceSub, Nat.reduceMul, Nat.reduceEqDiff, Nat.reduceBEq, Nat.reduceBNe, Nat.reduceMod, Nat.reduceDiv, Int.reduceEq, Int.reduceNe, Int.reduceLT, Int.reduceLE, Int.reduceToNat, Int.reduceBEq, Int.reduceBNe, Int.reduceNeg, reduceIte, reduceCtorEq, reduceDIte, Value.oneCell', le1, lt1]
        refine A_clear (b := 0) (lo := s.i) (sz := 8) (bt := 112) (l := s.r) rfl rfl rfl (by simp only [go_sem] <;> rfl) (by simp only [go_sem] <;> rfl) (by simp only [go_sem] <;> rfl) ?_ ?_ rfl rfl (by omega) (A_run ?_)
        · rfl
        · rfl
        simp only [go_sem, Nat.reduceLT, Nat.reduceLeDiff, Nat.reduceAdd, Nat.reduceSub, Nat.reduceMul, Nat.reduceEqDiff, Nat.reduceBEq, Nat.reduceBNe, Nat.reduceMod, Nat.reduceDiv, Int.reduceEq, Int.reduceNe, Int.reduceLT, Int.reduceLE, Int.reduceToNat, Int.reduceBEq, Int.reduceBNe, Int.reduceNeg, reduceIte, reduceCtorEq, reduceDIte, Value.oneCell', hk]
        refine A_nil ?_
        simp only [Thn, InB]
        repeat (first
            | refine A_seq ?_
            | refine A_block ?_
            | (refine A_region (A_run ?_); simp only [go_sem, Nat.reduceLT, Nat.reduceLeDiff, Nat.reduceAdd, Nat.reduceSub, Nat.reduceMul, Nat.reduceEqDiff, Nat.reduceBEq, Nat.reduceBNe, Nat.reduceMod, Nat.reduceDiv, Int.reduceEq, Int.reduceNe, Int.reduceLT, Int.reduceLE, Int.reduceToNat, Int.reduceBEq, Int.reduceBNe, Int.reduceNeg, reduceIte, reduceCtorEq, reduceDIte, Value.oneCell', le1, lt1]; refine A_nil ?_; simp only [Thn, InB])
            | (refine A_condt ?_ ?_; focus (simp only [evo, lk, lk1, lk2, Nat.reduceDiv, Nat.reduceMod]; done))
            | (refine A_condf ?_ ?_; focus (simp only [evo, lk, lk1, lk2, Nat.reduceDiv, Nat.reduceMod]; done))
            | (refine A_skip ?_; simp only [Thn, InB])
            | (refine A_exit ?_; simp only [Thn, InB, reduceIte, Nat.reduceEqDiff])
            | refine A_ret ?_)
        refine ⟨_, rfl, [.vec 8 112 ((dropV key m).map pD)], _, fin_mk ⟨[], rfl⟩ (Nat.le_refl _) rfl rfl (Le.refl _), ?_, rfl⟩
        rw [hki]

set_option maxHeartbeats 4000000 in
set_option maxRecDepth 100000 in
theorem drop_c {W0 : World} (key : ByteArray) (m : List (ByteArray × V)) : APure Tryd.prog W0 32 [rP m, .d (.v (.string key))] (· = .ret (rP (dropV key m))) := by
  refine APure.known fun hk => ?_
  have hb47 := ab_rP (hk (rP m) (by simp))
  refine A_body Tryd.func32 rfl (by simp [Tryd.ntmps32]) ?_
  simp only [Tryd.ntmps32, Tryd.results32, mkEnv, List.length_nil, rP]
  repeat (first
      | refine A_seq ?_
      | refine A_block ?_
      | (refine A_region (A_run ?_); simp only [go_sem, Nat.reduceLT, Nat.reduceLeDiff, Nat.reduceAdd, Nat.reduceSub, Nat.reduceMul, Nat.reduceEqDiff, Nat.reduceBEq, Nat.reduceBNe, Nat.reduceMod, Nat.reduceDiv, Int.reduceEq, Int.reduceNe, Int.reduceLT, Int.reduceLE, Int.reduceToNat, Int.reduceBEq, Int.reduceBNe, Int.reduceNeg, reduceIte, reduceCtorEq, reduceDIte, Value.oneCell']; refine A_nil ?_; simp only [Thn, InB])
      | (refine A_condt ?_ ?_; focus (simp only [evo, lk, lk1, lk2, Nat.reduceDiv, Nat.reduceMod]; done))
      | (refine A_condf ?_ ?_; focus (simp only [evo, lk, lk1, lk2, Nat.reduceDiv, Nat.reduceMod]; done))
      | (refine A_skip ?_; simp only [Thn, InB])
      | (refine A_exit ?_; simp only [Thn, InB, reduceIte, Nat.reduceEqDiff])
      | refine A_ret ?_)
  refine A_region (A_run ?_)
  simp only [go_sem, Nat.reduceLT, Nat.reduceLeDiff, Nat.reduceAdd, Nat.reduceSub, Nat.reduceMul, Nat.reduceEqDiff, Nat.reduceBEq, Nat.reduceBNe, Nat.reduceMod, Nat.reduceDiv, Int.reduceEq, Int.reduceNe, Int.reduceLT, Int.reduceLE, Int.reduceToNat, Int.reduceBEq, Int.reduceBNe, Int.reduceNeg, reduceIte, reduceCtorEq, reduceDIte, Value.oneCell']
  refine A_callB [] (ownPairs_of m fun p _ => own_c p.2) rfl rfl rfl rfl (by simp only [go_sem]) rfl (by simp) rfl (fun i b h => by simp at h) rfl ?_
  rintro r L' ⟨rfl, rfl⟩
  refine ⟨rfl, A_run ?_⟩
  simp only [St.aft, killPE, mapE, killP, killPB, killPL, moved, setAll, renB, renA, sg_nil, go_sem, Nat.reduceLT, Nat.reduceLeDiff, Nat.reduceAdd, Nat.reduceSub, Nat.reduceMul, Nat.reduceEqDiff, Nat.reduceBEq, Nat.reduceBNe, Nat.reduceMod, Nat.reduceDiv, Int.reduceEq, Int.reduceNe, Int.reduceLT, Int.reduceLE, Int.reduceToNat, Int.reduceBEq, Int.reduceBNe, Int.reduceNeg, reduceIte, reduceCtorEq, reduceDIte, Value.oneCell']
  (refine A_call (named_c key) rfl rfl rfl rfl (by first | assumption | simp only [go_sem]) rfl (by first | rfl | simp only [noNames, namesAll, AV.names, names_ds, go_sem, List.append_nil, List.cons_append, List.nil_append, Bool.and_self]) ?_; rintro r rfl; refine ⟨by first | rfl | simp only [noName, namesAll, AV.names, names_ds, go_sem, Bool.and_self], A_run ?_⟩; simp only [go_sem, Nat.reduceLT, Nat.reduceLeDiff, Nat.reduceAdd, Nat.reduceSub, Nat.reduceMul, Nat.reduceEqDiff, Nat.reduceBEq, Nat.reduceBNe, Nat.reduceMod, Nat.reduceDiv, Int.reduceEq, Int.reduceNe, Int.reduceLT, Int.reduceLE, Int.reduceToNat, Int.reduceBEq, Int.reduceBNe, Int.reduceNeg, reduceIte, reduceCtorEq, reduceDIte, Value.oneCell', kf])
  refine A_callB [0] (del_c key m hb47) rfl rfl rfl rfl (by simp only [go_sem]) rfl (by simp) rfl (fun i b h => ?_) rfl ?_
  · match i, h with
    | 0, h =>
      simp only [List.getElem?_cons_zero, Option.some.injEq] at h
      subst h
      rfl
  rintro r L' ⟨rfl, rfl⟩
  refine ⟨rfl, A_run ?_⟩
  have hs0 : ∀ k, sg [0] k 0 = 0 := fun k => rfl
  simp only [St.aft, killPE, mapE, killP, killPB, killPL, moved, setAll, renB, renA, hs0, go_sem, Nat.reduceLT, Nat.reduceLeDiff, Nat.reduceAdd, Nat.reduceSub, Nat.reduceMul, Nat.reduceEqDiff, Nat.reduceBEq, Nat.reduceBNe, Nat.reduceMod, Nat.reduceDiv, Int.reduceEq, Int.reduceNe, Int.reduceLT, Int.reduceLE, Int.reduceToNat, Int.reduceBEq, Int.reduceBNe, Int.reduceNeg, reduceIte, reduceCtorEq, reduceDIte, Value.oneCell']
  refine A_nil ?_
  simp only [Thn, InB]
  refine A_sub _ (Sb.freeze 0 rfl (Nat.zero_le _)) ?_
  have ht : List.take (dropV key m).length ((dropV key m).map pD) = (dropV key m).map pD := List.take_of_length_le (by simp)
  simp only [fzE, mapE, fzA, fzL, fzB, go_sem, Nat.reduceLT, Nat.reduceLeDiff, Nat.reduceAdd, Nat.reduceSub, Nat.reduceMul, Nat.reduceEqDiff, Nat.reduceBEq, Nat.reduceBNe, Nat.reduceMod, Nat.reduceDiv, Int.reduceEq, Int.reduceNe, Int.reduceLT, Int.reduceLE, Int.reduceToNat, Int.reduceBEq, Int.reduceBNe, Int.reduceNeg, reduceIte, reduceCtorEq, reduceDIte, Value.oneCell', ht]
  repeat (first
      | refine A_seq ?_
      | refine A_block ?_
      | (refine A_region (A_run ?_); simp only [go_sem, Nat.reduceLT, Nat.reduceLeDiff, Nat.reduceAdd, Nat.reduceSub, Nat.reduceMul, Nat.reduceEqDiff, Nat.reduceBEq, Nat.reduceBNe, Nat.reduceMod, Nat.reduceDiv, Int.reduceEq, Int.reduceNe, Int.reduceLT, Int.reduceLE, Int.reduceToNat, Int.reduceBEq, Int.reduceBNe, Int.reduceNeg, reduceIte, reduceCtorEq, reduceDIte, Value.oneCell']; refine A_nil ?_; simp only [Thn, InB])
      | (refine A_condt ?_ ?_; focus (simp only [evo, lk, lk1, lk2, Nat.reduceDiv, Nat.reduceMod]; done))
      | (refine A_condf ?_ ?_; focus (simp only [evo, lk, lk1, lk2, Nat.reduceDiv, Nat.reduceMod]; done))
      | (refine A_skip ?_; simp only [Thn, InB])
      | (refine A_exit ?_; simp only [Thn, InB, reduceIte, Nat.reduceEqDiff])
      | refine A_ret ?_)
  exact ⟨_, rfl, _, _, fin_pure rfl (Le.refl _), rfl, rfl⟩
end Go.Proofs.YtbgfiflnfndckaaDoor.Lift

/- ValuePuts: what is put is got, what is dropped is not; all other keys stay. Plain laws. No conditions. -/
set_option linter.unusedVariables false
set_option linter.unusedSimpArgs false
namespace Go.Proofs.YtbgfiflnfndckaaDoor.Lift
open Go Go.RowKit

theorem getV_nil (key : ByteArray) : getV key [] = (V0, false) := rfl
theorem getV_cons (key : ByteArray) (p : ByteArray × V) (m : List (ByteArray × V)) : getV key (p :: m) = if isK key p = true then (p.2, true) else getV key m := by
  by_cases h : isK key p = true
  · simp [getV, fI, h]
  · rw [if_neg h]
    unfold getV
    rw [fI, if_neg h]
    cases fI (isK key) m <;> simp
theorem putV_nil (key : ByteArray) (v : V) : putV key v [] = [(key, v)] := rfl
theorem putV_cons (key : ByteArray) (v : V) (p : ByteArray × V) (m : List (ByteArray × V)) : putV key v (p :: m) = if isK key p = true then (p.1, v) :: m else p :: putV key v m := by
  by_cases h : isK key p = true
  · simp [putV, fI, h]
  · rw [if_neg h]
    unfold putV
    rw [fI, if_neg h]
    cases fI (isK key) m <;> simp
theorem isK_self (key : ByteArray) (v : V) : isK key (key, v) = true := by simp [isK]
theorem isK_key {key : ByteArray} {p : ByteArray × V} (v : V) : isK key (p.1, v) = isK key p := rfl
theorem isK_other {key other : ByteArray} {p : ByteArray × V} (h : (other.toList == key.toList) = false) (hp : isK key p = true) : isK other p = false := by
  simp only [isK, beq_iff_eq] at hp
  simp only [isK, hp]
  simp only [beq_eq_false_iff_ne, ne_eq] at h ⊢
  exact fun e => h e.symm
theorem get_put (key : ByteArray) (v : V) : ∀ m : List (ByteArray × V), getV key (putV key v m) = (v, true)
  | [] => by rw [putV_nil, getV_cons, if_pos (isK_self key v)]
  | p :: m => by
    rw [putV_cons]
    by_cases h : isK key p = true
    · rw [if_pos h, getV_cons, if_pos (by rw [isK_key]; exact h)]
    · rw [if_neg h, getV_cons, if_neg h, get_put key v m]
theorem get_put_other {key other : ByteArray} (v : V) (h : (other.toList == key.toList) = false) : ∀ m : List (ByteArray × V), getV other (putV key v m) = getV other m
  | [] => by rw [putV_nil, getV_cons, isK_other h (isK_self key v)]; rfl
  | p :: m => by
    rw [putV_cons, getV_cons other p]
    by_cases hk : isK key p = true
    · rw [if_pos hk, getV_cons, isK_key, isK_other h hk]
      simp
    · rw [if_neg hk, getV_cons, get_put_other v h m]
theorem drop_cons (key : ByteArray) (p : ByteArray × V) (m : List (ByteArray × V)) : dropV key (p :: m) = if isK key p = true then dropV key m else p :: dropV key m := by
  unfold dropV
  rw [List.filter_cons]
  by_cases h : isK key p = true <;> simp [h]
theorem drop_put (key : ByteArray) (v : V) : ∀ m : List (ByteArray × V), dropV key (putV key v m) = dropV key m
  | [] => by rw [putV_nil, drop_cons, if_pos (isK_self key v)]
  | p :: m => by
    rw [putV_cons, drop_cons key p m]
    by_cases h : isK key p = true
    · rw [if_pos h, drop_cons, if_pos (by rw [isK_key]; exact h), if_pos h]
    · rw [if_neg h, drop_cons, if_neg h, if_neg h, drop_put key v m]
theorem get_drop (key : ByteArray) : ∀ m : List (ByteArray × V), getV key (dropV key m) = (V0, false)
  | [] => rfl
  | p :: m => by
    rw [drop_cons]
    by_cases h : isK key p = true
    · rw [if_pos h, get_drop key m]
    · rw [if_neg h, getV_cons, if_neg h, get_drop key m]
theorem get_drop_other {key other : ByteArray} (h : (other.toList == key.toList) = false) : ∀ m : List (ByteArray × V), getV other (dropV key m) = getV other m
  | [] => rfl
  | p :: m => by
    rw [drop_cons, getV_cons other p]
    by_cases hk : isK key p = true
    · rw [if_pos hk, isK_other h hk, get_drop_other h m]
      rfl
    · rw [if_neg hk, getV_cons, get_drop_other h m]

set_option maxHeartbeats 8000000 in
set_option maxRecDepth 100000 in
theorem puts_c {W0 : World} (hlives : APure Tryd.prog W0 12 [] (· = .ret (.d (.v (.bool true))))) (m : List (ByteArray × V)) (key other : ByteArray) (v : V) (hroom : (m.length + 1) * 112 ≤ 140737488355328) :
    APure Tryd.prog W0 9 [rP m, .d (.v (.string key)), .d (.v (.string other)), va v] (· = .ret (.d (.v (.bool true)))) := by
  have tv := take_len (l := (vD v).map AV.d) (n := 7) (by rw [List.length_map, vD_len])
  have dv := drop_len (l := vD v) (n := 7) (vD_len _)
  have lv := vD_len v
  refine A_body Tryd.func9 rfl (by simp [Tryd.ntmps9]) ?_
  simp only [Tryd.ntmps9, Tryd.results9, mkEnv, List.length_nil, rP, va]
  repeat (first
      | refine A_seq ?_
      | refine A_block ?_
      | (refine A_region (A_run ?_); simp only [go_sem, Nat.reduceLT, Nat.reduceLeDiff, Nat.reduceAdd, Nat.reduceSub, Nat.reduceMul, Nat.reduceEqDiff, Nat.reduceBEq, Nat.reduceBNe, Nat.reduceMod, Nat.reduceDiv, Int.reduceEq, Int.reduceNe, Int.reduceLT, Int.reduceLE, Int.reduceToNat, Int.reduceBEq, Int.reduceBNe, Int.reduceNeg, reduceIte, reduceCtorEq, reduceDIte, Value.oneCell', tv, lv]; refine A_nil ?_; simp only [Thn, InB])
      | (refine A_condt ?_ ?_; focus (simp only [evo, lk, lk1, lk2, Nat.reduceDiv, Nat.reduceMod]; done))
      | (refine A_condf ?_ ?_; focus (simp only [evo, lk, lk1, lk2, Nat.reduceDiv, Nat.reduceMod]; done))
      | (refine A_skip ?_; simp only [Thn, InB])
      | (refine A_exit ?_; simp only [Thn, InB, reduceIte, Nat.reduceEqDiff])
      | refine A_ret ?_)
  refine A_region (A_run ?_)
  simp only [go_sem, Nat.reduceLT, Nat.reduceLeDiff, Nat.reduceAdd, Nat.reduceSub, Nat.reduceMul, Nat.reduceEqDiff, Nat.reduceBEq, Nat.reduceBNe, Nat.reduceMod, Nat.reduceDiv, Int.reduceEq, Int.reduceNe, Int.reduceLT, Int.reduceLE, Int.reduceToNat, Int.reduceBEq, Int.reduceBNe, Int.reduceNeg, reduceIte, reduceCtorEq, reduceDIte, Value.oneCell']
  (refine A_call (hlives) rfl rfl rfl rfl (by first | assumption | simp only [go_sem]) rfl (by first | rfl | simp only [noNames, namesAll, AV.names, names_ds, go_sem, List.append_nil, List.cons_append, List.nil_append, Bool.and_self]) ?_; rintro r rfl; refine ⟨by first | rfl | simp only [noName, namesAll, AV.names, names_ds, go_sem, Bool.and_self], A_run ?_⟩; simp only [go_sem, Nat.reduceLT, Nat.reduceLeDiff, Nat.reduceAdd, Nat.reduceSub, Nat.reduceMul, Nat.reduceEqDiff, Nat.reduceBEq, Nat.reduceBNe, Nat.reduceMod, Nat.reduceDiv, Int.reduceEq, Int.reduceNe, Int.reduceLT, Int.reduceLE, Int.reduceToNat, Int.reduceBEq, Int.reduceBNe, Int.reduceNeg, reduceIte, reduceCtorEq, reduceDIte, Value.oneCell'])
  refine A_nil ?_
  simp only [Thn, InB]
  repeat (first
      | refine A_seq ?_
      | refine A_block ?_
      | (refine A_region (A_run ?_); simp only [go_sem, Nat.reduceLT, Nat.reduceLeDiff, Nat.reduceAdd, Nat.reduceSub, Nat.reduceMul, Nat.reduceEqDiff, Nat.reduceBEq, Nat.reduceBNe, Nat.reduceMod, Nat.reduceDiv, Int.reduceEq, Int.reduceNe, Int.reduceLT, Int.reduceLE, Int.reduceToNat, Int.reduceBEq, Int.reduceBNe, Int.reduceNeg, reduceIte, reduceCtorEq, reduceDIte, Value.oneCell']; refine A_nil ?_; simp only [Thn, InB])
      | (refine A_condt ?_ ?_; focus (simp only [evo, lk, lk1, lk2, Nat.reduceDiv, Nat.reduceMod]; done))
      | (refine A_condf ?_ ?_; focus (simp only [evo, lk, lk1, lk2, Nat.reduceDiv, Nat.reduceMod]; done))
      | (refine A_skip ?_; simp only [Thn, InB])
      | (refine A_exit ?_; simp only [Thn, InB, reduceIte, Nat.reduceEqDiff])
      | refine A_ret ?_)
  refine A_region (A_run ?_)
  simp only [go_sem, Nat.reduceLT, Nat.reduceLeDiff, Nat.reduceAdd, Nat.reduceSub, Nat.reduceMul, Nat.reduceEqDiff, Nat.reduceBEq, Nat.reduceBNe, Nat.reduceMod, Nat.reduceDiv, Int.reduceEq, Int.reduceNe, Int.reduceLT, Int.reduceLE, Int.reduceToNat, Int.reduceBEq, Int.reduceBNe, Int.reduceNeg, reduceIte, reduceCtorEq, reduceDIte, Value.oneCell', tv, lv]
  (refine A_call (put_c key v m hroom) rfl rfl rfl rfl (by first | assumption | simp only [go_sem]) rfl (by first | rfl | simp only [noNames, namesAll, AV.names, names_ds, go_sem, List.append_nil, List.cons_append, List.nil_append, Bool.and_self]) ?_; rintro r rfl; refine ⟨by first | rfl | simp only [noName, namesAll, AV.names, names_ds, go_sem, Bool.and_self], A_run ?_⟩; simp only [go_sem, Nat.reduceLT, Nat.reduceLeDiff, Nat.reduceAdd, Nat.reduceSub, Nat.reduceMul, Nat.reduceEqDiff, Nat.reduceBEq, Nat.reduceBNe, Nat.reduceMod, Nat.reduceDiv, Int.reduceEq, Int.reduceNe, Int.reduceLT, Int.reduceLE, Int.reduceToNat, Int.reduceBEq, Int.reduceBNe, Int.reduceNeg, reduceIte, reduceCtorEq, reduceDIte, Value.oneCell'])
  refine A_nil ?_
  simp only [Thn, InB]
  repeat (first
      | refine A_seq ?_
      | refine A_block ?_
      | (refine A_region (A_run ?_); simp only [go_sem, Nat.reduceLT, Nat.reduceLeDiff, Nat.reduceAdd, Nat.reduceSub, Nat.reduceMul, Nat.reduceEqDiff, Nat.reduceBEq, Nat.reduceBNe, Nat.reduceMod, Nat.reduceDiv, Int.reduceEq, Int.reduceNe, Int.reduceLT, Int.reduceLE, Int.reduceToNat, Int.reduceBEq, Int.reduceBNe, Int.reduceNeg, reduceIte, reduceCtorEq, reduceDIte, Value.oneCell']; refine A_nil ?_; simp only [Thn, InB])
      | (refine A_condt ?_ ?_; focus (simp only [evo, lk, lk1, lk2, Nat.reduceDiv, Nat.reduceMod]; done))
      | (refine A_condf ?_ ?_; focus (simp only [evo, lk, lk1, lk2, Nat.reduceDiv, Nat.reduceMod]; done))
      | (refine A_skip ?_; simp only [Thn, InB])
      | (refine A_exit ?_; simp only [Thn, InB, reduceIte, Nat.reduceEqDiff])
      | refine A_ret ?_)
  have g1 := get_c (W0 := W0) key (putV key v m)
  rw [get_put] at g1
  refine A_region (A_run ?_)
  simp only [go_sem, Nat.reduceLT, Nat.reduceLeDiff, Nat.reduceAdd, Nat.reduceSub, Nat.reduceMul, Nat.reduceEqDiff, Nat.reduceBEq, Nat.reduceBNe, Nat.reduceMod, Nat.reduceDiv, Int.reduceEq, Int.reduceNe, Int.reduceLT, Int.reduceLE, Int.reduceToNat, Int.reduceBEq, Int.reduceBNe, Int.reduceNeg, reduceIte, reduceCtorEq, reduceDIte, Value.oneCell']
  (refine A_call (g1) rfl rfl rfl rfl (by first | assumption | simp only [go_sem]) rfl (by first | rfl | simp only [noNames, namesAll, AV.names, names_ds, go_sem, List.append_nil, List.cons_append, List.nil_append, Bool.and_self]) ?_; rintro r rfl; refine ⟨by first | rfl | simp only [noName, namesAll, AV.names, names_ds, go_sem, Bool.and_self], A_run ?_⟩; simp only [go_sem, Nat.reduceLT, Nat.reduceLeDiff, Nat.reduceAdd, Nat.reduceSub, Nat.reduceMul, Nat.reduceEqDiff, Nat.reduceBEq, Nat.reduceBNe, Nat.reduceMod, Nat.reduceDiv, Int.reduceEq, Int.reduceNe, Int.reduceLT, Int.reduceLE, Int.reduceToNat, Int.reduceBEq, Int.reduceBNe, Int.reduceNeg, reduceIte, reduceCtorEq, reduceDIte, Value.oneCell', tv, lv, dv, over])
  refine A_nil ?_
  simp only [Thn, InB]
  repeat (first
      | refine A_seq ?_
      | refine A_block ?_
      | (refine A_region (A_run ?_); simp only [go_sem, Nat.reduceLT, Nat.reduceLeDiff, Nat.reduceAdd, Nat.reduceSub, Nat.reduceMul, Nat.reduceEqDiff, Nat.reduceBEq, Nat.reduceBNe, Nat.reduceMod, Nat.reduceDiv, Int.reduceEq, Int.reduceNe, Int.reduceLT, Int.reduceLE, Int.reduceToNat, Int.reduceBEq, Int.reduceBNe, Int.reduceNeg, reduceIte, reduceCtorEq, reduceDIte, Value.oneCell']; refine A_nil ?_; simp only [Thn, InB])
      | (refine A_condt ?_ ?_; focus (simp only [evo, lk, lk1, lk2, Nat.reduceDiv, Nat.reduceMod]; done))
      | (refine A_condf ?_ ?_; focus (simp only [evo, lk, lk1, lk2, Nat.reduceDiv, Nat.reduceMod]; done))
      | (refine A_skip ?_; simp only [Thn, InB])
      | (refine A_exit ?_; simp only [Thn, InB, reduceIte, Nat.reduceEqDiff])
      | refine A_ret ?_)
  refine A_region (A_run ?_)
  simp only [go_sem, Nat.reduceLT, Nat.reduceLeDiff, Nat.reduceAdd, Nat.reduceSub, Nat.reduceMul, Nat.reduceEqDiff, Nat.reduceBEq, Nat.reduceBNe, Nat.reduceMod, Nat.reduceDiv, Int.reduceEq, Int.reduceNe, Int.reduceLT, Int.reduceLE, Int.reduceToNat, Int.reduceBEq, Int.reduceBNe, Int.reduceNeg, reduceIte, reduceCtorEq, reduceDIte, Value.oneCell']
  (refine A_call (drop_c key (putV key v m)) rfl rfl rfl rfl (by first | assumption | simp only [go_sem]) rfl (by first | rfl | simp only [noNames, namesAll, AV.names, names_ds, go_sem, List.append_nil, List.cons_append, List.nil_append, Bool.and_self]) ?_; rintro r rfl; refine ⟨by first | rfl | simp only [noName, namesAll, AV.names, names_ds, go_sem, Bool.and_self], A_run ?_⟩; simp only [go_sem, Nat.reduceLT, Nat.reduceLeDiff, Nat.reduceAdd, Nat.reduceSub, Nat.reduceMul, Nat.reduceEqDiff, Nat.reduceBEq, Nat.reduceBNe, Nat.reduceMod, Nat.reduceDiv, Int.reduceEq, Int.reduceNe, Int.reduceLT, Int.reduceLE, Int.reduceToNat, Int.reduceBEq, Int.reduceBNe, Int.reduceNeg, reduceIte, reduceCtorEq, reduceDIte, Value.oneCell'])
  refine A_nil ?_
  simp only [Thn, InB]
  repeat (first
      | refine A_seq ?_
      | refine A_block ?_
      | (refine A_region (A_run ?_); simp only [go_sem, Nat.reduceLT, Nat.reduceLeDiff, Nat.reduceAdd, Nat.reduceSub, Nat.reduceMul, Nat.reduceEqDiff, Nat.reduceBEq, Nat.reduceBNe, Nat.reduceMod, Nat.reduceDiv, Int.reduceEq, Int.reduceNe, Int.reduceLT, Int.reduceLE, Int.reduceToNat, Int.reduceBEq, Int.reduceBNe, Int.reduceNeg, reduceIte, reduceCtorEq, reduceDIte, Value.oneCell']; refine A_nil ?_; simp only [Thn, InB])
      | (refine A_condt ?_ ?_; focus (simp only [evo, lk, lk1, lk2, Nat.reduceDiv, Nat.reduceMod]; done))
      | (refine A_condf ?_ ?_; focus (simp only [evo, lk, lk1, lk2, Nat.reduceDiv, Nat.reduceMod]; done))
      | (refine A_skip ?_; simp only [Thn, InB])
      | (refine A_exit ?_; simp only [Thn, InB, reduceIte, Nat.reduceEqDiff])
      | refine A_ret ?_)
  have g2 := get_c (W0 := W0) key (dropV key (putV key v m))
  rw [get_drop] at g2
  refine A_region (A_run ?_)
  simp only [go_sem, Nat.reduceLT, Nat.reduceLeDiff, Nat.reduceAdd, Nat.reduceSub, Nat.reduceMul, Nat.reduceEqDiff, Nat.reduceBEq, Nat.reduceBNe, Nat.reduceMod, Nat.reduceDiv, Int.reduceEq, Int.reduceNe, Int.reduceLT, Int.reduceLE, Int.reduceToNat, Int.reduceBEq, Int.reduceBNe, Int.reduceNeg, reduceIte, reduceCtorEq, reduceDIte, Value.oneCell']
  have t0 := take_len (l := (vD V0).map AV.d) (n := 7) (by rw [List.length_map, vD_len])
  have l0 := vD_len V0
  (refine A_call (g2) rfl rfl rfl rfl (by first | assumption | simp only [go_sem]) rfl (by first | rfl | simp only [noNames, namesAll, AV.names, names_ds, go_sem, List.append_nil, List.cons_append, List.nil_append, Bool.and_self]) ?_; rintro r rfl; refine ⟨by first | rfl | simp only [noName, namesAll, AV.names, names_ds, go_sem, Bool.and_self], A_run ?_⟩; simp only [go_sem, Nat.reduceLT, Nat.reduceLeDiff, Nat.reduceAdd, Nat.reduceSub, Nat.reduceMul, Nat.reduceEqDiff, Nat.reduceBEq, Nat.reduceBNe, Nat.reduceMod, Nat.reduceDiv, Int.reduceEq, Int.reduceNe, Int.reduceLT, Int.reduceLE, Int.reduceToNat, Int.reduceBEq, Int.reduceBNe, Int.reduceNeg, reduceIte, reduceCtorEq, reduceDIte, Value.oneCell', t0, l0, over])
  refine A_nil ?_
  simp only [Thn, InB]
  repeat (first
      | refine A_seq ?_
      | refine A_block ?_
      | (refine A_region (A_run ?_); simp only [go_sem, Nat.reduceLT, Nat.reduceLeDiff, Nat.reduceAdd, Nat.reduceSub, Nat.reduceMul, Nat.reduceEqDiff, Nat.reduceBEq, Nat.reduceBNe, Nat.reduceMod, Nat.reduceDiv, Int.reduceEq, Int.reduceNe, Int.reduceLT, Int.reduceLE, Int.reduceToNat, Int.reduceBEq, Int.reduceBNe, Int.reduceNeg, reduceIte, reduceCtorEq, reduceDIte, Value.oneCell']; refine A_nil ?_; simp only [Thn, InB])
      | (refine A_condt ?_ ?_; focus (simp only [evo, lk, lk1, lk2, Nat.reduceDiv, Nat.reduceMod]; done))
      | (refine A_condf ?_ ?_; focus (simp only [evo, lk, lk1, lk2, Nat.reduceDiv, Nat.reduceMod]; done))
      | (refine A_skip ?_; simp only [Thn, InB])
      | (refine A_exit ?_; simp only [Thn, InB, reduceIte, Nat.reduceEqDiff])
      | refine A_ret ?_)
  (first | refine A_quietG (gs := [none, none, none, some (some 44, false), some (some 44, false), some (some 44, false), some (some 44, false), none, none, some (some 50, false), none]) mixedO (by kernel_rfl) (by kernel_rfl) rfl (aqg_run ?_) | refine A_calmG (gs := [none, none, none, some (some 44, false), some (some 44, false), some (some 44, false), some (some 44, false), none, none, some (some 50, false), none]) (by kernel_rfl) rfl (aqg_run ?_)); simp only [runG, stepG_n, stepG_s, opV, mkOp, resE_ap, resA, go_sem, Nat.reduceLT, Nat.reduceLeDiff, Nat.reduceAdd, Nat.reduceSub, Nat.reduceMul, Nat.reduceEqDiff, Nat.reduceBEq, Nat.reduceBNe, Nat.reduceMod, Nat.reduceDiv, Int.reduceEq, Int.reduceNe, Int.reduceLT, Int.reduceLE, Int.reduceToNat, Int.reduceBEq, Int.reduceBNe, Int.reduceNeg, reduceIte, reduceCtorEq, reduceDIte, Value.oneCell', tv, lv]
  (try (refine aqg_nil ?_; simp only [Thn, InB]))
  (refine aqg_callg0 (fun _ => rsame_c v) rfl rfl (fun _ => ?_) (by first | assumption | simp only [go_sem]) (by first | rfl | simp only [noNames, namesAll, AV.names, names_ds, go_sem, List.append_nil, List.cons_append, List.nil_append, Bool.and_self]) (by first | rfl | simp only [noName, namesAll, AV.names, names_ds, go_sem, Bool.and_self]) ?_; focus (constructor <;> simp only [go_sem, Nat.reduceLT, Nat.reduceLeDiff, Nat.reduceAdd, Nat.reduceSub, Nat.reduceMul, Nat.reduceEqDiff, Nat.reduceBEq, Nat.reduceBNe, Nat.reduceMod, Nat.reduceDiv, Int.reduceEq, Int.reduceNe, Int.reduceLT, Int.reduceLE, Int.reduceToNat, Int.reduceBEq, Int.reduceBNe, Int.reduceNeg, reduceIte, reduceCtorEq, reduceDIte, Value.oneCell', resE_ap, resA, tv, lv]))
  (refine aqg_run ?_; simp only [runG, stepG_n, stepG_s, opV, mkOp, resE_ap, resA, go_sem, Nat.reduceLT, Nat.reduceLeDiff, Nat.reduceAdd, Nat.reduceSub, Nat.reduceMul, Nat.reduceEqDiff, Nat.reduceBEq, Nat.reduceBNe, Nat.reduceMod, Nat.reduceDiv, Int.reduceEq, Int.reduceNe, Int.reduceLT, Int.reduceLE, Int.reduceToNat, Int.reduceBEq, Int.reduceBNe, Int.reduceNeg, reduceIte, reduceCtorEq, reduceDIte, Value.oneCell'])
  (try (refine aqg_nil ?_; simp only [Thn, InB]))
  repeat (first
      | refine A_seq ?_
      | refine A_block ?_
      | (refine A_region (A_run ?_); simp only [go_sem, Nat.reduceLT, Nat.reduceLeDiff, Nat.reduceAdd, Nat.reduceSub, Nat.reduceMul, Nat.reduceEqDiff, Nat.reduceBEq, Nat.reduceBNe, Nat.reduceMod, Nat.reduceDiv, Int.reduceEq, Int.reduceNe, Int.reduceLT, Int.reduceLE, Int.reduceToNat, Int.reduceBEq, Int.reduceBNe, Int.reduceNeg, reduceIte, reduceCtorEq, reduceDIte, Value.oneCell']; refine A_nil ?_; simp only [Thn, InB])
      | (refine A_condt ?_ ?_; focus (simp only [evo, lk, lk1, lk2, Nat.reduceDiv, Nat.reduceMod]; done))
      | (refine A_condf ?_ ?_; focus (simp only [evo, lk, lk1, lk2, Nat.reduceDiv, Nat.reduceMod]; done))
      | (refine A_skip ?_; simp only [Thn, InB])
      | (refine A_exit ?_; simp only [Thn, InB, reduceIte, Nat.reduceEqDiff])
      | refine A_ret ?_)
  refine A_cond rfl (fun h => ?_) (fun h => ?_)
  · skip
    repeat (first
        | refine A_seq ?_
        | refine A_block ?_
        | (refine A_region (A_run ?_); simp only [go_sem, Nat.reduceLT, Nat.reduceLeDiff, Nat.reduceAdd, Nat.reduceSub, Nat.reduceMul, Nat.reduceEqDiff, Nat.reduceBEq, Nat.reduceBNe, Nat.reduceMod, Nat.reduceDiv, Int.reduceEq, Int.reduceNe, Int.reduceLT, Int.reduceLE, Int.reduceToNat, Int.reduceBEq, Int.reduceBNe, Int.reduceNeg, reduceIte, reduceCtorEq, reduceDIte, Value.oneCell']; refine A_nil ?_; simp only [Thn, InB])
        | (refine A_condt ?_ ?_; focus (simp only [evo, lk, lk1, lk2, Nat.reduceDiv, Nat.reduceMod]; done))
        | (refine A_condf ?_ ?_; focus (simp only [evo, lk, lk1, lk2, Nat.reduceDiv, Nat.reduceMod]; done))
        | (refine A_skip ?_; simp only [Thn, InB])
        | (refine A_exit ?_; simp only [Thn, InB, reduceIte, Nat.reduceEqDiff])
        | refine A_ret ?_)
    exact ⟨_, rfl, _, _, fin_pure rfl (Le.refl _), rfl, rfl⟩
  repeat (first
      | refine A_seq ?_
      | refine A_block ?_
      | (refine A_region (A_run ?_); simp only [go_sem, Nat.reduceLT, Nat.reduceLeDiff, Nat.reduceAdd, Nat.reduceSub, Nat.reduceMul, Nat.reduceEqDiff, Nat.reduceBEq, Nat.reduceBNe, Nat.reduceMod, Nat.reduceDiv, Int.reduceEq, Int.reduceNe, Int.reduceLT, Int.reduceLE, Int.reduceToNat, Int.reduceBEq, Int.reduceBNe, Int.reduceNeg, reduceIte, reduceCtorEq, reduceDIte, Value.oneCell']; refine A_nil ?_; simp only [Thn, InB])
      | (refine A_condt ?_ ?_; focus (simp only [evo, lk, lk1, lk2, Nat.reduceDiv, Nat.reduceMod]; done))
      | (refine A_condf ?_ ?_; focus (simp only [evo, lk, lk1, lk2, Nat.reduceDiv, Nat.reduceMod]; done))
      | (refine A_skip ?_; simp only [Thn, InB])
      | (refine A_exit ?_; simp only [Thn, InB, reduceIte, Nat.reduceEqDiff])
      | refine A_ret ?_)
  have g3 := get_c (W0 := W0) other m
  have g4 := get_c (W0 := W0) other (putV key v m)
  have g5 := get_c (W0 := W0) other (dropV key (putV key v m))
  rw [get_put_other v h] at g4
  rw [get_drop_other h, get_put_other v h] at g5
  generalize getV other m = G at g3 g4 g5
  obtain ⟨gx, gb⟩ := G
  simp only at g3 g4 g5
  have tg := take_len (l := (vD gx).map AV.d) (n := 7) (by rw [List.length_map, vD_len])
  have lg := vD_len gx
  refine A_region (A_run ?_)
  simp only [go_sem, Nat.reduceLT, Nat.reduceLeDiff, Nat.reduceAdd, Nat.reduceSub, Nat.reduceMul, Nat.reduceEqDiff, Nat.reduceBEq, Nat.reduceBNe, Nat.reduceMod, Nat.reduceDiv, Int.reduceEq, Int.reduceNe, Int.reduceLT, Int.reduceLE, Int.reduceToNat, Int.reduceBEq, Int.reduceBNe, Int.reduceNeg, reduceIte, reduceCtorEq, reduceDIte, Value.oneCell']
  (refine A_call (g3) rfl rfl rfl rfl (by first | assumption | simp only [go_sem]) rfl (by first | rfl | simp only [noNames, namesAll, AV.names, names_ds, go_sem, List.append_nil, List.cons_append, List.nil_append, Bool.and_self]) ?_; rintro r rfl; refine ⟨by first | rfl | simp only [noName, namesAll, AV.names, names_ds, go_sem, Bool.and_self], A_run ?_⟩; simp only [go_sem, Nat.reduceLT, Nat.reduceLeDiff, Nat.reduceAdd, Nat.reduceSub, Nat.reduceMul, Nat.reduceEqDiff, Nat.reduceBEq, Nat.reduceBNe, Nat.reduceMod, Nat.reduceDiv, Int.reduceEq, Int.reduceNe, Int.reduceLT, Int.reduceLE, Int.reduceToNat, Int.reduceBEq, Int.reduceBNe, Int.reduceNeg, reduceIte, reduceCtorEq, reduceDIte, Value.oneCell', tg, lg, over])
  refine A_nil ?_
  simp only [Thn, InB]
  repeat (first
      | refine A_seq ?_
      | refine A_block ?_
      | (refine A_region (A_run ?_); simp only [go_sem, Nat.reduceLT, Nat.reduceLeDiff, Nat.reduceAdd, Nat.reduceSub, Nat.reduceMul, Nat.reduceEqDiff, Nat.reduceBEq, Nat.reduceBNe, Nat.reduceMod, Nat.reduceDiv, Int.reduceEq, Int.reduceNe, Int.reduceLT, Int.reduceLE, Int.reduceToNat, Int.reduceBEq, Int.reduceBNe, Int.reduceNeg, reduceIte, reduceCtorEq, reduceDIte, Value.oneCell']; refine A_nil ?_; simp only [Thn, InB])
      | (refine A_condt ?_ ?_; focus (simp only [evo, lk, lk1, lk2, Nat.reduceDiv, Nat.reduceMod]; done))
      | (refine A_condf ?_ ?_; focus (simp only [evo, lk, lk1, lk2, Nat.reduceDiv, Nat.reduceMod]; done))
      | (refine A_skip ?_; simp only [Thn, InB])
      | (refine A_exit ?_; simp only [Thn, InB, reduceIte, Nat.reduceEqDiff])
      | refine A_ret ?_)
  refine A_region (A_run ?_)
  simp only [go_sem, Nat.reduceLT, Nat.reduceLeDiff, Nat.reduceAdd, Nat.reduceSub, Nat.reduceMul, Nat.reduceEqDiff, Nat.reduceBEq, Nat.reduceBNe, Nat.reduceMod, Nat.reduceDiv, Int.reduceEq, Int.reduceNe, Int.reduceLT, Int.reduceLE, Int.reduceToNat, Int.reduceBEq, Int.reduceBNe, Int.reduceNeg, reduceIte, reduceCtorEq, reduceDIte, Value.oneCell']
  (refine A_call (g4) rfl rfl rfl rfl (by first | assumption | simp only [go_sem]) rfl (by first | rfl | simp only [noNames, namesAll, AV.names, names_ds, go_sem, List.append_nil, List.cons_append, List.nil_append, Bool.and_self]) ?_; rintro r rfl; refine ⟨by first | rfl | simp only [noName, namesAll, AV.names, names_ds, go_sem, Bool.and_self], A_run ?_⟩; simp only [go_sem, Nat.reduceLT, Nat.reduceLeDiff, Nat.reduceAdd, Nat.reduceSub, Nat.reduceMul, Nat.reduceEqDiff, Nat.reduceBEq, Nat.reduceBNe, Nat.reduceMod, Nat.reduceDiv, Int.reduceEq, Int.reduceNe, Int.reduceLT, Int.reduceLE, Int.reduceToNat, Int.reduceBEq, Int.reduceBNe, Int.reduceNeg, reduceIte, reduceCtorEq, reduceDIte, Value.oneCell', tg, lg, over])
  refine A_nil ?_
  simp only [Thn, InB]
  repeat (first
      | refine A_seq ?_
      | refine A_block ?_
      | (refine A_region (A_run ?_); simp only [go_sem, Nat.reduceLT, Nat.reduceLeDiff, Nat.reduceAdd, Nat.reduceSub, Nat.reduceMul, Nat.reduceEqDiff, Nat.reduceBEq, Nat.reduceBNe, Nat.reduceMod, Nat.reduceDiv, Int.reduceEq, Int.reduceNe, Int.reduceLT, Int.reduceLE, Int.reduceToNat, Int.reduceBEq, Int.reduceBNe, Int.reduceNeg, reduceIte, reduceCtorEq, reduceDIte, Value.oneCell']; refine A_nil ?_; simp only [Thn, InB])
      | (refine A_condt ?_ ?_; focus (simp only [evo, lk, lk1, lk2, Nat.reduceDiv, Nat.reduceMod]; done))
      | (refine A_condf ?_ ?_; focus (simp only [evo, lk, lk1, lk2, Nat.reduceDiv, Nat.reduceMod]; done))
      | (refine A_skip ?_; simp only [Thn, InB])
      | (refine A_exit ?_; simp only [Thn, InB, reduceIte, Nat.reduceEqDiff])
      | refine A_ret ?_)
  refine A_region (A_run ?_)
  simp only [go_sem, Nat.reduceLT, Nat.reduceLeDiff, Nat.reduceAdd, Nat.reduceSub, Nat.reduceMul, Nat.reduceEqDiff, Nat.reduceBEq, Nat.reduceBNe, Nat.reduceMod, Nat.reduceDiv, Int.reduceEq, Int.reduceNe, Int.reduceLT, Int.reduceLE, Int.reduceToNat, Int.reduceBEq, Int.reduceBNe, Int.reduceNeg, reduceIte, reduceCtorEq, reduceDIte, Value.oneCell']
  (refine A_call (g5) rfl rfl rfl rfl (by first | assumption | simp only [go_sem]) rfl (by first | rfl | simp only [noNames, namesAll, AV.names, names_ds, go_sem, List.append_nil, List.cons_append, List.nil_append, Bool.and_self]) ?_; rintro r rfl; refine ⟨by first | rfl | simp only [noName, namesAll, AV.names, names_ds, go_sem, Bool.and_self], A_run ?_⟩; simp only [go_sem, Nat.reduceLT, Nat.reduceLeDiff, Nat.reduceAdd, Nat.reduceSub, Nat.reduceMul, Nat.reduceEqDiff, Nat.reduceBEq, Nat.reduceBNe, Nat.reduceMod, Nat.reduceDiv, Int.reduceEq, Int.reduceNe, Int.reduceLT, Int.reduceLE, Int.reduceToNat, Int.reduceBEq, Int.reduceBNe, Int.reduceNeg, reduceIte, reduceCtorEq, reduceDIte, Value.oneCell', tg, lg, over])
  refine A_nil ?_
  simp only [Thn, InB]
  repeat (first
      | refine A_seq ?_
      | refine A_block ?_
      | (refine A_region (A_run ?_); simp only [go_sem, Nat.reduceLT, Nat.reduceLeDiff, Nat.reduceAdd, Nat.reduceSub, Nat.reduceMul, Nat.reduceEqDiff, Nat.reduceBEq, Nat.reduceBNe, Nat.reduceMod, Nat.reduceDiv, Int.reduceEq, Int.reduceNe, Int.reduceLT, Int.reduceLE, Int.reduceToNat, Int.reduceBEq, Int.reduceBNe, Int.reduceNeg, reduceIte, reduceCtorEq, reduceDIte, Value.oneCell']; refine A_nil ?_; simp only [Thn, InB])
      | (refine A_condt ?_ ?_; focus (simp only [evo, lk, lk1, lk2, Nat.reduceDiv, Nat.reduceMod]; done))
      | (refine A_condf ?_ ?_; focus (simp only [evo, lk, lk1, lk2, Nat.reduceDiv, Nat.reduceMod]; done))
      | (refine A_skip ?_; simp only [Thn, InB])
      | (refine A_exit ?_; simp only [Thn, InB, reduceIte, Nat.reduceEqDiff])
      | refine A_ret ?_)
  (first | refine A_quietG (gs := [none, none, none, none, some (some 77, true), some (some 77, true), some (some 77, true), none, none, some (some 82, true), some (some 82, true), some (some 82, true), none, none, some (some 87, true), some (some 87, true), some (some 87, true), none, none, some (some 92, true), some (some 92, true), some (some 92, true), some (some 92, true), some (some 92, true), none, none]) mixedO (by kernel_rfl) (by kernel_rfl) rfl (aqg_run ?_) | refine A_calmG (gs := [none, none, none, none, some (some 77, true), some (some 77, true), some (some 77, true), none, none, some (some 82, true), some (some 82, true), some (some 82, true), none, none, some (some 87, true), some (some 87, true), some (some 87, true), none, none, some (some 92, true), some (some 92, true), some (some 92, true), some (some 92, true), some (some 92, true), none, none]) (by kernel_rfl) rfl (aqg_run ?_)); simp only [runG, stepG_n, stepG_s, opV, mkOp, resE_ap, resA, go_sem, Nat.reduceLT, Nat.reduceLeDiff, Nat.reduceAdd, Nat.reduceSub, Nat.reduceMul, Nat.reduceEqDiff, Nat.reduceBEq, Nat.reduceBNe, Nat.reduceMod, Nat.reduceDiv, Int.reduceEq, Int.reduceNe, Int.reduceLT, Int.reduceLE, Int.reduceToNat, Int.reduceBEq, Int.reduceBNe, Int.reduceNeg, reduceIte, reduceCtorEq, reduceDIte, Value.oneCell', tg, lg]
  (try (refine aqg_nil ?_; simp only [Thn, InB]))
  (refine aqg_callg0 (fun _ => rsame_c gx) rfl rfl (fun _ => ?_) (by first | assumption | simp only [go_sem]) (by first | rfl | simp only [noNames, namesAll, AV.names, names_ds, go_sem, List.append_nil, List.cons_append, List.nil_append, Bool.and_self]) (by first | rfl | simp only [noName, namesAll, AV.names, names_ds, go_sem, Bool.and_self]) ?_; focus (constructor <;> simp only [go_sem, Nat.reduceLT, Nat.reduceLeDiff, Nat.reduceAdd, Nat.reduceSub, Nat.reduceMul, Nat.reduceEqDiff, Nat.reduceBEq, Nat.reduceBNe, Nat.reduceMod, Nat.reduceDiv, Int.reduceEq, Int.reduceNe, Int.reduceLT, Int.reduceLE, Int.reduceToNat, Int.reduceBEq, Int.reduceBNe, Int.reduceNeg, reduceIte, reduceCtorEq, reduceDIte, Value.oneCell', resE_ap, resA, tg, lg]))
  refine aqg_run ?_
  simp only [runG, stepG_n, stepG_s, opV, mkOp, resE_ap, resA, go_sem, Nat.reduceLT, Nat.reduceLeDiff, Nat.reduceAdd, Nat.reduceSub, Nat.reduceMul, Nat.reduceEqDiff, Nat.reduceBEq, Nat.reduceBNe, Nat.reduceMod, Nat.reduceDiv, Int.reduceEq, Int.reduceNe, Int.reduceLT, Int.reduceLE, Int.reduceToNat, Int.reduceBEq, Int.reduceBNe, Int.reduceNeg, reduceIte, reduceCtorEq, reduceDIte, Value.oneCell', tg, lg]
  (refine aqg_callg0 (fun _ => rsame_c gx) rfl rfl (fun _ => ?_) (by first | assumption | simp only [go_sem]) (by first | rfl | simp only [noNames, namesAll, AV.names, names_ds, go_sem, List.append_nil, List.cons_append, List.nil_append, Bool.and_self]) (by first | rfl | simp only [noName, namesAll, AV.names, names_ds, go_sem, Bool.and_self]) ?_; focus (constructor <;> simp only [go_sem, Nat.reduceLT, Nat.reduceLeDiff, Nat.reduceAdd, Nat.reduceSub, Nat.reduceMul, Nat.reduceEqDiff, Nat.reduceBEq, Nat.reduceBNe, Nat.reduceMod, Nat.reduceDiv, Int.reduceEq, Int.reduceNe, Int.reduceLT, Int.reduceLE, Int.reduceToNat, Int.reduceBEq, Int.reduceBNe, Int.reduceNeg, reduceIte, reduceCtorEq, reduceDIte, Value.oneCell', resE_ap, resA, tg, lg]))
  refine aqg_run ?_
  simp only [runG, stepG_n, stepG_s, opV, mkOp, resE_ap, resA, go_sem, Nat.reduceLT, Nat.reduceLeDiff, Nat.reduceAdd, Nat.reduceSub, Nat.reduceMul, Nat.reduceEqDiff, Nat.reduceBEq, Nat.reduceBNe, Nat.reduceMod, Nat.reduceDiv, Int.reduceEq, Int.reduceNe, Int.reduceLT, Int.reduceLE, Int.reduceToNat, Int.reduceBEq, Int.reduceBNe, Int.reduceNeg, reduceIte, reduceCtorEq, reduceDIte, Value.oneCell', tg, lg]
  have d2 := drop_c (W0 := W0) key m
  have d3 := rsameP_c (W0 := W0) (dropV key m)
  (refine aqg_callg0 (fun _ => d2) rfl rfl (fun _ => ?_) (by first | assumption | simp only [go_sem]) (by first | rfl | simp only [noNames, namesAll, AV.names, names_ds, go_sem, List.append_nil, List.cons_append, List.nil_append, Bool.and_self]) (by first | rfl | simp only [noName, namesAll, AV.names, names_ds, go_sem, Bool.and_self]) ?_; focus (constructor <;> simp only [go_sem, Nat.reduceLT, Nat.reduceLeDiff, Nat.reduceAdd, Nat.reduceSub, Nat.reduceMul, Nat.reduceEqDiff, Nat.reduceBEq, Nat.reduceBNe, Nat.reduceMod, Nat.reduceDiv, Int.reduceEq, Int.reduceNe, Int.reduceLT, Int.reduceLE, Int.reduceToNat, Int.reduceBEq, Int.reduceBNe, Int.reduceNeg, reduceIte, reduceCtorEq, reduceDIte, Value.oneCell', resE_ap, resA]))
  refine aqg_run ?_
  simp only [runG, stepG_n, stepG_s, opV, mkOp, resE_ap, resA, go_sem, Nat.reduceLT, Nat.reduceLeDiff, Nat.reduceAdd, Nat.reduceSub, Nat.reduceMul, Nat.reduceEqDiff, Nat.reduceBEq, Nat.reduceBNe, Nat.reduceMod, Nat.reduceDiv, Int.reduceEq, Int.reduceNe, Int.reduceLT, Int.reduceLE, Int.reduceToNat, Int.reduceBEq, Int.reduceBNe, Int.reduceNeg, reduceIte, reduceCtorEq, reduceDIte, Value.oneCell', drop_put]
  (refine aqg_callg0 (fun _ => d3) rfl rfl (fun _ => ?_) (by first | assumption | simp only [go_sem]) (by first | rfl | simp only [noNames, namesAll, AV.names, names_ds, go_sem, List.append_nil, List.cons_append, List.nil_append, Bool.and_self]) (by first | rfl | simp only [noName, namesAll, AV.names, names_ds, go_sem, Bool.and_self]) ?_; focus (constructor <;> simp only [go_sem, Nat.reduceLT, Nat.reduceLeDiff, Nat.reduceAdd, Nat.reduceSub, Nat.reduceMul, Nat.reduceEqDiff, Nat.reduceBEq, Nat.reduceBNe, Nat.reduceMod, Nat.reduceDiv, Int.reduceEq, Int.reduceNe, Int.reduceLT, Int.reduceLE, Int.reduceToNat, Int.reduceBEq, Int.reduceBNe, Int.reduceNeg, reduceIte, reduceCtorEq, reduceDIte, Value.oneCell', resE_ap, resA]))
  (refine aqg_run ?_; simp only [runG, stepG_n, stepG_s, opV, mkOp, resE_ap, resA, go_sem, Nat.reduceLT, Nat.reduceLeDiff, Nat.reduceAdd, Nat.reduceSub, Nat.reduceMul, Nat.reduceEqDiff, Nat.reduceBEq, Nat.reduceBNe, Nat.reduceMod, Nat.reduceDiv, Int.reduceEq, Int.reduceNe, Int.reduceLT, Int.reduceLE, Int.reduceToNat, Int.reduceBEq, Int.reduceBNe, Int.reduceNeg, reduceIte, reduceCtorEq, reduceDIte, Value.oneCell'])
  (try (refine aqg_nil ?_; simp only [Thn, InB]))
  repeat (first
      | refine A_seq ?_
      | refine A_block ?_
      | (refine A_region (A_run ?_); simp only [go_sem, Nat.reduceLT, Nat.reduceLeDiff, Nat.reduceAdd, Nat.reduceSub, Nat.reduceMul, Nat.reduceEqDiff, Nat.reduceBEq, Nat.reduceBNe, Nat.reduceMod, Nat.reduceDiv, Int.reduceEq, Int.reduceNe, Int.reduceLT, Int.reduceLE, Int.reduceToNat, Int.reduceBEq, Int.reduceBNe, Int.reduceNeg, reduceIte, reduceCtorEq, reduceDIte, Value.oneCell']; refine A_nil ?_; simp only [Thn, InB])
      | (refine A_condt ?_ ?_; focus (simp only [evo, lk, lk1, lk2, Nat.reduceDiv, Nat.reduceMod]; done))
      | (refine A_condf ?_ ?_; focus (simp only [evo, lk, lk1, lk2, Nat.reduceDiv, Nat.reduceMod]; done))
      | (refine A_skip ?_; simp only [Thn, InB])
      | (refine A_exit ?_; simp only [Thn, InB, reduceIte, Nat.reduceEqDiff])
      | refine A_ret ?_)
  exact ⟨_, rfl, _, _, fin_pure rfl (Le.refl _), rfl, rfl⟩
end Go.Proofs.YtbgfiflnfndckaaDoor.Lift

/- The lift: old contracts as new ones. No conditions. -/
set_option linter.unusedVariables false
set_option linter.unusedSimpArgs false
namespace Go.Proofs.YtbgfiflnfndckaaDoor.Lift
open Go Go.RowKit

/-- A function that leaves what was there, and answers a plain value. -/
theorem pure_old {P : Program} {W0 : World} {f : FuncId} {args : List AV} {v : Value} (hv : v.oneCell' = true) (h : ∀ (M : Nat → Prop) (m : Nat → Pl) (w : World) (us : Array Value), RAs M m w args us.toList → Calls P f us w fun e w' => e = .returned v ∧ Below w.heap.size w w') : APure P W0 f args (· = .ret (.d (.v v))) := by
  intro M m w us hc ha
  refine (h M m w us ha).mono ?_
  rintro e w' ⟨rfl, hb⟩
  have hf : Fr (fun _ => False) w w' := Fr.below hb
  refine ⟨.ret (.d (.v v)), [], M, m, ⟨rfl, rfl⟩, RA.v_mk (m := m) hv, ?_⟩
  exact hc.chg hf (hc.base.trans hf) (fun _ h => h) (fun _ h => .inl h) (fun k hk => Nat.lt_of_lt_of_le (hc.mLt k hk) hf.size)
theorem lives_c {W0 : World} : APure Tryd.prog W0 12 [] (· = .ret (.d (.v (.bool true)))) := by
  refine pure_old rfl fun M m w us ha => ?_
  obtain rfl : us = #[] := by
    have := ha.length
    exact Array.eq_empty_of_size_eq_zero (by simpa using this.symm)
  exact vlives_calls w
end Go.Proofs.YtbgfiflnfndckaaDoor.Lift

/- The lift: a row's values as data. No conditions. -/
set_option linter.unusedVariables false
set_option linter.unusedSimpArgs false
namespace Go.Proofs.YtbgfiflnfndckaaDoor.Lift
open Go Go.RowKit Go.Proofs.YtbgfiflnfndckaaDoorW.PrintWords

mutual
/-- A value as the lift has it. -/
def tV : Vs.V → V
  | .mk x l m => .mk x.k x.s x.b x.n x.f (tVs l) (tPs m)
def tVs : List Vs.V → List V
  | [] => []
  | x :: l => tV x :: tVs l
def tPs : List (ByteArray × Vs.V) → List (ByteArray × V)
  | [] => []
  | (k, x) :: m => (k, tV x) :: tPs m
end
theorem tVs_map : ∀ l, tVs l = l.map tV
  | [] => by simp only [tVs, List.map_nil]
  | x :: l => by simp only [tVs, List.map_cons, tVs_map l]
theorem tPs_map : ∀ m, tPs m = m.map fun p => (p.1, tV p.2)
  | [] => by simp only [tPs, List.map_nil]
  | (k, x) :: m => by simp only [tPs, List.map_cons, tPs_map m]
/-- Cells that are data. -/
def Dts (w : World) (ds : List D) (us : List Value) : Prop := ds.length = us.length ∧ ∀ (i : Nat) (d : D) (u : Value), ds[i]? = some d → us[i]? = some u → RD (fun _ => False) w d u
theorem spot_none {w : World} {a : Addr} {v : Value} (h : w.cell? a = some v) : a = ⟨a.block, a.off, none⟩ := by
  obtain ⟨b, o, s⟩ := a
  cases s with
  | none => rfl
  | some k =>
    unfold World.cell? at h
    split at h
    · simp at h
    · cases h
theorem rows_rd {w : World} {A : Option Addr} {sz bt c : Nat} {l : List (List D)} (hsz : 0 < sz) (hbt : 0 < bt) (hb : l.length * bt ≤ 140737488355328) (hc : l.length ≤ c) (Us : Nat → List Value)
    (hrow : ∀ i row, l[i]? = some row → row.length = sz ∧ Dts w row (Us i)) (hA : ∀ i, i < l.length → ∃ a, A = some a ∧ ∀ j u, (Us i)[j]? = some u → w.cell? ((a.add (i * sz)).add j) = some u) : RD (fun _ => False) w (.rows sz bt l) (.slice A l.length c) := by
  refine .rows sz bt l A c (fun i j => (Us i).getD j default) hbt hb hc (fun i row hi => ?_) (fun i row j d hi hj => ?_)
  · have hil : i < l.length := (List.getElem?_eq_some_iff.1 hi).1
    obtain ⟨h1, h2, h3⟩ := hrow i row hi
    refine ⟨h1, ?_⟩
    -- the first row's first cell says where it lies
    have h0 : 0 < l.length := by omega
    obtain ⟨a, rfl, hcell⟩ := hA 0 h0
    have hr0 := hrow 0 l[0] (List.getElem?_eq_getElem h0)
    have hu0 : 0 < (Us 0).length := by rw [← hr0.2.1, hr0.1]; exact hsz
    have e0 := hcell 0 _ (List.getElem?_eq_getElem hu0)
    rw [Nat.zero_mul] at e0
    have ea : a = ⟨a.block, a.off, none⟩ := by
      have := spot_none e0
      simpa [Addr.add] using this
    refine ⟨a.block, a.off, by rw [← ea], fun j hj => ⟨fun h => h, ?_⟩⟩
    obtain ⟨a', ha', hcell'⟩ := hA i hil
    cases ha'
    have huj : j < (Us i).length := by rw [← h2, h1]; exact hj
    have := hcell' j _ (List.getElem?_eq_getElem huj)
    rw [ea, Addr.add_lit, Addr.add_lit] at this
    rw [this]
    simp [List.getD, huj]
  · obtain ⟨h1, h2, h3⟩ := hrow i row hi
    have hjl : j < (Us i).length := by rw [← h2]; exact (List.getElem?_eq_some_iff.1 hj).1
    have := h3 j d _ hj (List.getElem?_eq_getElem hjl)
    simpa [List.getD, hjl] using this
theorem rd_dts {w : World} {v : Vs.V} {cs : Array Value} (h : Rd w v cs) : Dts w (vD (tV v)) cs.toList := by
  induction h with
  | mk x l m A ca B cb Cs Ds hx hl hm hca hcb hA hCs hB hDs ih1 ih2 =>
    have L : RD (fun _ => False) w (.rows 7 96 ((l.map tV).map vD)) (.slice A l.length ca) := by
      have := rows_rd (w := w) (A := A) (sz := 7) (bt := 96) (c := ca) (l := (l.map tV).map vD) (by decide) (by decide) (by simp; omega) (by simpa using hca) (fun i => (Cs i).toList) (fun i row hi => ?_) (fun i hi => ?_)
      · simpa using this
      · rw [List.getElem?_map, List.getElem?_map, Option.map_map, Option.map_eq_some_iff] at hi
        obtain ⟨v, hv, rfl⟩ := hi
        exact ⟨vD_len _, ih1 i v hv⟩
      · obtain ⟨a, h1, h2⟩ := hA i (by simpa using hi)
        exact ⟨a, h1, fun j u hj => h2 j u (by simpa using hj)⟩
    have M : RD (fun _ => False) w (.rows 8 112 ((m.map fun p => (p.1, tV p.2)).map pD)) (.slice B m.length cb) := by
      have := rows_rd (w := w) (A := B) (sz := 8) (bt := 112) (c := cb) (l := (m.map fun p => (p.1, tV p.2)).map pD) (by decide) (by decide) (by simp; omega) (by simpa using hcb) (fun i => ((m[i]?).map fun p => Value.string p.1).toList ++ (Ds i).toList) (fun i row hi => ?_) (fun i hi => ?_)
      · simpa using this
      · rw [List.getElem?_map, List.getElem?_map, Option.map_map, Option.map_eq_some_iff] at hi
        obtain ⟨p, hp, rfl⟩ := hi
        refine ⟨pD_len _, ?_⟩
        rw [hp]
        obtain ⟨h1, h2⟩ := ih2 i p hp
        refine ⟨by simp [pD, h1], fun j d u hd hu => ?_⟩
        cases j with
        | zero =>
          simp [pD] at hd hu
          subst hd hu
          exact .v _ rfl
        | succ j =>
          simp [pD] at hd hu
          exact h2 j d u hd (by simpa using hu)
      · have hi' : i < m.length := by simpa using hi
        obtain ⟨b, h1, h2, h3, h4⟩ := hB i m[i] (List.getElem?_eq_getElem hi')
        refine ⟨b, h1, fun j u hj => ?_⟩
        rw [List.getElem?_eq_getElem hi'] at hj
        cases j with
        | zero =>
          simp at hj
          subst hj
          rw [Go.Deep.add_add, Nat.add_zero]
          exact h2
        | succ j =>
          simp at hj
          have := h4 j u (by simpa using hj)
          rw [Go.Deep.add_add, Go.Deep.add_add] at this
          rw [Go.Deep.add_add, Nat.add_comm j 1]
          exact this
    obtain ⟨k, s, b, n, f⟩ := x
    refine ⟨by simp [tV, vD, cellsV], fun i d u hd hu => ?_⟩
    simp only [tV, vD, vDs_map, pDs_map, tVs_map, tPs_map] at hd
    simp only [cellsV] at hu
    match i, hd, hu with
    | 0, hd, hu => cases hd; cases hu; exact .v _ rfl
    | 1, hd, hu => cases hd; cases hu; exact .v _ rfl
    | 2, hd, hu => cases hd; cases hu; exact .v _ rfl
    | 3, hd, hu => cases hd; cases hu; exact .v _ rfl
    | 4, hd, hu => cases hd; cases hu; exact .v _ rfl
    | 5, hd, hu => cases hd; cases hu; exact L
    | 6, hd, hu => cases hd; cases hu; exact M
    | i + 7, hd, hu => simp at hd
end Go.Proofs.YtbgfiflnfndckaaDoor.Lift

/- ValuePuts's walk, out of the lift. No conditions but that the arguments lie in memory. -/
set_option linter.unusedVariables false
set_option linter.unusedSimpArgs false
namespace Go.Proofs.YtbgfiflnfndckaaDoor.Lift
open Go Go.RowKit Go.Proofs.YtbgfiflnfndckaaDoorW.PrintWords

def tP (m : List (ByteArray × Vs.V)) : List (ByteArray × V) := m.map fun p => (p.1, tV p.2)
theorem rdP_rd {w : World} {B : Option Addr} {m : List (ByteArray × Vs.V)} {c : Nat} (h : RdP w B m) (hc : m.length ≤ c) : RD (fun _ => False) w (.rows 8 112 ((tP m).map pD)) (.slice B m.length c) := by
  obtain ⟨Ds, hm, hB, hDs⟩ := h
  have := rows_rd (w := w) (A := B) (sz := 8) (bt := 112) (c := c) (l := (tP m).map pD) (by decide) (by decide) (by simp [tP]; omega) (by simpa [tP] using hc) (fun i => ((m[i]?).map fun p => Value.string p.1).toList ++ (Ds i).toList) (fun i row hi => ?_) (fun i hi => ?_)
  · simpa [tP] using this
  · rw [tP, List.getElem?_map, List.getElem?_map, Option.map_map, Option.map_eq_some_iff] at hi
    obtain ⟨p, hp, rfl⟩ := hi
    refine ⟨pD_len _, ?_⟩
    rw [hp]
    obtain ⟨h1, h2⟩ := rd_dts (hDs i p hp)
    refine ⟨by simp [pD, h1], fun j d u hd hu => ?_⟩
    cases j with
    | zero =>
      simp [pD] at hd hu
      subst hd hu
      exact .v _ rfl
    | succ j =>
      simp [pD] at hd hu
      exact h2 j d u hd (by simpa using hu)
  · have hi' : i < m.length := by simpa [tP] using hi
    obtain ⟨b, h1, h2, h3, h4⟩ := hB i m[i] (List.getElem?_eq_getElem hi')
    refine ⟨b, h1, fun j u hj => ?_⟩
    rw [List.getElem?_eq_getElem hi'] at hj
    cases j with
    | zero =>
      simp at hj
      subst hj
      rw [Go.Deep.add_add, Nat.add_zero]
      exact h2
    | succ j =>
      simp at hj
      have := h4 j u (by simpa using hj)
      rw [Go.Deep.add_add, Go.Deep.add_add] at this
      rw [Go.Deep.add_add, Nat.add_comm j 1]
      exact this
theorem Dts.ras {w : World} : ∀ {ds : List D} {us : List Value}, Dts w ds us → RAs (fun _ => False) (fun _ => .no) w (ds.map .d) us
  | ds, us, ⟨h1, h2⟩ => RAs.mk (by simpa using h1) fun i x u hx hu => by
    rw [List.getElem?_map, Option.map_eq_some_iff] at hx
    obtain ⟨d, hd, rfl⟩ := hx
    simp only [RA]
    exact h2 i d u hd hu
theorem va_ra {w : World} {v : Vs.V} {cs : Array Value} (h : Rd w v cs) : RA (fun _ => False) (fun _ => .no) w (va (tV v)) (.agg cs) := by
  simp only [va, RA]
  exact ⟨cs, rfl, (rd_dts h).ras⟩
theorem C.start (w : World) : C w ⟨w, fun _ => False, fun _ => .no, 0⟩ (fun _ => False) (fun _ => .no) ⟨0, [], []⟩ nobody w where
  base := Fr.refl _ _
  fr := Fr.refl _ _
  eLt := fun k h => h.elim
  mLow := fun k h => h.elim
  mUp := fun _ h => h
  mNew := fun _ h => h.elim
  mLt := fun _ h => h.elim
  mNo := fun _ _ => rfl
  mIn := fun b k hb => by cases hb
  inj := fun b b' k hb => by cases hb
  oldv := fun b cs hb => absurd hb (Nat.not_lt_zero _)
  oldr := fun b k hb => absurd hb (Nat.not_lt_zero _)
  new := fun b k _ hb => by cases hb
  len := Nat.le_refl _
  box := fun b x hb => by simp at hb
  env := fun t x hx => by simp [lk_nil] at hx
  wide := rfl
  defers := rfl
/-- A pure contract that answers a plain value, of a call that starts in some world. -/
theorem APure.calls {P : Program} {w : World} {f : FuncId} {args : List AV} {us : Array Value} {v : Value} (h : APure P w f args (· = .ret (.d (.v v)))) (ha : RAs (fun _ => False) (fun _ => .no) w args us.toList) : Calls P f us w fun e w' => e = .returned v ∧ Below w.heap.size w w' := by
  refine (h _ _ w us (C.start w) ha).mono ?_
  rintro e w' ⟨r, L', M', m', ⟨rfl, rfl⟩, hres, hc⟩
  cases e with
  | returned u => exact ⟨by rw [(RA.v_inv (M := M') (m := m') (w := w') hres).1], hc.base.toBelow fun _ _ h => h⟩
  | panicked c => exact hres.elim
  | outgrown => exact hres.elim
theorem puts_walk {w : World} {B : Option Addr} {m : List (ByteArray × Vs.V)} (c : Nat) (hc : m.length ≤ c) (h : RdP w B m) (key other : ByteArray) {v : Vs.V} {cs : Array Value} (hv : Rd w v cs) :
    Calls Tryd.prog 9 #[.slice B m.length c, .string key, .string other, .agg cs] w fun e w' => e = .returned (.bool true) ∧ Below w.heap.size w w' := by
  have hroom : ((tP m).length + 1) * 112 ≤ 140737488355328 := by
    obtain ⟨_, hm, _⟩ := h
    simp only [tP, List.length_map]
    omega
  refine (puts_c (W0 := w) lives_c (tP m) key other (tV v) hroom).calls ?_
  simp only [RAs, rP, and_true]
  refine ⟨?_, RA.v_mk rfl, RA.v_mk rfl, va_ra hv⟩
  simp only [RA]
  exact rdP_rd h hc
end Go.Proofs.YtbgfiflnfndckaaDoor.Lift
