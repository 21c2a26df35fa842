/- Joined from Lwd, Lvw, Lvx, Lvy, Llv, Lvz, Lwe, Lwf, Lwg, Lwh, Lwi, Lpr, Lwj, Lwk. No conditions. -/
import Derived.Test.YtbgfiflnfndckaaDoorJ2
import Derived.Test.YtbgfiflnfndckaaDoorWr
import Derived.Test.YtbgfiflnfndckaaDoorJ1
import Derived.Test.YtbgfiflnfndckaaDoorVe
section
/- The lift: Read of messages, from its old contract. No conditions. -/
set_option linter.unusedVariables false
set_option linter.unusedSimpArgs false
set_option maxHeartbeats 4000000
set_option maxRecDepth 100000
namespace Go.Proofs.YtbgfiflnfndckaaDoor.Lift
open Go Go.RowKit Go.Proofs.YtbgfiflnfndckaaDoorW.PrintWords

theorem pure_oldR {P : Program} {W0 : World} {f : FuncId} {args : List AV} {x : AV} (h : ∀ (M : Nat → Prop) (m : Nat → Pl) (w : World) (us : Array Value), Fr (fun _ => False) W0 w → (∀ k, M k → k < w.heap.size) → RAs M m w args us.toList → Calls P f us w fun e w' => ∃ v, e = .returned v ∧ RA M m w' x v ∧ Below w.heap.size w w') : APure P W0 f args (· = .ret x) := by
  intro M m w us hc ha
  refine (h M m w us hc.base hc.mLt ha).mono ?_
  rintro e w' ⟨v, rfl, hr, hb⟩
  have hf : Fr (fun _ => False) w w' := Fr.below hb
  refine ⟨.ret x, [], M, m, ⟨rfl, rfl⟩, hr, ?_⟩
  exact hc.chg hf (hc.base.trans hf) (fun _ h => h) (fun _ h => .inl h) (fun k hk => Nat.lt_of_lt_of_le (hc.mLt k hk) hf.size)

theorem read_len (s : List UInt8) : (Ws.read s).1.length ≤ 4096 := by
  unfold Ws.read
  split
  · simp
  · split
    · simp
    · split
      · simp
      · simp only
        omega
theorem rows_F {M : Nat → Prop} {w w0 : World} {v : Value} {l : List Ws.Fd} (h : kF.R 99 w w0.heap.size (fun _ => True) v l) (hM : ∀ k, M k → k < w0.heap.size) (hl : l.length ≤ 4096) : RD M w (.rows 4 40 (l.map fD)) v := by
  by_cases h0 : l.length = 0
  · obtain rfl := List.eq_nil_of_length_eq_zero h0
    obtain ⟨A, c, rfl⟩ := Kd.R_slice h
    exact .rows 4 40 [] A c (fun _ _ => default) (by decide) (by simp) (by simp) (fun i row h => by simp at h) (fun i row j d h => by simp at h)
  · obtain ⟨g, c, rfl, hg, _⟩ := Kd.R_form h (by omega)
    obtain ⟨_, hc, _⟩ := Kd.R_reads' h
    have := RD.rows (M := M) (w := w) 4 40 (l.map fD) (some ⟨g, 0, none⟩) c (fun i j => (cellsF (l.getD i ⟨0, 0, 0, []⟩)).getD j default) (by decide) (by rw [List.length_map]; omega) (by rw [List.length_map]; exact hc) ?_ ?_
    · rwa [List.length_map] at this
    · intro i row hi
      rw [List.getElem?_map, Option.map_eq_some_iff] at hi
      obtain ⟨x, hx, rfl⟩ := hi
      refine ⟨rfl, g, 0, rfl, fun j hj => ⟨fun hk => Nat.lt_irrefl _ (Nat.lt_of_lt_of_le (hM g hk) hg), ?_⟩⟩
      obtain ⟨g', c', he, c0, c1, c2, c3⟩ := kF_rowcell h i x hx
      cases he
      have hd : l.getD i ⟨0, 0, 0, []⟩ = x := by simp [List.getD, hx]
      rw [hd, Nat.zero_add]
      match j, hj with
      | 0, _ => exact c0
      | 1, _ => exact c1
      | 2, _ => exact c2
      | 3, _ => exact c3
    · intro i row j d hi hj
      rw [List.getElem?_map, Option.map_eq_some_iff] at hi
      obtain ⟨x, hx, rfl⟩ := hi
      have hd : l.getD i ⟨0, 0, 0, []⟩ = x := by simp [List.getD, hx]
      rw [hd]
      match j, hj with
      | 0, hj => cases hj; exact .v _ rfl
      | 1, hj => cases hj; exact .v _ rfl
      | 2, hj => cases hj; exact .v _ rfl
      | 3, hj => cases hj; exact .v _ rfl
      | j + 4, hj => simp [fD] at hj
theorem read_c {W0 : World} (s : ByteArray) : APure Tryd.prog W0 102 [.d (.v (.string s))] (· = .ret (.tup [rF (Ws.read s.data.toList).1, .d (.v (.int .i64 ((Ws.read s.data.toList).2 : Nat)))])) := by
  refine pure_oldR fun M m w us _ hM ha => ?_
  rw [us1 ha]
  refine (read_calls s w).mono ?_
  rintro e w' ⟨v, rfl, hr, hb⟩
  refine ⟨_, rfl, ?_, hb⟩
  simp only [RA]
  refine ⟨_, rfl, ?_⟩
  simp only [RAs, and_true, rF, RA]
  exact ⟨rows_F hr hM (read_len _), .v _ rfl⟩
end Go.Proofs.YtbgfiflnfndckaaDoor.Lift
end
section
/- The lift: values as messages: written, bytes, message, pair. No conditions but what memory holds. -/
set_option linter.unusedVariables false
set_option linter.unusedSimpArgs false
set_option maxHeartbeats 4000000
set_option maxRecDepth 100000
namespace Go.Proofs.YtbgfiflnfndckaaDoor.Lift
open Go Go.RowKit

theorem bytes_eta (s : ByteArray) : (⟨s.data.toList.toArray⟩ : ByteArray) = s := rfl
theorem _root_.Go.Proofs.YtbgfiflnfndckaaDoor.Lift.APure.le {P : Program} {W0 : World} {f : FuncId} {args args' : List AV} {R : Res → Prop} (h : APure P W0 f args R) (hl : LeL args' args) : APure P W0 f args' R := fun M m w us hc ha => h M m w us hc (hl _ _ _ _ ha)
/-- Bytes or an error's number. -/
abbrev BE := Except Nat (List UInt8)
def resM : BE → Res
  | .ok t => .ret (.d (.v (.string ⟨t.toArray⟩)))
  | .error c => .panic (err c)
def wrE (l : List Ws.Fd) : BE := if (Ws.write l).2 = 0 then .ok (Ws.write l).1 else .error (Ws.write l).2
theorem written_c {W0 : World} (l : List Ws.Fd) (hn : ∀ f ∈ l, f.n < 2 ^ 64) : APure Tryd.prog W0 81 [rF l] (· = resM (wrE l)) := by
  have hw := write_c (W0 := W0) l hn
  unfold wrE
  obtain ⟨c, hc⟩ : ∃ c, c = (Ws.write l).2 := ⟨_, rfl⟩
  rw [← hc] at hw ⊢
  by_cases h0 : c = 0
  · subst h0
    rw [if_pos rfl]
    refine A_body Tryd.func81 rfl (Nat.le_of_ble_eq_true rfl) ?_
    simp only [go_sem, Tryd.ntmps81, Tryd.results81, mkEnv]
    repeat (first | refine wS ?_ | refine wB ?_ | (refine wR ?_; simp only [go_sem]) | (refine wT ?_ ?_; focus (simp only [go_sem]; done)) | (refine wF ?_ ?_; focus (simp only [go_sem]; done)) | (refine wK ?_; try simp only [go_sem]) | (refine wE ?_; try simp only [go_sem]) | refine wX ?_)
    refine wC (hw) ?_
    simp only [go_sem]
    repeat (first | refine wS ?_ | refine wB ?_ | (refine wR ?_; simp only [go_sem]) | (refine wT ?_ ?_; focus (simp only [go_sem]; done)) | (refine wF ?_ ?_; focus (simp only [go_sem]; done)) | (refine wK ?_; try simp only [go_sem]) | (refine wE ?_; try simp only [go_sem]) | refine wX ?_)
    refine wC (fine_ok) ?_
    simp only [go_sem]
    repeat (first | refine wS ?_ | refine wB ?_ | (refine wR ?_; simp only [go_sem]) | (refine wT ?_ ?_; focus (simp only [go_sem]; done)) | (refine wF ?_ ?_; focus (simp only [go_sem]; done)) | (refine wK ?_; try simp only [go_sem]) | (refine wE ?_; try simp only [go_sem]) | refine wX ?_)
    exact wRq
  · rw [if_neg h0]
    refine A_body Tryd.func81 rfl (Nat.le_of_ble_eq_true rfl) ?_
    simp only [go_sem, Tryd.ntmps81, Tryd.results81, mkEnv]
    repeat (first | refine wS ?_ | refine wB ?_ | (refine wR ?_; simp only [go_sem]) | (refine wT ?_ ?_; focus (simp only [go_sem]; done)) | (refine wF ?_ ?_; focus (simp only [go_sem]; done)) | (refine wK ?_; try simp only [go_sem]) | (refine wE ?_; try simp only [go_sem]) | refine wX ?_)
    refine wC (hw) ?_
    simp only [go_sem]
    repeat (first | refine wS ?_ | refine wB ?_ | (refine wR ?_; simp only [go_sem]) | (refine wT ?_ ?_; focus (simp only [go_sem]; done)) | (refine wF ?_ ?_; focus (simp only [go_sem]; done)) | (refine wK ?_; try simp only [go_sem]) | (refine wE ?_; try simp only [go_sem]) | refine wX ?_)
    refine wP (fine_no (c : Int) (by omega)) ?_
    try simp only [go_sem]
    exact wPan ⟨rfl, rfl⟩
theorem bytes_c {W0 : World} (num : Int) (s : ByteArray) : APure Tryd.prog W0 82 [.d (.v (.int .i64 num)), .d (.v (.string s))] (· = .ret (.agg [.d (.v (.int .i64 num)), .d (.v (.int .u8 2)), .d (.v (.int .u64 0)), .d (.v (.string s))])) := by
  refine A_body Tryd.func82 rfl (Nat.le_of_ble_eq_true rfl) ?_
  simp only [go_sem, Tryd.ntmps82, Tryd.results82, mkEnv]
  repeat (first | refine wS ?_ | refine wB ?_ | (refine wR ?_; simp only [go_sem]) | (refine wT ?_ ?_; focus (simp only [go_sem]; done)) | (refine wF ?_ ?_; focus (simp only [go_sem]; done)) | (refine wK ?_; try simp only [go_sem]) | (refine wE ?_; try simp only [go_sem]) | refine wX ?_)
  exact wRq
def bF (num : Int) (t : List UInt8) : Ws.Fd := ⟨num, 2, 0, t⟩
/-- Parts, one after the other. -/
def partsE : List BE → Except Nat (List Ws.Fd)
  | [] => .ok []
  | .error e :: _ => .error e
  | .ok t :: l => match partsE l with | .error e => .error e | .ok fs => .ok (bF 1 t :: fs)
theorem partsE_app (l l' : List BE) : partsE (l ++ l') = match partsE l with | .error e => .error e | .ok fs => (match partsE l' with | .error e => .error e | .ok fs' => .ok (fs ++ fs')) := by
  induction l with
  | nil => simp only [List.nil_append, partsE]; cases partsE l' <;> rfl
  | cons x l ih =>
    cases x with
    | error e => rfl
    | ok t =>
      simp only [List.cons_append, partsE, ih]
      cases partsE l with
      | error e => rfl
      | ok fs => cases partsE l' <;> rfl
theorem partsE_take {l : List BE} {i : Nat} {r : BE} {fs : List Ws.Fd} (h : l[i]? = some r) (h0 : partsE (l.take i) = .ok fs) : (∀ e, r = .error e → partsE l = .error e) ∧ ∀ t, r = .ok t → partsE (l.take (i + 1)) = .ok (fs ++ [bF 1 t]) := by
  have e1 : l.take (i + 1) = l.take i ++ [r] := by
    rw [List.take_add_one, h]
    rfl
  refine ⟨fun e he => ?_, fun t ht => by rw [e1, partsE_app, h0, ht]; rfl⟩
  have : l = l.take (i + 1) ++ l.drop (i + 1) := (List.take_append_drop _ _).symm
  rw [this, partsE_app, e1, partsE_app, h0, he]
  rfl
theorem partsE_all {l : List BE} {fs : List Ws.Fd} (h : partsE l = .ok fs) : fs.length = l.length ∧ ∀ f ∈ fs, f.n < 2 ^ 64 := by
  induction l generalizing fs with
  | nil => cases h; exact ⟨rfl, by simp⟩
  | cons x l ih =>
    cases x with
    | error e => cases h
    | ok t =>
      simp only [partsE] at h
      cases hp : partsE l with
      | error e => rw [hp] at h; cases h
      | ok gs =>
        rw [hp] at h
        cases h
        obtain ⟨h1, h2⟩ := ih hp
        exact ⟨by simp [h1], fun f hf => by
          rcases List.mem_cons.1 hf with rfl | hf
          · exact Nat.two_pow_pos 64
          · exact h2 f hf⟩
def V.kind : V → Nat
  | .mk k .. => k
def boxE (k : Int) (r : Except Nat (List Ws.Fd)) : BE :=
  match r with
  | .error e => .error e
  | .ok fs => match wrE fs with
    | .error e => .error e
    | .ok t => wrE [bF k t]
def u64 (n : Int) : Nat := (IntKind.u64.wrap n).toNat
mutual
def msg : V → BE
  | .mk k s b n f l m => if k = 1 then wrE [bF 1 s.data.toList] else if k = 7 then wrE [bF 7 s.data.toList] else if k = 2 then wrE [⟨2, 0, if b then 1 else 0, []⟩] else if k = 3 then wrE [⟨3, 0, u64 n, []⟩] else
      if k = 4 then wrE [⟨4, 1, f, []⟩] else if k = 5 then boxE 5 (partsE (msgL l)) else
      if k = 6 then boxE 6 (partsE (msgP m)) else .ok []
def msgL : List V → List BE
  | [] => []
  | x :: l => msg x :: msgL l
def msgP : List (ByteArray × V) → List BE
  | [] => []
  | (key, x) :: m => (match msg x with | .error e => .error e | .ok t => wrE ((if key.size = 0 then [] else [bF 1 key.data.toList]) ++ (if x.kind = 0 then [] else [bF 2 t]))) :: msgP m
end
def pairE (key : ByteArray) (x : V) : BE := match msg x with | .error e => .error e | .ok t => wrE ((if key.size = 0 then [] else [bF 1 key.data.toList]) ++ (if x.kind = 0 then [] else [bF 2 t]))
theorem msgL_map : ∀ l : List V, msgL l = l.map msg
  | [] => by simp only [msgL, List.map_nil]
  | x :: l => by simp only [msgL, List.map_cons, msgL_map l]
theorem msgP_map : ∀ m : List (ByteArray × V), msgP m = m.map fun p => pairE p.1 p.2
  | [] => by simp only [msgP, List.map_nil]
  | (key, x) :: m => by
    simp only [msgP, List.map_cons, msgP_map m, pairE]
theorem strEmpty (s : ByteArray) : (s.toList == (⟨#[]⟩ : ByteArray).toList) = decide (s.size = 0) := by
  rw [ByteArray.toList_eq, ByteArray.toList_eq]
  by_cases h : s.size = 0
  · have : s.data.toList = [] := by
      apply List.eq_nil_of_length_eq_zero
      simpa using h
    rw [this, decide_eq_true h]
    rfl
  · rw [decide_eq_false h, beq_eq_false_iff_ne]
    intro e
    apply h
    have := congrArg List.length e
    simpa using this
theorem pair_of {W0 : World} (p : ByteArray × V) (hp : okV p.2) (hm : APure Tryd.prog W0 49 [va p.2] (· = resM (msg p.2))) : APure Tryd.prog W0 71 [pa p] (· = resM (pairE p.1 p.2)) := by
  obtain ⟨key, ⟨k, s, b, n, f, l, m⟩⟩ := p
  have e0 := strEmpty key
  simp only at hm hp
  unfold pairE
  generalize hmsg : msg (.mk k s b n f l m) = r at hm ⊢
  have hkk : (V.mk k s b n f l m).kind = k := rfl
  rw [hkk]
  have ek := kEq k 0
  rw [show ((0 : Nat) : Int) = 0 from rfl] at ek
  simp only [va, vD, vDs_map, pDs_map, List.map_cons, List.map_nil] at hm
  have hr : ∀ K : List Ws.Fd, (∀ f ∈ K, f.n < 2 ^ 64) → APure Tryd.prog W0 81 [rF K] (· = resM (wrE K)) := fun K => written_c K
  by_cases hk : key.size = 0
  · rw [decide_eq_true hk] at e0
    refine A_body Tryd.func71 rfl (Nat.le_of_ble_eq_true rfl) ?_
    simp only [go_sem, Tryd.ntmps71, Tryd.results71, mkEnv, pa, pD, vD, vDs_map, pDs_map, e0]
    repeat (first | refine wS ?_ | refine wB ?_ | (refine wR ?_; simp only [go_sem, pa, pD, vD, vDs_map, pDs_map, e0]) | (refine wT ?_ ?_; focus (simp only [go_sem]; done)) | (refine wF ?_ ?_; focus (simp only [go_sem]; done)) | (refine wK ?_; try simp only [go_sem, pa, pD, vD, vDs_map, pDs_map, e0]) | (refine wE ?_; try simp only [go_sem, pa, pD, vD, vDs_map, pDs_map, e0]) | refine wX ?_)
    cases r with
    | error e =>
      refine wP (hm) ?_
      try simp only [go_sem]
      exact wPan ⟨rfl, rfl⟩
    | ok t =>
      simp only [if_pos hk, List.nil_append]
      by_cases h0 : k = 0
      · subst h0
        rw [if_pos rfl]
        refine wC (hm) ?_
        simp only [go_sem]
        repeat (first | refine wS ?_ | refine wB ?_ | (refine wR ?_; simp only [go_sem]) | (refine wT ?_ ?_; focus (simp only [go_sem]; done)) | (refine wF ?_ ?_; focus (simp only [go_sem]; done)) | (refine wK ?_; try simp only [go_sem]) | (refine wE ?_; try simp only [go_sem]) | refine wX ?_)
        have hw := (hr ([] : List Ws.Fd) (by simp [bF])).le (LeL.cons (Le.nil (sz := 4) (bt := 40) (by decide)) .nil)
        generalize wrE ([] : List Ws.Fd) = u at hw ⊢
        cases u with
        | error e =>
          refine wP (hw) ?_
          try simp only [go_sem]
          exact wPan ⟨rfl, rfl⟩
        | ok u =>
          refine wC (hw) ?_
          simp only [go_sem]
          repeat (first | refine wS ?_ | refine wB ?_ | (refine wR ?_; simp only [go_sem]) | (refine wT ?_ ?_; focus (simp only [go_sem]; done)) | (refine wF ?_ ?_; focus (simp only [go_sem]; done)) | (refine wK ?_; try simp only [go_sem]) | (refine wE ?_; try simp only [go_sem]) | refine wX ?_)
          exact wRq
      · rw [if_neg h0]
        have ek2 : ((k : Int) != 0) = true := by simp only [bne, ek, decide_eq_false h0, Bool.not_false]
        refine wC (hm) ?_
        simp only [go_sem, ek2]
        repeat (first | refine wS ?_ | refine wB ?_ | (refine wR ?_; simp only [go_sem, ek2]) | (refine wT ?_ ?_; focus (simp only [go_sem]; done)) | (refine wF ?_ ?_; focus (simp only [go_sem]; done)) | (refine wK ?_; try simp only [go_sem, ek2]) | (refine wE ?_; try simp only [go_sem, ek2]) | refine wX ?_)
        refine wC (bytes_c 2 ⟨t.toArray⟩) ?_
        simp only [go_sem]
        repeat (first | refine wS ?_ | refine wB ?_ | (refine wR ?_; simp only [go_sem]) | (refine wT ?_ ?_; focus (simp only [go_sem]; done)) | (refine wF ?_ ?_; focus (simp only [go_sem]; done)) | (refine wK ?_; try simp only [go_sem]) | (refine wE ?_; try simp only [go_sem]) | refine wX ?_)
        refine wOpnO 21 4 40 ?_
        simp only [go_sem]
        refine wA ([]) ([bF 2 t].map fD) ?_ (hbound := by simp)
        simp only [go_sem]
        repeat (first | refine wS ?_ | refine wB ?_ | (refine wR ?_; simp only [go_sem]) | (refine wT ?_ ?_; focus (simp only [go_sem]; done)) | (refine wF ?_ ?_; focus (simp only [go_sem]; done)) | (refine wK ?_; try simp only [go_sem]) | (refine wE ?_; try simp only [go_sem]) | refine wX ?_)
        have hw := hr [bF 2 t] (by simp [bF])
        generalize wrE [bF 2 t] = u at hw ⊢
        refine wFzO 2 ?_
        simp only [go_sem]
        cases u with
        | error e =>
          refine wP (hw) ?_
          try simp only [go_sem]
          exact wPan ⟨rfl, rfl⟩
        | ok u =>
          refine wC (hw) ?_
          simp only [go_sem]
          repeat (first | refine wS ?_ | refine wB ?_ | (refine wR ?_; simp only [go_sem]) | (refine wT ?_ ?_; focus (simp only [go_sem]; done)) | (refine wF ?_ ?_; focus (simp only [go_sem]; done)) | (refine wK ?_; try simp only [go_sem]) | (refine wE ?_; try simp only [go_sem]) | refine wX ?_)
          exact wRq
  · rw [decide_eq_false hk] at e0
    refine A_body Tryd.func71 rfl (Nat.le_of_ble_eq_true rfl) ?_
    simp only [go_sem, Tryd.ntmps71, Tryd.results71, mkEnv, pa, pD, vD, vDs_map, pDs_map, e0]
    repeat (first | refine wS ?_ | refine wB ?_ | (refine wR ?_; simp only [go_sem, pa, pD, vD, vDs_map, pDs_map, e0]) | (refine wT ?_ ?_; focus (simp only [go_sem]; done)) | (refine wF ?_ ?_; focus (simp only [go_sem]; done)) | (refine wK ?_; try simp only [go_sem, pa, pD, vD, vDs_map, pDs_map, e0]) | (refine wE ?_; try simp only [go_sem, pa, pD, vD, vDs_map, pDs_map, e0]) | refine wX ?_)
    refine wC (bytes_c 1 key) ?_
    simp only [go_sem]
    repeat (first | refine wS ?_ | refine wB ?_ | (refine wR ?_; simp only [go_sem]) | (refine wT ?_ ?_; focus (simp only [go_sem]; done)) | (refine wF ?_ ?_; focus (simp only [go_sem]; done)) | (refine wK ?_; try simp only [go_sem]) | (refine wE ?_; try simp only [go_sem]) | refine wX ?_)
    refine wOpnO 8 4 40 ?_
    simp only [go_sem]
    refine wA ([]) ([bF 1 key.data.toList].map fD) ?_ (hbound := by simp)
    simp only [go_sem]
    repeat (first | refine wS ?_ | refine wB ?_ | (refine wR ?_; simp only [go_sem]) | (refine wT ?_ ?_; focus (simp only [go_sem]; done)) | (refine wF ?_ ?_; focus (simp only [go_sem]; done)) | (refine wK ?_; try simp only [go_sem]) | (refine wE ?_; try simp only [go_sem]) | refine wX ?_)
    cases r with
    | error e =>
      refine wP (hm) ?_
      try simp only [go_sem]
      exact wPan ⟨rfl, rfl⟩
    | ok t =>
      simp only [if_neg hk]
      by_cases h0 : k = 0
      · subst h0
        rw [if_pos rfl]
        refine wC (hm) ?_
        simp only [go_sem]
        repeat (first | refine wS ?_ | refine wB ?_ | (refine wR ?_; simp only [go_sem]) | (refine wT ?_ ?_; focus (simp only [go_sem]; done)) | (refine wF ?_ ?_; focus (simp only [go_sem]; done)) | (refine wK ?_; try simp only [go_sem]) | (refine wE ?_; try simp only [go_sem]) | refine wX ?_)
        have hw := hr [bF 1 key.data.toList] (by simp [bF])
        generalize wrE [bF 1 key.data.toList] = u at hw ⊢
        refine wFzO 2 ?_
        simp only [go_sem]
        cases u with
        | error e =>
          refine wP (hw) ?_
          try simp only [go_sem]
          exact wPan ⟨rfl, rfl⟩
        | ok u =>
          refine wC (hw) ?_
          simp only [go_sem]
          repeat (first | refine wS ?_ | refine wB ?_ | (refine wR ?_; simp only [go_sem]) | (refine wT ?_ ?_; focus (simp only [go_sem]; done)) | (refine wF ?_ ?_; focus (simp only [go_sem]; done)) | (refine wK ?_; try simp only [go_sem]) | (refine wE ?_; try simp only [go_sem]) | refine wX ?_)
          exact wRq
      · rw [if_neg h0]
        have ek2 : ((k : Int) != 0) = true := by simp only [bne, ek, decide_eq_false h0, Bool.not_false]
        refine wC (hm) ?_
        simp only [go_sem, ek2]
        repeat (first | refine wS ?_ | refine wB ?_ | (refine wR ?_; simp only [go_sem, ek2]) | (refine wT ?_ ?_; focus (simp only [go_sem]; done)) | (refine wF ?_ ?_; focus (simp only [go_sem]; done)) | (refine wK ?_; try simp only [go_sem, ek2]) | (refine wE ?_; try simp only [go_sem, ek2]) | refine wX ?_)
        refine wC (bytes_c 2 ⟨t.toArray⟩) ?_
        simp only [go_sem]
        repeat (first | refine wS ?_ | refine wB ?_ | (refine wR ?_; simp only [go_sem]) | (refine wT ?_ ?_; focus (simp only [go_sem]; done)) | (refine wF ?_ ?_; focus (simp only [go_sem]; done)) | (refine wK ?_; try simp only [go_sem]) | (refine wE ?_; try simp only [go_sem]) | refine wX ?_)
        refine wA ([bF 1 key.data.toList].map fD) ([bF 2 t].map fD) ?_ (hbound := by simp)
        simp only [go_sem]
        repeat (first | refine wS ?_ | refine wB ?_ | (refine wR ?_; simp only [go_sem]) | (refine wT ?_ ?_; focus (simp only [go_sem]; done)) | (refine wF ?_ ?_; focus (simp only [go_sem]; done)) | (refine wK ?_; try simp only [go_sem]) | (refine wE ?_; try simp only [go_sem]) | refine wX ?_)
        have hw := hr ([bF 1 key.data.toList] ++ [bF 2 t]) (by simp [bF])
        simp only [List.cons_append, List.nil_append] at hw ⊢
        generalize wrE [bF 1 key.data.toList, bF 2 t] = u at hw ⊢
        refine wFzO 2 ?_
        simp only [go_sem]
        cases u with
        | error e =>
          refine wP (hw) ?_
          try simp only [go_sem]
          exact wPan ⟨rfl, rfl⟩
        | ok u =>
          refine wC (hw) ?_
          simp only [go_sem]
          repeat (first | refine wS ?_ | refine wB ?_ | (refine wR ?_; simp only [go_sem]) | (refine wT ?_ ?_; focus (simp only [go_sem]; done)) | (refine wF ?_ ?_; focus (simp only [go_sem]; done)) | (refine wK ?_; try simp only [go_sem]) | (refine wE ?_; try simp only [go_sem]) | refine wX ?_)
          exact wRq
theorem u64_wrap (n : Int) : IntKind.u64.wrap n = ((u64 n : Nat) : Int) ∧ u64 n < 2 ^ 64 := by
  unfold u64
  have h := IntKind.wrap_u64 n
  omega
theorem message_c {W0 : World} : ∀ x : V, okV x → APure Tryd.prog W0 49 [va x] (· = resM (msg x)) := by
  refine V.ind (p := fun x => okV x → APure Tryd.prog W0 49 [va x] (· = resM (msg x))) ?_
  intro k s b n f l m hl hm hok
  obtain ⟨hs, hll, hL, hP⟩ := okP_in hok
  have hff : f < 2 ^ 64 := by cases hok; assumption
  rw [msg]
  by_cases h1 : k = 1
  · subst h1
    rw [if_pos rfl]
    refine A_body Tryd.func49 rfl (Nat.le_of_ble_eq_true rfl) ?_
    simp only [go_sem, Tryd.ntmps49, Tryd.results49, mkEnv, va, vD, vDs_map, pDs_map]
    repeat (first | refine wS ?_ | refine wB ?_ | (refine wR ?_; simp only [go_sem, va, vD, vDs_map, pDs_map]) | (refine wT ?_ ?_; focus (simp only [go_sem]; done)) | (refine wF ?_ ?_; focus (simp only [go_sem]; done)) | (refine wK ?_; try simp only [go_sem, va, vD, vDs_map, pDs_map]) | (refine wE ?_; try simp only [go_sem, va, vD, vDs_map, pDs_map]) | refine wX ?_)
    refine wC (bytes_c 1 s) ?_
    simp only [go_sem]
    repeat (first | refine wS ?_ | refine wB ?_ | (refine wR ?_; simp only [go_sem]) | (refine wT ?_ ?_; focus (simp only [go_sem]; done)) | (refine wF ?_ ?_; focus (simp only [go_sem]; done)) | (refine wK ?_; try simp only [go_sem]) | (refine wE ?_; try simp only [go_sem]) | refine wX ?_)
    have hw := written_c (W0 := W0) [bF 1 s.data.toList] (by simp [bF])
    generalize wrE [bF 1 s.data.toList] = u at hw ⊢
    refine wFzO 1 ?_
    simp only [go_sem]
    cases u with
    | error e =>
      refine wP (hw) ?_
      try simp only [go_sem]
      exact wPan ⟨rfl, rfl⟩
    | ok u =>
      refine wC (hw) ?_
      simp only [go_sem]
      repeat (first | refine wS ?_ | refine wB ?_ | (refine wR ?_; simp only [go_sem]) | (refine wT ?_ ?_; focus (simp only [go_sem]; done)) | (refine wF ?_ ?_; focus (simp only [go_sem]; done)) | (refine wK ?_; try simp only [go_sem]) | (refine wE ?_; try simp only [go_sem]) | refine wX ?_)
      exact wRq
  by_cases h7 : k = 7
  · subst h7
    rw [if_neg (by decide), if_pos rfl]
    refine A_body Tryd.func49 rfl (Nat.le_of_ble_eq_true rfl) ?_
    simp only [go_sem, Tryd.ntmps49, Tryd.results49, mkEnv, va, vD, vDs_map, pDs_map]
    repeat (first | refine wS ?_ | refine wB ?_ | (refine wR ?_; simp only [go_sem, va, vD, vDs_map, pDs_map]) | (refine wT ?_ ?_; focus (simp only [go_sem]; done)) | (refine wF ?_ ?_; focus (simp only [go_sem]; done)) | (refine wK ?_; try simp only [go_sem, va, vD, vDs_map, pDs_map]) | (refine wE ?_; try simp only [go_sem, va, vD, vDs_map, pDs_map]) | refine wX ?_)
    refine wC (bytes_c 7 s) ?_
    simp only [go_sem]
    repeat (first | refine wS ?_ | refine wB ?_ | (refine wR ?_; simp only [go_sem]) | (refine wT ?_ ?_; focus (simp only [go_sem]; done)) | (refine wF ?_ ?_; focus (simp only [go_sem]; done)) | (refine wK ?_; try simp only [go_sem]) | (refine wE ?_; try simp only [go_sem]) | refine wX ?_)
    have hw := written_c (W0 := W0) [bF 7 s.data.toList] (by simp [bF])
    generalize wrE [bF 7 s.data.toList] = u at hw ⊢
    refine wFzO 1 ?_
    simp only [go_sem]
    cases u with
    | error e =>
      refine wP (hw) ?_
      try simp only [go_sem]
      exact wPan ⟨rfl, rfl⟩
    | ok u =>
      refine wC (hw) ?_
      simp only [go_sem]
      repeat (first | refine wS ?_ | refine wB ?_ | (refine wR ?_; simp only [go_sem]) | (refine wT ?_ ?_; focus (simp only [go_sem]; done)) | (refine wF ?_ ?_; focus (simp only [go_sem]; done)) | (refine wK ?_; try simp only [go_sem]) | (refine wE ?_; try simp only [go_sem]) | refine wX ?_)
      exact wRq
  by_cases h2 : k = 2
  · subst h2
    rw [if_neg (by decide), if_neg (by decide), if_pos rfl]
    cases b with
    | false =>
      rw [if_neg (by decide)]
      refine A_body Tryd.func49 rfl (Nat.le_of_ble_eq_true rfl) ?_
      simp only [go_sem, Tryd.ntmps49, Tryd.results49, mkEnv, va, vD, vDs_map, pDs_map]
      repeat (first | refine wS ?_ | refine wB ?_ | (refine wR ?_; simp only [go_sem, va, vD, vDs_map, pDs_map]) | (refine wT ?_ ?_; focus (simp only [go_sem]; done)) | (refine wF ?_ ?_; focus (simp only [go_sem]; done)) | (refine wK ?_; try simp only [go_sem, va, vD, vDs_map, pDs_map]) | (refine wE ?_; try simp only [go_sem, va, vD, vDs_map, pDs_map]) | refine wX ?_)
      have hw := written_c (W0 := W0) [⟨2, 0, 0, []⟩] (by simp)
      generalize wrE [⟨2, 0, 0, []⟩] = u at hw ⊢
      refine wFzO 1 ?_
      simp only [go_sem]
      cases u with
      | error e =>
        refine wP (hw) ?_
        try simp only [go_sem]
        exact wPan ⟨rfl, rfl⟩
      | ok u =>
        refine wC (hw) ?_
        simp only [go_sem]
        repeat (first | refine wS ?_ | refine wB ?_ | (refine wR ?_; simp only [go_sem]) | (refine wT ?_ ?_; focus (simp only [go_sem]; done)) | (refine wF ?_ ?_; focus (simp only [go_sem]; done)) | (refine wK ?_; try simp only [go_sem]) | (refine wE ?_; try simp only [go_sem]) | refine wX ?_)
        exact wRq
    | true =>
      rw [if_pos rfl]
      refine A_body Tryd.func49 rfl (Nat.le_of_ble_eq_true rfl) ?_
      simp only [go_sem, Tryd.ntmps49, Tryd.results49, mkEnv, va, vD, vDs_map, pDs_map]
      repeat (first | refine wS ?_ | refine wB ?_ | (refine wR ?_; simp only [go_sem, va, vD, vDs_map, pDs_map]) | (refine wT ?_ ?_; focus (simp only [go_sem]; done)) | (refine wF ?_ ?_; focus (simp only [go_sem]; done)) | (refine wK ?_; try simp only [go_sem, va, vD, vDs_map, pDs_map]) | (refine wE ?_; try simp only [go_sem, va, vD, vDs_map, pDs_map]) | refine wX ?_)
      have hw := written_c (W0 := W0) [⟨2, 0, 1, []⟩] (by simp)
      generalize wrE [⟨2, 0, 1, []⟩] = u at hw ⊢
      refine wFzO 1 ?_
      simp only [go_sem]
      cases u with
      | error e =>
        refine wP (hw) ?_
        try simp only [go_sem]
        exact wPan ⟨rfl, rfl⟩
      | ok u =>
        refine wC (hw) ?_
        simp only [go_sem]
        repeat (first | refine wS ?_ | refine wB ?_ | (refine wR ?_; simp only [go_sem]) | (refine wT ?_ ?_; focus (simp only [go_sem]; done)) | (refine wF ?_ ?_; focus (simp only [go_sem]; done)) | (refine wK ?_; try simp only [go_sem]) | (refine wE ?_; try simp only [go_sem]) | refine wX ?_)
        exact wRq
  by_cases h3 : k = 3
  · subst h3
    rw [if_neg (by decide), if_neg (by decide), if_neg (by decide), if_pos rfl]
    obtain ⟨hu, hu2⟩ := u64_wrap n
    refine A_body Tryd.func49 rfl (Nat.le_of_ble_eq_true rfl) ?_
    simp only [go_sem, Tryd.ntmps49, Tryd.results49, mkEnv, va, vD, vDs_map, pDs_map, hu]
    repeat (first | refine wS ?_ | refine wB ?_ | (refine wR ?_; simp only [go_sem, va, vD, vDs_map, pDs_map, hu]) | (refine wT ?_ ?_; focus (simp only [go_sem]; done)) | (refine wF ?_ ?_; focus (simp only [go_sem]; done)) | (refine wK ?_; try simp only [go_sem, va, vD, vDs_map, pDs_map, hu]) | (refine wE ?_; try simp only [go_sem, va, vD, vDs_map, pDs_map, hu]) | refine wX ?_)
    have hw := written_c (W0 := W0) [⟨3, 0, u64 n, []⟩] (by simpa using hu2)
    generalize wrE [⟨3, 0, u64 n, []⟩] = u at hw ⊢
    refine wFzO 1 ?_
    simp only [go_sem]
    cases u with
    | error e =>
      refine wP (hw) ?_
      try simp only [go_sem]
      exact wPan ⟨rfl, rfl⟩
    | ok u =>
      refine wC (hw) ?_
      simp only [go_sem]
      repeat (first | refine wS ?_ | refine wB ?_ | (refine wR ?_; simp only [go_sem]) | (refine wT ?_ ?_; focus (simp only [go_sem]; done)) | (refine wF ?_ ?_; focus (simp only [go_sem]; done)) | (refine wK ?_; try simp only [go_sem]) | (refine wE ?_; try simp only [go_sem]) | refine wX ?_)
      exact wRq
  by_cases h4 : k = 4
  · subst h4
    rw [if_neg (by decide), if_neg (by decide), if_neg (by decide), if_neg (by decide), if_pos rfl]
    refine A_body Tryd.func49 rfl (Nat.le_of_ble_eq_true rfl) ?_
    simp only [go_sem, Tryd.ntmps49, Tryd.results49, mkEnv, va, vD, vDs_map, pDs_map]
    repeat (first | refine wS ?_ | refine wB ?_ | (refine wR ?_; simp only [go_sem, va, vD, vDs_map, pDs_map]) | (refine wT ?_ ?_; focus (simp only [go_sem]; done)) | (refine wF ?_ ?_; focus (simp only [go_sem]; done)) | (refine wK ?_; try simp only [go_sem, va, vD, vDs_map, pDs_map]) | (refine wE ?_; try simp only [go_sem, va, vD, vDs_map, pDs_map]) | refine wX ?_)
    have hw := written_c (W0 := W0) [⟨4, 1, f, []⟩] (by simpa using hff)
    generalize wrE [⟨4, 1, f, []⟩] = u at hw ⊢
    refine wFzO 1 ?_
    simp only [go_sem]
    cases u with
    | error e =>
      refine wP (hw) ?_
      try simp only [go_sem]
      exact wPan ⟨rfl, rfl⟩
    | ok u =>
      refine wC (hw) ?_
      simp only [go_sem]
      repeat (first | refine wS ?_ | refine wB ?_ | (refine wR ?_; simp only [go_sem]) | (refine wT ?_ ?_; focus (simp only [go_sem]; done)) | (refine wF ?_ ?_; focus (simp only [go_sem]; done)) | (refine wK ?_; try simp only [go_sem]) | (refine wE ?_; try simp only [go_sem]) | refine wX ?_)
      exact wRq
  by_cases h5 : k = 5
  · subst h5
    rw [if_neg (by decide), if_neg (by decide), if_neg (by decide), if_neg (by decide), if_neg (by decide), if_pos rfl]
    refine A_body Tryd.func49 rfl (Nat.le_of_ble_eq_true rfl) ?_
    simp only [go_sem, Tryd.ntmps49, Tryd.results49, mkEnv, va, vD, vDs_map, pDs_map]
    repeat (first | refine wS ?_ | refine wB ?_ | (refine wR ?_; simp only [go_sem, va, vD, vDs_map, pDs_map]) | (refine wT ?_ ?_; focus (simp only [go_sem]; done)) | (refine wF ?_ ?_; focus (simp only [go_sem]; done)) | (refine wK ?_; try simp only [go_sem, va, vD, vDs_map, pDs_map]) | (refine wE ?_; try simp only [go_sem, va, vD, vDs_map, pDs_map]) | refine wX ?_)
    refine wOpn 3 4 40 ?_
    simp only [go_sem]
    repeat (first | refine wS ?_ | refine wB ?_ | (refine wR ?_; simp only [go_sem]) | (refine wT ?_ ?_; focus (simp only [go_sem]; done)) | (refine wF ?_ ?_; focus (simp only [go_sem]; done)) | (refine wK ?_; try simp only [go_sem]) | (refine wE ?_; try simp only [go_sem]) | refine wX ?_)
    refine wLm (σ := { p : Nat × List Ws.Fd // p.1 ≤ l.length ∧ partsE ((msgL l).take p.1) = .ok p.2 }) (fun p => ⟨91, ofL [(3, .sl 1 4 0 p.1.2.length), (52, rV l), (53, .d (.v (.int .i64 l.length))), (54, .d (.v (.int .i64 (p.1.1 : Nat))))], [.var [.d (.v (.int .u8 5)), .d (.v (.string s)), .d (.v (.bool b)), .d (.v (.int .i64 n)), .d (.v (.float .f64 f)), .d (.rows 7 96 (l.map vD)), .d (.rows 8 112 (m.map pD))], .vec 4 40 (p.1.2.map fD)]⟩) (fun p => l.length - p.1.1) ⟨(0, []), Nat.zero_le _, rfl⟩ wSb ?_
    rintro ⟨⟨i, fs⟩, hi, hfs⟩ R hR
    simp only at hi hfs
    obtain ⟨hfl, hfn⟩ := partsE_all hfs
    have hll := hll
    rw [msgL_map, List.length_take, List.length_map, Nat.min_eq_left hi] at hfl
    simp only [go_sem]
    repeat (first | refine wS ?_ | refine wB ?_ | (refine wR ?_; simp only [go_sem]) | (refine wT ?_ ?_; focus (simp only [go_sem]; done)) | (refine wF ?_ ?_; focus (simp only [go_sem]; done)) | (refine wK ?_; try simp only [go_sem]) | (refine wE ?_; try simp only [go_sem]) | refine wX ?_)
    refine wI (fun h => ?_) (fun h => ?_)
    · have hlt : i < l.length := by simpa using h
      have hlt2 : ((i : Int) < ((l.length : Nat) : Int)) = True := eq_true (by omega)
      have hw := wrap_succ (i := i) (by omega)
      have hx : (l.map vD)[i]? = some (vD l[i]) := by rw [List.getElem?_map, List.getElem?_eq_getElem hlt]; rfl
      have hin : l[i] ∈ l := List.getElem_mem hlt
      have hc := hl _ hin (hL _ hin)
      have hval : (msgL l)[i]? = some (msg l[i]) := by rw [msgL_map, List.getElem?_map, List.getElem?_eq_getElem hlt]; rfl
      obtain ⟨hbad, hgood⟩ := partsE_take hval hfs
      generalize l[i] = x at hx hc hbad hgood
      repeat (first | refine wS ?_ | refine wB ?_ | (refine wR ?_; simp only [go_sem, hx]) | (refine wT ?_ ?_; focus (simp only [go_sem]; done)) | (refine wF ?_ ?_; focus (simp only [go_sem]; done)) | (refine wK ?_; try simp only [go_sem, hx]) | (refine wE ?_; try simp only [go_sem, hx]) | refine wX ?_)
      generalize msg x = r at hc hbad hgood
      cases r with
      | error e =>
        refine wP (hc) ?_
        try simp only [go_sem]
        refine wPan ⟨?_, rfl⟩
        rw [hbad e rfl]
        rfl
      | ok t =>
        have hmap : fs.map fD ++ [fD (bF 1 t)] = (fs ++ [bF 1 t]).map fD := by simp
        simp only [go_sem] at hmap
        refine wC (hc) ?_
        simp only [go_sem]
        repeat (first | refine wS ?_ | refine wB ?_ | (refine wR ?_; simp only [go_sem]) | (refine wT ?_ ?_; focus (simp only [go_sem]; done)) | (refine wF ?_ ?_; focus (simp only [go_sem]; done)) | (refine wK ?_; try simp only [go_sem]) | (refine wE ?_; try simp only [go_sem]) | refine wX ?_)
        refine wC (bytes_c 1 ⟨t.toArray⟩) ?_
        simp only [go_sem]
        repeat (first | refine wS ?_ | refine wB ?_ | (refine wR ?_; simp only [go_sem]) | (refine wT ?_ ?_; focus (simp only [go_sem]; done)) | (refine wF ?_ ?_; focus (simp only [go_sem]; done)) | (refine wK ?_; try simp only [go_sem]) | (refine wE ?_; try simp only [go_sem]) | refine wX ?_)
        refine wA (fs.map fD) ([bF 1 t].map fD) ?_ (hbound := by simp; omega)
        simp only [go_sem, hmap]
        repeat (first | refine wS ?_ | refine wB ?_ | (refine wR ?_; simp only [go_sem, hmap]) | (refine wT ?_ ?_; focus (simp only [go_sem]; done)) | (refine wF ?_ ?_; focus (simp only [go_sem]; done)) | (refine wK ?_; try simp only [go_sem, hmap]) | (refine wE ?_; try simp only [go_sem, hmap]) | refine wX ?_)
        simp only [go_sem, hmap, hw]
        exact hR ⟨(i + 1, fs ++ [bF 1 t]), by omega, hgood t rfl⟩ _ (by simp only; omega) wSb
    · obtain rfl : i = l.length := by simp at h; omega
      rw [List.take_of_length_le (by rw [msgL_map, List.length_map]; omega)] at hfs
      rw [hfs]
      repeat (first | refine wS ?_ | refine wB ?_ | (refine wR ?_; simp only [go_sem]) | (refine wT ?_ ?_; focus (simp only [go_sem]; done)) | (refine wF ?_ ?_; focus (simp only [go_sem]; done)) | (refine wK ?_; try simp only [go_sem]) | (refine wE ?_; try simp only [go_sem]) | refine wX ?_)
      refine wFzO 1 ?_
      simp only [go_sem]
      have hw := written_c (W0 := W0) fs hfn
      cases hwr : wrE fs with
      | error e =>
        have hz : boxE 5 (.ok fs) = .error e := by simp only [boxE, hwr]
        rw [hz]
        rw [hwr] at hw
        refine wP (hw) ?_
        try simp only [go_sem]
        exact wPan ⟨rfl, rfl⟩
      | ok t =>
        have hz : boxE 5 (.ok fs) = wrE [bF 5 t] := by simp only [boxE, hwr]
        rw [hz]
        rw [hwr] at hw
        refine wC (hw) ?_
        simp only [go_sem]
        repeat (first | refine wS ?_ | refine wB ?_ | (refine wR ?_; simp only [go_sem]) | (refine wT ?_ ?_; focus (simp only [go_sem]; done)) | (refine wF ?_ ?_; focus (simp only [go_sem]; done)) | (refine wK ?_; try simp only [go_sem]) | (refine wE ?_; try simp only [go_sem]) | refine wX ?_)
        refine wC (bytes_c 5 ⟨t.toArray⟩) ?_
        simp only [go_sem]
        repeat (first | refine wS ?_ | refine wB ?_ | (refine wR ?_; simp only [go_sem]) | (refine wT ?_ ?_; focus (simp only [go_sem]; done)) | (refine wF ?_ ?_; focus (simp only [go_sem]; done)) | (refine wK ?_; try simp only [go_sem]) | (refine wE ?_; try simp only [go_sem]) | refine wX ?_)
        refine wFzO 2 ?_
        simp only [go_sem]
        have hw2 := written_c (W0 := W0) [bF 5 t] (by simp [bF])
        generalize wrE [bF 5 t] = u at hw2 ⊢
        cases u with
        | error e =>
          refine wP (hw2) ?_
          try simp only [go_sem]
          exact wPan ⟨rfl, rfl⟩
        | ok u =>
          refine wC (hw2) ?_
          simp only [go_sem]
          repeat (first | refine wS ?_ | refine wB ?_ | (refine wR ?_; simp only [go_sem]) | (refine wT ?_ ?_; focus (simp only [go_sem]; done)) | (refine wF ?_ ?_; focus (simp only [go_sem]; done)) | (refine wK ?_; try simp only [go_sem]) | (refine wE ?_; try simp only [go_sem]) | refine wX ?_)
          exact wRq
  by_cases h6 : k = 6
  · subst h6
    rw [if_neg (by decide), if_neg (by decide), if_neg (by decide), if_neg (by decide), if_neg (by decide), if_neg (by decide), if_pos rfl]
    refine A_body Tryd.func49 rfl (Nat.le_of_ble_eq_true rfl) ?_
    simp only [go_sem, Tryd.ntmps49, Tryd.results49, mkEnv, va, vD, vDs_map, pDs_map]
    repeat (first | refine wS ?_ | refine wB ?_ | (refine wR ?_; simp only [go_sem, va, vD, vDs_map, pDs_map]) | (refine wT ?_ ?_; focus (simp only [go_sem]; done)) | (refine wF ?_ ?_; focus (simp only [go_sem]; done)) | (refine wK ?_; try simp only [go_sem, va, vD, vDs_map, pDs_map]) | (refine wE ?_; try simp only [go_sem, va, vD, vDs_map, pDs_map]) | refine wX ?_)
    refine wOpn 3 4 40 ?_
    simp only [go_sem]
    repeat (first | refine wS ?_ | refine wB ?_ | (refine wR ?_; simp only [go_sem]) | (refine wT ?_ ?_; focus (simp only [go_sem]; done)) | (refine wF ?_ ?_; focus (simp only [go_sem]; done)) | (refine wK ?_; try simp only [go_sem]) | (refine wE ?_; try simp only [go_sem]) | refine wX ?_)
    refine wLm (σ := { p : Nat × List Ws.Fd // p.1 ≤ m.length ∧ partsE ((msgP m).take p.1) = .ok p.2 }) (fun p => ⟨91, ofL [(3, .sl 1 4 0 p.1.2.length), (73, rP m), (74, .d (.v (.int .i64 m.length))), (75, .d (.v (.int .i64 (p.1.1 : Nat))))], [.var [.d (.v (.int .u8 6)), .d (.v (.string s)), .d (.v (.bool b)), .d (.v (.int .i64 n)), .d (.v (.float .f64 f)), .d (.rows 7 96 (l.map vD)), .d (.rows 8 112 (m.map pD))], .vec 4 40 (p.1.2.map fD)]⟩) (fun p => m.length - p.1.1) ⟨(0, []), Nat.zero_le _, rfl⟩ wSb ?_
    rintro ⟨⟨i, fs⟩, hi, hfs⟩ R hR
    simp only at hi hfs
    obtain ⟨hfl, hfn⟩ := partsE_all hfs
    have hll := hP.1
    rw [msgP_map, List.length_take, List.length_map, Nat.min_eq_left hi] at hfl
    simp only [go_sem]
    repeat (first | refine wS ?_ | refine wB ?_ | (refine wR ?_; simp only [go_sem]) | (refine wT ?_ ?_; focus (simp only [go_sem]; done)) | (refine wF ?_ ?_; focus (simp only [go_sem]; done)) | (refine wK ?_; try simp only [go_sem]) | (refine wE ?_; try simp only [go_sem]) | refine wX ?_)
    refine wI (fun h => ?_) (fun h => ?_)
    · have hlt : i < m.length := by simpa using h
      have hlt2 : ((i : Int) < ((m.length : Nat) : Int)) = True := eq_true (by omega)
      have hw := wrap_succ (i := i) (by omega)
      have hx : (m.map pD)[i]? = some (pD m[i]) := by rw [List.getElem?_map, List.getElem?_eq_getElem hlt]; rfl
      have hin : m[i] ∈ m := List.getElem_mem hlt
      have hc := pair_of _ (hP.2 _ hin).2 (hm _ hin (hP.2 _ hin).2)
      have hval : (msgP m)[i]? = some (pairE m[i].1 m[i].2) := by rw [msgP_map, List.getElem?_map, List.getElem?_eq_getElem hlt]; rfl
      obtain ⟨hbad, hgood⟩ := partsE_take hval hfs
      generalize m[i] = x at hx hc hbad hgood
      repeat (first | refine wS ?_ | refine wB ?_ | (refine wR ?_; simp only [go_sem, hx, pD]) | (refine wT ?_ ?_; focus (simp only [go_sem]; done)) | (refine wF ?_ ?_; focus (simp only [go_sem]; done)) | (refine wK ?_; try simp only [go_sem, hx, pD]) | (refine wE ?_; try simp only [go_sem, hx, pD]) | refine wX ?_)
      generalize pairE x.1 x.2 = r at hc hbad hgood
      cases r with
      | error e =>
        refine wP (hc) ?_
        try simp only [go_sem]
        refine wPan ⟨?_, rfl⟩
        rw [hbad e rfl]
        rfl
      | ok t =>
        have hmap : fs.map fD ++ [fD (bF 1 t)] = (fs ++ [bF 1 t]).map fD := by simp
        simp only [go_sem] at hmap
        refine wC (hc) ?_
        simp only [go_sem]
        repeat (first | refine wS ?_ | refine wB ?_ | (refine wR ?_; simp only [go_sem]) | (refine wT ?_ ?_; focus (simp only [go_sem]; done)) | (refine wF ?_ ?_; focus (simp only [go_sem]; done)) | (refine wK ?_; try simp only [go_sem]) | (refine wE ?_; try simp only [go_sem]) | refine wX ?_)
        refine wC (bytes_c 1 ⟨t.toArray⟩) ?_
        simp only [go_sem]
        repeat (first | refine wS ?_ | refine wB ?_ | (refine wR ?_; simp only [go_sem]) | (refine wT ?_ ?_; focus (simp only [go_sem]; done)) | (refine wF ?_ ?_; focus (simp only [go_sem]; done)) | (refine wK ?_; try simp only [go_sem]) | (refine wE ?_; try simp only [go_sem]) | refine wX ?_)
        refine wA (fs.map fD) ([bF 1 t].map fD) ?_ (hbound := by simp; omega)
        simp only [go_sem, hmap]
        repeat (first | refine wS ?_ | refine wB ?_ | (refine wR ?_; simp only [go_sem, hmap]) | (refine wT ?_ ?_; focus (simp only [go_sem]; done)) | (refine wF ?_ ?_; focus (simp only [go_sem]; done)) | (refine wK ?_; try simp only [go_sem, hmap]) | (refine wE ?_; try simp only [go_sem, hmap]) | refine wX ?_)
        simp only [go_sem, hmap, hw]
        exact hR ⟨(i + 1, fs ++ [bF 1 t]), by omega, hgood t rfl⟩ _ (by simp only; omega) wSb
    · obtain rfl : i = m.length := by simp at h; omega
      rw [List.take_of_length_le (by rw [msgP_map, List.length_map]; omega)] at hfs
      rw [hfs]
      repeat (first | refine wS ?_ | refine wB ?_ | (refine wR ?_; simp only [go_sem]) | (refine wT ?_ ?_; focus (simp only [go_sem]; done)) | (refine wF ?_ ?_; focus (simp only [go_sem]; done)) | (refine wK ?_; try simp only [go_sem]) | (refine wE ?_; try simp only [go_sem]) | refine wX ?_)
      refine wFzO 1 ?_
      simp only [go_sem]
      have hw := written_c (W0 := W0) fs hfn
      cases hwr : wrE fs with
      | error e =>
        have hz : boxE 6 (.ok fs) = .error e := by simp only [boxE, hwr]
        rw [hz]
        rw [hwr] at hw
        refine wP (hw) ?_
        try simp only [go_sem]
        exact wPan ⟨rfl, rfl⟩
      | ok t =>
        have hz : boxE 6 (.ok fs) = wrE [bF 6 t] := by simp only [boxE, hwr]
        rw [hz]
        rw [hwr] at hw
        refine wC (hw) ?_
        simp only [go_sem]
        repeat (first | refine wS ?_ | refine wB ?_ | (refine wR ?_; simp only [go_sem]) | (refine wT ?_ ?_; focus (simp only [go_sem]; done)) | (refine wF ?_ ?_; focus (simp only [go_sem]; done)) | (refine wK ?_; try simp only [go_sem]) | (refine wE ?_; try simp only [go_sem]) | refine wX ?_)
        refine wC (bytes_c 6 ⟨t.toArray⟩) ?_
        simp only [go_sem]
        repeat (first | refine wS ?_ | refine wB ?_ | (refine wR ?_; simp only [go_sem]) | (refine wT ?_ ?_; focus (simp only [go_sem]; done)) | (refine wF ?_ ?_; focus (simp only [go_sem]; done)) | (refine wK ?_; try simp only [go_sem]) | (refine wE ?_; try simp only [go_sem]) | refine wX ?_)
        refine wFzO 2 ?_
        simp only [go_sem]
        have hw2 := written_c (W0 := W0) [bF 6 t] (by simp [bF])
        generalize wrE [bF 6 t] = u at hw2 ⊢
        cases u with
        | error e =>
          refine wP (hw2) ?_
          try simp only [go_sem]
          exact wPan ⟨rfl, rfl⟩
        | ok u =>
          refine wC (hw2) ?_
          simp only [go_sem]
          repeat (first | refine wS ?_ | refine wB ?_ | (refine wR ?_; simp only [go_sem]) | (refine wT ?_ ?_; focus (simp only [go_sem]; done)) | (refine wF ?_ ?_; focus (simp only [go_sem]; done)) | (refine wK ?_; try simp only [go_sem]) | (refine wE ?_; try simp only [go_sem]) | refine wX ?_)
          exact wRq
  have e1 := kEq k 1
  have e2 := kEq k 2
  have e3 := kEq k 3
  have e4 := kEq k 4
  have e5 := kEq k 5
  have e6 := kEq k 6
  have e7 := kEq k 7
  simp only [show ((1 : Nat) : Int) = 1 from rfl, show ((2 : Nat) : Int) = 2 from rfl, show ((3 : Nat) : Int) = 3 from rfl, show ((4 : Nat) : Int) = 4 from rfl, show ((5 : Nat) : Int) = 5 from rfl, show ((6 : Nat) : Int) = 6 from rfl, show ((7 : Nat) : Int) = 7 from rfl, h1, h2, h3, h4, h5, h6, h7, decide_false] at e1 e2 e3 e4 e5 e6 e7
  simp only [h1, h2, h3, h4, h5, h6, h7, if_false]
  refine A_body Tryd.func49 rfl (Nat.le_of_ble_eq_true rfl) ?_
  simp only [go_sem, Tryd.ntmps49, Tryd.results49, mkEnv, va, vD, vDs_map, pDs_map, e1, e2, e3, e4, e5, e6, e7]
  repeat (first | refine wS ?_ | refine wB ?_ | (refine wR ?_; simp only [go_sem, va, vD, vDs_map, pDs_map, e1, e2, e3, e4, e5, e6, e7]) | (refine wT ?_ ?_; focus (simp only [go_sem]; done)) | (refine wF ?_ ?_; focus (simp only [go_sem]; done)) | (refine wK ?_; try simp only [go_sem, va, vD, vDs_map, pDs_map, e1, e2, e3, e4, e5, e6, e7]) | (refine wE ?_; try simp only [go_sem, va, vD, vDs_map, pDs_map, e1, e2, e3, e4, e5, e6, e7]) | refine wX ?_)
  exact wRq
end Go.Proofs.YtbgfiflnfndckaaDoor.Lift
end
section
/- The lift: All, Last of fields; Write, WritePair of values. No conditions but what memory holds, and that utf8's tables lie as they are laid. -/
set_option linter.unusedVariables false
set_option linter.unusedSimpArgs false
set_option maxHeartbeats 4000000
set_option maxRecDepth 100000
namespace Go.Proofs.YtbgfiflnfndckaaDoor.Lift
open Go Go.RowKit

def ofF (num : Int) (w : Nat) (f : Ws.Fd) : Bool := decide (f.k = num) && decide (f.w = w)
theorem filter_take {α : Type} {p : α → Bool} {l : List α} {i : Nat} {x : α} (h : l[i]? = some x) : (l.take (i + 1)).filter p = (l.take i).filter p ++ (if p x then [x] else []) := by
  rw [List.take_add_one, h, List.filter_append]
  cases hp : p x <;> simp [hp]
theorem iEq (a b : Int) : (a == b) = decide (a = b) := by
  by_cases h : a = b
  · subst h; simp
  · rw [decide_eq_false h, beq_eq_false_iff_ne]; exact h
theorem all_c {W0 : World} (l : List Ws.Fd) (num : Int) (w : Nat) (hl : l.length * 40 ≤ 140737488355328) : APure Tryd.prog W0 93 [rF l, .d (.v (.int .i64 num)), .d (.v (.int .u8 w))] (· = .ret (rF (l.filter (ofF num w)))) := by
  refine A_body Tryd.func93 rfl (Nat.le_of_ble_eq_true rfl) ?_
  simp only [go_sem, Tryd.ntmps93, Tryd.results93, mkEnv, rF]
  repeat (first | refine wS ?_ | refine wB ?_ | (refine wR ?_; simp only [go_sem, rF]) | (refine wT ?_ ?_; focus (simp only [go_sem]; done)) | (refine wF ?_ ?_; focus (simp only [go_sem]; done)) | (refine wK ?_; try simp only [go_sem, rF]) | (refine wE ?_; try simp only [go_sem, rF]) | refine wX ?_)
  refine wOpn 7 4 40 ?_
  simp only [go_sem]
  repeat (first | refine wS ?_ | refine wB ?_ | (refine wR ?_; simp only [go_sem]) | (refine wT ?_ ?_; focus (simp only [go_sem]; done)) | (refine wF ?_ ?_; focus (simp only [go_sem]; done)) | (refine wK ?_; try simp only [go_sem]) | (refine wE ?_; try simp only [go_sem]) | refine wX ?_)
  refine wL (fun i => ⟨32, ofL [(1, .d (.v (.int .i64 num))), (2, .d (.v (.int .u8 w))), (7, .sl 0 4 0 ((l.take i).filter (ofF num w)).length), (10, rF l), (11, .d (.v (.int .i64 l.length))), (12, .d (.v (.int .i64 i)))], [.vec 4 40 (((l.take i).filter (ofF num w)).map fD)]⟩) (l.length) (fun i => True) wSb (trivial) ?_
  intro i hi hinv R hR
  simp only [go_sem]
  repeat (first | refine wS ?_ | refine wB ?_ | (refine wR ?_; simp only [go_sem]) | (refine wT ?_ ?_; focus (simp only [go_sem]; done)) | (refine wF ?_ ?_; focus (simp only [go_sem]; done)) | (refine wK ?_; try simp only [go_sem]) | (refine wE ?_; try simp only [go_sem]) | refine wX ?_)
  refine wI (fun h => ?_) (fun h => ?_)
  · have hlt : i < l.length := by simpa using h
    have hlt2 : ((i : Int) < ((l.length : Nat) : Int)) = True := eq_true (by omega)
    have hw := wrap_succ (i := i) (by omega)
    have hx : (l.map fD)[i]? = some (fD l[i]) := by rw [List.getElem?_map, List.getElem?_eq_getElem hlt]; rfl
    have hft := filter_take (p := ofF num w) (List.getElem?_eq_getElem hlt)
    have hfl : ((l.take i).filter (ofF num w)).length ≤ i := Nat.le_trans (List.length_filter_le ..) (by simp; omega)
    generalize l[i] = f at hx hft
    obtain ⟨k, x, n, s⟩ := f
    have e1 := iEq k num
    have e2 : ((x : Int) == (w : Int)) = decide (x = w) := nEq x w
    obtain ⟨c, hc⟩ : ∃ c, ofF num w ⟨k, x, n, s⟩ = c := ⟨_, rfl⟩
    have hc2 : (decide (k = num) && decide (x = w)) = c := hc
    repeat (first | refine wS ?_ | refine wB ?_ | (refine wR ?_; simp only [go_sem, hx, e1, e2, hc2]) | (refine wT ?_ ?_; focus (simp only [go_sem]; done)) | (refine wF ?_ ?_; focus (simp only [go_sem]; done)) | (refine wK ?_; try simp only [go_sem, hx, e1, e2, hc2]) | (refine wE ?_; try simp only [go_sem, hx, e1, e2, hc2]) | refine wX ?_)
    cases c with
    | true =>
      rw [if_pos hc] at hft
      have hmap : ((l.take i).filter (ofF num w)).map fD ++ [fD ⟨k, x, n, s⟩] = ((l.take (i + 1)).filter (ofF num w)).map fD := by rw [hft]; simp
      simp only [go_sem] at hmap
      repeat (first | refine wS ?_ | refine wB ?_ | (refine wR ?_; simp only [go_sem]) | (refine wT ?_ ?_; focus (simp only [go_sem]; done)) | (refine wF ?_ ?_; focus (simp only [go_sem]; done)) | (refine wK ?_; try simp only [go_sem]) | (refine wE ?_; try simp only [go_sem]) | refine wX ?_)
      refine wA (((l.take i).filter (ofF num w)).map fD) ([fD ⟨k, x, n, s⟩]) ?_ (hbound := by simp; omega)
      simp only [go_sem, hmap]
      repeat (first | refine wS ?_ | refine wB ?_ | (refine wR ?_; simp only [go_sem, hmap]) | (refine wT ?_ ?_; focus (simp only [go_sem]; done)) | (refine wF ?_ ?_; focus (simp only [go_sem]; done)) | (refine wK ?_; try simp only [go_sem, hmap]) | (refine wE ?_; try simp only [go_sem, hmap]) | refine wX ?_)
      simp only [go_sem, hmap, hw]
      exact hR hlt (trivial) _ wSb
    | false =>
      rw [if_neg (by simp [hc]), List.append_nil] at hft
      repeat (first | refine wS ?_ | refine wB ?_ | (refine wR ?_; simp only [go_sem, hw]) | (refine wT ?_ ?_; focus (simp only [go_sem]; done)) | (refine wF ?_ ?_; focus (simp only [go_sem]; done)) | (refine wK ?_; try simp only [go_sem, hw]) | (refine wE ?_; try simp only [go_sem, hw]) | refine wX ?_)
      rw [← hft]
      exact hR hlt (trivial) _ wSb
  · obtain rfl : i = l.length := by simp at h; omega
    refine wFz 0 ?_
    simp only [go_sem, List.take_length]
    repeat (first | refine wS ?_ | refine wB ?_ | (refine wR ?_; simp only [go_sem, List.take_length]) | (refine wT ?_ ?_; focus (simp only [go_sem]; done)) | (refine wF ?_ ?_; focus (simp only [go_sem]; done)) | (refine wK ?_; try simp only [go_sem, List.take_length]) | (refine wE ?_; try simp only [go_sem, List.take_length]) | refine wX ?_)
    exact wRq
def lastF (l : List Ws.Fd) (num : Int) (w : Nat) : Option Ws.Fd := (l.filter (ofF num w)).getLast?
theorem last_c {W0 : World} (l : List Ws.Fd) (num : Int) (w : Nat) (hl : l.length * 40 ≤ 140737488355328) :
    APure Tryd.prog W0 94 [rF l, .d (.v (.int .i64 num)), .d (.v (.int .u8 w))] (· = .ret (.tup [fa ((lastF l num w).getD ⟨0, 0, 0, []⟩), .d (.v (.bool (lastF l num w).isSome))])) := by
  have hall := all_c (W0 := W0) l num w hl
  unfold lastF
  have hfl : (l.filter (ofF num w)).length ≤ l.length := List.length_filter_le ..
  generalize l.filter (ofF num w) = fs at hall hfl ⊢
  cases hn : fs.getLast? with
  | none =>
    have : fs = [] := by simpa using hn
    subst this
    refine A_body Tryd.func94 rfl (Nat.le_of_ble_eq_true rfl) ?_
    simp only [go_sem, Tryd.ntmps94, Tryd.results94, mkEnv]
    repeat (first | refine wS ?_ | refine wB ?_ | (refine wR ?_; simp only [go_sem]) | (refine wT ?_ ?_; focus (simp only [go_sem]; done)) | (refine wF ?_ ?_; focus (simp only [go_sem]; done)) | (refine wK ?_; try simp only [go_sem]) | (refine wE ?_; try simp only [go_sem]) | refine wX ?_)
    refine wC (hall) ?_
    simp only [go_sem]
    repeat (first | refine wS ?_ | refine wB ?_ | (refine wR ?_; simp only [go_sem]) | (refine wT ?_ ?_; focus (simp only [go_sem]; done)) | (refine wF ?_ ?_; focus (simp only [go_sem]; done)) | (refine wK ?_; try simp only [go_sem]) | (refine wE ?_; try simp only [go_sem]) | refine wX ?_)
    exact wRq
  | some f =>
    have h0 : fs ≠ [] := by rintro rfl; simp at hn
    have hlen : 0 < fs.length := List.length_pos_iff.2 h0
    have hz : ((fs.length : Int) == 0) = false := by rw [beq_eq_false_iff_ne]; omega
    have hw : IntKind.i64.wrap ((fs.length : Int) - 1) = ((fs.length - 1 : Nat) : Int) := by
      rw [show (fs.length : Int) - 1 = ((fs.length - 1 : Nat) : Int) by omega]
      exact wrap_i64n (by omega)
    have hx : (fs.map fD)[fs.length - 1]? = some (fD f) := by
      rw [List.getElem?_map, ← List.getLast?_eq_getElem?, hn]
      rfl
    refine A_body Tryd.func94 rfl (Nat.le_of_ble_eq_true rfl) ?_
    simp only [go_sem, Tryd.ntmps94, Tryd.results94, mkEnv]
    repeat (first | refine wS ?_ | refine wB ?_ | (refine wR ?_; simp only [go_sem]) | (refine wT ?_ ?_; focus (simp only [go_sem]; done)) | (refine wF ?_ ?_; focus (simp only [go_sem]; done)) | (refine wK ?_; try simp only [go_sem]) | (refine wE ?_; try simp only [go_sem]) | refine wX ?_)
    refine wC (hall) ?_
    simp only [go_sem, hz, hw, hx]
    repeat (first | refine wS ?_ | refine wB ?_ | (refine wR ?_; simp only [go_sem, hz, hw, hx]) | (refine wT ?_ ?_; focus (simp only [go_sem]; done)) | (refine wF ?_ ?_; focus (simp only [go_sem]; done)) | (refine wK ?_; try simp only [go_sem, hz, hw, hx]) | (refine wE ?_; try simp only [go_sem, hz, hw, hx]) | refine wX ?_)
    exact wRq
end Go.Proofs.YtbgfiflnfndckaaDoor.Lift
end
section
/- The lift: Write, WritePair of values. No conditions but what memory holds, and that utf8's tables lie as they are laid. -/
set_option linter.unusedVariables false
set_option linter.unusedSimpArgs false
set_option maxHeartbeats 4000000
set_option maxRecDepth 100000
namespace Go.Proofs.YtbgfiflnfndckaaDoor.Lift
open Go Go.RowKit

def resU : BE → Res
  | .ok _ => .ret (.tup [])
  | .error c => .panic (err c)
def codeE : BE → Nat
  | .ok _ => 0
  | .error c => c
def outE : BE → List UInt8
  | .ok t => t
  | .error _ => []
theorem caught_res {W0 : World} {g : FuncId} {caps : List AV} {L L2 : List Box} {r : BE} (hg : callable Tryd.prog g = true) (h : ACalls Tryd.prog W0 g caps L (fun x L' => x = resU r ∧ L' = L2)) :
    ACalls Tryd.prog W0 46 [.fn g caps] L (fun x L' => x = .ret (.d (.v (.int .i64 (codeE r : Nat)))) ∧ L' = L2) :=
  Val.A_caught hg h (by
    rintro x L' ⟨rfl, rfl⟩
    cases r with
    | ok t => exact .inl ⟨rfl, rfl, rfl⟩
    | error c => exact .inr ⟨c, rfl, rfl, rfl⟩)
def vwr (x : V) : BE := if chk x 0 = 0 then msg x else .error (chk x 0)
theorem write1_c {W0 : World} (hT : Tabs W0) (x : V) (hx : okV x) : ACalls Tryd.prog W0 47 [.ptr 0 0, .ptr 1 0] [.var ((vD x).map .d), .var [.d (.v (.string ⟨#[]⟩))]] (fun r L' => r = resU (vwr x) ∧ L' = [.var ((vD x).map .d), .var [.d (.v (.string ⟨(outE (vwr x)).toArray⟩))]]) := by
  have hc := check_c hT x hx 0 (by omega)
  have hm := message_c (W0 := W0) x hx
  unfold vwr
  refine A_body Tryd.func47 rfl (Nat.le_of_ble_eq_true rfl) ?_
  simp only [go_sem, Tryd.ntmps47, Tryd.results47, mkEnv]
  repeat (first | refine wS ?_ | refine wB ?_ | (refine wR ?_; simp only [go_sem]) | (refine wT ?_ ?_; focus (simp only [go_sem]; done)) | (refine wF ?_ ?_; focus (simp only [go_sem]; done)) | (refine wK ?_; try simp only [go_sem]) | (refine wE ?_; try simp only [go_sem]) | refine wX ?_)
  by_cases hc0 : chk x 0 = 0
  · rw [hc0, ends0] at hc
    rw [if_pos hc0]
    refine wC (hc) ?_
    simp only [go_sem]
    repeat (first | refine wS ?_ | refine wB ?_ | (refine wR ?_; simp only [go_sem]) | (refine wT ?_ ?_; focus (simp only [go_sem]; done)) | (refine wF ?_ ?_; focus (simp only [go_sem]; done)) | (refine wK ?_; try simp only [go_sem]) | (refine wE ?_; try simp only [go_sem]) | refine wX ?_)
    cases hr : msg x with
    | error e =>
      rw [hr] at hm
      refine wP (hm) ?_
      try simp only [go_sem]
      exact wPanB [.var ((vD x).map .d), .var [.d (.v (.string ⟨#[]⟩))]] ⟨rfl, rfl⟩
    | ok t =>
      rw [hr] at hm
      refine wC (hm) ?_
      simp only [go_sem]
      repeat (first | refine wS ?_ | refine wB ?_ | (refine wR ?_; simp only [go_sem]) | (refine wT ?_ ?_; focus (simp only [go_sem]; done)) | (refine wF ?_ ?_; focus (simp only [go_sem]; done)) | (refine wK ?_; try simp only [go_sem]) | (refine wE ?_; try simp only [go_sem]) | refine wX ?_)
      exact wRetBN [.var ((vD x).map .d), .var [.d (.v (.string ⟨t.toArray⟩))]] ⟨rfl, rfl⟩
  · rw [ends1 hc0] at hc
    rw [if_neg hc0]
    refine wP (hc) ?_
    try simp only [go_sem]
    exact wPanB [.var ((vD x).map .d), .var [.d (.v (.string ⟨#[]⟩))]] ⟨rfl, rfl⟩
theorem Write_c {W0 : World} (hT : Tabs W0) (x : V) (hx : okV x) : APure Tryd.prog W0 17 [va x] (· = .ret (.tup [.d (.v (.string ⟨(outE (vwr x)).toArray⟩)), .d (.v (.int .i64 (codeE (vwr x) : Nat)))])) := by
  have hc := caught_res (by simp only [go_sem]) (write1_c hT x hx)
  generalize vwr x = r at hc ⊢
  obtain ⟨k, s, b, n, f, l, m⟩ := x
  simp only [vD, vDs_map, pDs_map, List.map_cons, List.map_nil] at hc
  refine A_body Tryd.func17 rfl (Nat.le_of_ble_eq_true rfl) ?_
  simp only [go_sem, Tryd.ntmps17, Tryd.results17, mkEnv, vD, vDs_map, pDs_map]
  repeat (first | refine wS ?_ | refine wB ?_ | (refine wR ?_; simp only [go_sem, vD, vDs_map, pDs_map]) | (refine wT ?_ ?_; focus (simp only [go_sem]; done)) | (refine wF ?_ ?_; focus (simp only [go_sem]; done)) | (refine wK ?_; try simp only [go_sem, vD, vDs_map, pDs_map]) | (refine wE ?_; try simp only [go_sem, vD, vDs_map, pDs_map]) | refine wX ?_)
  refine wCB [0, 1] (hc) ?_
  simp only [go_sem]
  repeat (first | refine wS ?_ | refine wB ?_ | (refine wR ?_; simp only [go_sem]) | (refine wT ?_ ?_; focus (simp only [go_sem]; done)) | (refine wF ?_ ?_; focus (simp only [go_sem]; done)) | (refine wK ?_; try simp only [go_sem]) | (refine wE ?_; try simp only [go_sem]) | refine wX ?_)
  exact wRq
end Go.Proofs.YtbgfiflnfndckaaDoor.Lift
end
section
/- The lift: value's first question: the answers that the document gives. No conditions but that utf8's tables lie as they are laid. -/
set_option linter.unusedVariables false
set_option linter.unusedSimpArgs false
set_option maxHeartbeats 4000000
set_option maxRecDepth 100000
namespace Go.Proofs.YtbgfiflnfndckaaDoor.Lift
open Go Go.RowKit

/-- A value without what its lists have. -/
def scV : V → Vs.Sc
  | .mk k s b n f l m => ⟨k, s, b, n, f⟩
theorem va_inv {M : Nat → Prop} {m : Nat → Pl} {w : World} {x : V} {u : Value} (h : RA M m w (va x) u) : ∃ a b, u = .agg (_root_.Go.Proofs.YtbgfiflnfndckaaDoor.cellsV (scV x) a b) := by
  obtain ⟨k, s, b, n, f, l, p⟩ := x
  simp only [va, vD, List.map_cons, List.map_nil, RA] at h
  obtain ⟨us, rfl, h⟩ := h
  obtain ⟨us⟩ := us
  match us, h with
  | [u0, u1, u2, u3, u4, u5, u6], h =>
    simp only [RAs] at h
    refine ⟨u5, u6, ?_⟩
    rw [h.1.v_inv.1, h.2.1.v_inv.1, h.2.2.1.v_inv.1, h.2.2.2.1.v_inv.1, h.2.2.2.2.1.v_inv.1]
    rfl
theorem compare_c {W0 : World} (x y : V) (hx : -9223372036854775808 ≤ (scV x).n ∧ (scV x).n ≤ 9223372036854775807) (hy : -9223372036854775808 ≤ (scV y).n ∧ (scV y).n ≤ 9223372036854775807) :
    APure Tryd.prog W0 13 [va x, va y] (· = .ret (.tup [.d (.v (.int .i64 (Vs.compare (scV x) (scV y)).1)), .d (.v (.bool (Vs.compare (scV x) (scV y)).2))])) := by
  refine pure_oldR fun M m w us _ _ ha => ?_
  obtain ⟨us⟩ := us
  match us, ha with
  | [u0, u1], ha =>
    simp only [RAs, and_true] at ha
    obtain ⟨a, b, rfl⟩ := va_inv ha.1
    obtain ⟨c, d, rfl⟩ := va_inv ha.2
    refine (compare_calls (scV x) (scV y) a b c d w hx.1 hx.2 hy.1 hy.2).mono ?_
    rintro e w' ⟨rfl, hb⟩
    refine ⟨_, rfl, ?_, hb⟩
    simp only [RA, RAs]
    exact ⟨_, rfl, .v _ rfl, .v _ rfl, trivial⟩
def wholeV (n : Int) : V := .mk 3 ByteArray.empty false n 0 [] []
def partV (f : Nat) : V := .mk 4 ByteArray.empty false 0 f [] []
theorem whole_c {W0 : World} (n : Int) : APure Tryd.prog W0 38 [.d (.v (.int .i64 n))] (· = .ret (va (wholeV n))) := by
  refine A_body Tryd.func38 rfl (Nat.le_of_ble_eq_true rfl) ?_
  simp only [go_sem, Tryd.ntmps38, Tryd.results38, mkEnv]
  repeat (first | refine wS ?_ | refine wB ?_ | (refine wR ?_; simp only [go_sem]) | (refine wT ?_ ?_; focus (simp only [go_sem]; done)) | (refine wF ?_ ?_; focus (simp only [go_sem]; done)) | (refine wK ?_; try simp only [go_sem]) | (refine wE ?_; try simp only [go_sem]) | refine wX ?_)
  exact wRet ⟨rfl, rfl⟩ (hx := by simp only [resV, rvs, rv1, go_sem] <;> rfl) (hle := Le_va Le_e5 Le_e6)
theorem part_c {W0 : World} (f : Nat) : APure Tryd.prog W0 15 [.d (.v (.float .f64 f))] (· = .ret (va (partV f))) := by
  refine A_body Tryd.func15 rfl (Nat.le_of_ble_eq_true rfl) ?_
  simp only [go_sem, Tryd.ntmps15, Tryd.results15, mkEnv]
  repeat (first | refine wS ?_ | refine wB ?_ | (refine wR ?_; simp only [go_sem]) | (refine wT ?_ ?_; focus (simp only [go_sem]; done)) | (refine wF ?_ ?_; focus (simp only [go_sem]; done)) | (refine wK ?_; try simp only [go_sem]) | (refine wE ?_; try simp only [go_sem]) | refine wX ?_)
  exact wRet ⟨rfl, rfl⟩ (hx := by simp only [resV, rvs, rv1, go_sem] <;> rfl) (hle := Le_va Le_e5 Le_e6)
theorem nan_c {W0 : World} : APure Tryd.prog W0 40 [] (· = .ret (.d (.v (.float .f64 9221120237041090561)))) := by
  refine A_body Tryd.func40 rfl (Nat.le_of_ble_eq_true rfl) ?_
  simp only [go_sem, Tryd.ntmps40, Tryd.results40, mkEnv]
  repeat (first | refine wS ?_ | refine wB ?_ | (refine wR ?_; simp only [go_sem]) | (refine wT ?_ ?_; focus (simp only [go_sem]; done)) | (refine wF ?_ ?_; focus (simp only [go_sem]; done)) | (refine wK ?_; try simp only [go_sem]) | (refine wE ?_; try simp only [go_sem]) | refine wX ?_)
  exact wRq
set_option maxRecDepth 100000 in
theorem copysign_calls (w : World) : Calls Tryd.prog 39 #[.float .f64 0, .float .f64 13830554455654793216] w fun e w' => e = .returned (.float .f64 9223372036854775808) ∧ w' = w := by
  have h0 : ∀ w : World, (callFunc 59 #[.float .f64 0]).run Tryd.prog w = .ok (.value (.int .u64 0)) w := run_f64bits 0
  have h1 : ∀ w : World, (callFunc 59 #[.float .f64 13830554455654793216]).run Tryd.prog w = .ok (.value (.int .u64 13830554455654793216)) w := run_f64bits 13830554455654793216
  have h2 : ∀ w : World, (callFunc 16 #[.int .u64 9223372036854775808]).run Tryd.prog w = .ok (.value (.float .f64 9223372036854775808)) w := run_f64of 9223372036854775808
  have e1 : bits .andNot .u64 0 9223372036854775808 = 0 := by decide +kernel
  have e2 : bits .and .u64 13830554455654793216 9223372036854775808 = 9223372036854775808 := by decide +kernel
  have e3 : bits .or .u64 0 9223372036854775808 = 9223372036854775808 := by decide +kernel
  go_enter Tryd.func39, Tryd.ntmps39
  go_wp2
  go_ret
  exact ⟨rfl, rfl⟩
theorem copysign_c {W0 : World} : APure Tryd.prog W0 39 [.d (.v (.float .f64 0)), .d (.v (.float .f64 13830554455654793216))] (· = .ret (.d (.v (.float .f64 9223372036854775808)))) := by
  refine pure_old rfl fun M m w us _ ha => ?_
  obtain ⟨us⟩ := us
  match us, ha with
  | [u0, u1], ha =>
    simp only [RAs, and_true] at ha
    rw [ha.1.v_inv.1, ha.2.v_inv.1]
    refine (copysign_calls w).mono ?_
    rintro e w' ⟨rfl, rfl⟩
    exact ⟨rfl, Below.refl _ _⟩
theorem lives_c {W0 : World} (hT : Tabs W0) : APure Tryd.prog W0 12 [] (· = .ret (.d (.v (.bool true)))) := by
  have c1 := compare_c (W0 := W0) (wholeV 9007199254740993) (partV 4845873199050653696) (by decide) (by decide)
  rw [show Vs.compare (scV (wholeV 9007199254740993)) (scV (partV 4845873199050653696)) = (1, true) by decide +kernel] at c1
  have c2 := compare_c (W0 := W0) (partV 0) (partV 9223372036854775808) (by decide) (by decide)
  rw [show Vs.compare (scV (partV 0)) (scV (partV 9223372036854775808)) = (0, true) by decide +kernel] at c2
  have c3 := compare_c (W0 := W0) (partV 9221120237041090561) (partV 9221120237041090561) (by decide) (by decide)
  rw [show Vs.compare (scV (partV 9221120237041090561)) (scV (partV 9221120237041090561)) = (0, false) by decide +kernel] at c3
  have hw := Write_c (W0 := W0) hT (wholeV (-1)) (.mk _ _ _ _ _ _ _ (by decide) (by decide) (by decide) (by decide) (by simp) (by simp) (by simp) (by simp) (by simp))
  have e : vwr (wholeV (-1)) = .ok [24, 255, 255, 255, 255, 255, 255, 255, 255, 255, 1] := by kernel_rfl
  rw [e] at hw
  simp only [outE, codeE] at hw
  have hh := hash_c (W0 := W0) ⟨#[97]⟩ (by decide)
  rw [show hashI (⟨#[97]⟩ : ByteArray).data.toList = 12638187200555641996 by decide +kernel] at hh
  refine A_body Tryd.func12 rfl (Nat.le_of_ble_eq_true rfl) ?_
  simp only [go_sem, Tryd.ntmps12, Tryd.results12, mkEnv]
  repeat (first | refine wS ?_ | refine wB ?_ | (refine wR ?_; simp only [go_sem]) | (refine wT ?_ ?_; focus (simp only [go_sem]; done)) | (refine wF ?_ ?_; focus (simp only [go_sem]; done)) | (refine wK ?_; try simp only [go_sem]) | (refine wE ?_; try simp only [go_sem]) | refine wX ?_)
  refine wC (whole_c 9007199254740993) ?_
  simp only [go_sem]
  repeat (first | refine wS ?_ | refine wB ?_ | (refine wR ?_; simp only [go_sem]) | (refine wT ?_ ?_; focus (simp only [go_sem]; done)) | (refine wF ?_ ?_; focus (simp only [go_sem]; done)) | (refine wK ?_; try simp only [go_sem]) | (refine wE ?_; try simp only [go_sem]) | refine wX ?_)
  refine wC (part_c 4845873199050653696) ?_
  simp only [go_sem]
  repeat (first | refine wS ?_ | refine wB ?_ | (refine wR ?_; simp only [go_sem]) | (refine wT ?_ ?_; focus (simp only [go_sem]; done)) | (refine wF ?_ ?_; focus (simp only [go_sem]; done)) | (refine wK ?_; try simp only [go_sem]) | (refine wE ?_; try simp only [go_sem]) | refine wX ?_)
  refine wC (c1) ?_
  simp only [go_sem]
  repeat (first | refine wS ?_ | refine wB ?_ | (refine wR ?_; simp only [go_sem]) | (refine wT ?_ ?_; focus (simp only [go_sem]; done)) | (refine wF ?_ ?_; focus (simp only [go_sem]; done)) | (refine wK ?_; try simp only [go_sem]) | (refine wE ?_; try simp only [go_sem]) | refine wX ?_)
  refine wC (part_c 0) ?_
  simp only [go_sem]
  repeat (first | refine wS ?_ | refine wB ?_ | (refine wR ?_; simp only [go_sem]) | (refine wT ?_ ?_; focus (simp only [go_sem]; done)) | (refine wF ?_ ?_; focus (simp only [go_sem]; done)) | (refine wK ?_; try simp only [go_sem]) | (refine wE ?_; try simp only [go_sem]) | refine wX ?_)
  refine wC (copysign_c) ?_
  simp only [go_sem]
  repeat (first | refine wS ?_ | refine wB ?_ | (refine wR ?_; simp only [go_sem]) | (refine wT ?_ ?_; focus (simp only [go_sem]; done)) | (refine wF ?_ ?_; focus (simp only [go_sem]; done)) | (refine wK ?_; try simp only [go_sem]) | (refine wE ?_; try simp only [go_sem]) | refine wX ?_)
  refine wC (part_c 9223372036854775808) ?_
  simp only [go_sem]
  repeat (first | refine wS ?_ | refine wB ?_ | (refine wR ?_; simp only [go_sem]) | (refine wT ?_ ?_; focus (simp only [go_sem]; done)) | (refine wF ?_ ?_; focus (simp only [go_sem]; done)) | (refine wK ?_; try simp only [go_sem]) | (refine wE ?_; try simp only [go_sem]) | refine wX ?_)
  refine wC (c2) ?_
  simp only [go_sem]
  repeat (first | refine wS ?_ | refine wB ?_ | (refine wR ?_; simp only [go_sem]) | (refine wT ?_ ?_; focus (simp only [go_sem]; done)) | (refine wF ?_ ?_; focus (simp only [go_sem]; done)) | (refine wK ?_; try simp only [go_sem]) | (refine wE ?_; try simp only [go_sem]) | refine wX ?_)
  refine wC (nan_c) ?_
  simp only [go_sem]
  repeat (first | refine wS ?_ | refine wB ?_ | (refine wR ?_; simp only [go_sem]) | (refine wT ?_ ?_; focus (simp only [go_sem]; done)) | (refine wF ?_ ?_; focus (simp only [go_sem]; done)) | (refine wK ?_; try simp only [go_sem]) | (refine wE ?_; try simp only [go_sem]) | refine wX ?_)
  refine wC (part_c 9221120237041090561) ?_
  simp only [go_sem]
  repeat (first | refine wS ?_ | refine wB ?_ | (refine wR ?_; simp only [go_sem]) | (refine wT ?_ ?_; focus (simp only [go_sem]; done)) | (refine wF ?_ ?_; focus (simp only [go_sem]; done)) | (refine wK ?_; try simp only [go_sem]) | (refine wE ?_; try simp only [go_sem]) | refine wX ?_)
  refine wC (nan_c) ?_
  simp only [go_sem]
  repeat (first | refine wS ?_ | refine wB ?_ | (refine wR ?_; simp only [go_sem]) | (refine wT ?_ ?_; focus (simp only [go_sem]; done)) | (refine wF ?_ ?_; focus (simp only [go_sem]; done)) | (refine wK ?_; try simp only [go_sem]) | (refine wE ?_; try simp only [go_sem]) | refine wX ?_)
  refine wC (part_c 9221120237041090561) ?_
  simp only [go_sem]
  repeat (first | refine wS ?_ | refine wB ?_ | (refine wR ?_; simp only [go_sem]) | (refine wT ?_ ?_; focus (simp only [go_sem]; done)) | (refine wF ?_ ?_; focus (simp only [go_sem]; done)) | (refine wK ?_; try simp only [go_sem]) | (refine wE ?_; try simp only [go_sem]) | refine wX ?_)
  refine wC (c3) ?_
  simp only [go_sem]
  repeat (first | refine wS ?_ | refine wB ?_ | (refine wR ?_; simp only [go_sem]) | (refine wT ?_ ?_; focus (simp only [go_sem]; done)) | (refine wF ?_ ?_; focus (simp only [go_sem]; done)) | (refine wK ?_; try simp only [go_sem]) | (refine wE ?_; try simp only [go_sem]) | refine wX ?_)
  refine wC (whole_c (-1)) ?_
  simp only [go_sem]
  repeat (first | refine wS ?_ | refine wB ?_ | (refine wR ?_; simp only [go_sem]) | (refine wT ?_ ?_; focus (simp only [go_sem]; done)) | (refine wF ?_ ?_; focus (simp only [go_sem]; done)) | (refine wK ?_; try simp only [go_sem]) | (refine wE ?_; try simp only [go_sem]) | refine wX ?_)
  refine wC (hw) ?_
  simp only [go_sem]
  repeat (first | refine wS ?_ | refine wB ?_ | (refine wR ?_; simp only [go_sem]) | (refine wT ?_ ?_; focus (simp only [go_sem]; done)) | (refine wF ?_ ?_; focus (simp only [go_sem]; done)) | (refine wK ?_; try simp only [go_sem]) | (refine wE ?_; try simp only [go_sem]) | refine wX ?_)
  (repeat first | refine wS ?_ | refine wB ?_)
  refine wR ?_
  simp (maxSteps := 2000000) only [go_sem]
  refine wCGx (fun _ => hh) ?_
  simp (maxSteps := 2000000) only [go_sem]
  repeat (first | refine wS ?_ | refine wB ?_ | (refine wR ?_; simp only [go_sem]) | (refine wT ?_ ?_; focus (simp only [go_sem]; done)) | (refine wF ?_ ?_; focus (simp only [go_sem]; done)) | (refine wK ?_; try simp only [go_sem]) | (refine wE ?_; try simp only [go_sem]) | refine wX ?_)
  exact wRq
end Go.Proofs.YtbgfiflnfndckaaDoor.Lift
end
section
/- The lift: which field of a message is a value. No conditions but what may be a field. -/
set_option linter.unusedVariables false
set_option linter.unusedSimpArgs false
set_option maxHeartbeats 4000000
set_option maxRecDepth 100000
namespace Go.Proofs.YtbgfiflnfndckaaDoor.Lift
open Go Go.RowKit

def place (k : Int) (w : Nat) : Value := .agg #[.int .i64 k, .int .u8 w]
def kindOf (k : Int) (w : Nat) : Nat := if k = 1 ∧ w = 2 then 1 else if k = 2 ∧ w = 0 then 2 else if k = 3 ∧ w = 0 then 3 else if k = 4 ∧ w = 1 then 4 else if k = 5 ∧ w = 2 then 5 else if k = 6 ∧ w = 2 then 6 else if k = 7 ∧ w = 2 then 7 else 0
def kinds7 : List (Value × Value) := [(place 1 2, .int .u8 1), (place 2 0, .int .u8 2), (place 3 0, .int .u8 3), (place 4 1, .int .u8 4), (place 5 2, .int .u8 5), (place 6 2, .int .u8 6), (place 7 2, .int .u8 7)]
theorem keq_place (k k' : Int) (w w' : Nat) : keq (place k w) (place k' w') = (decide (k = k') && decide (w = w')) := by
  simp only [place, keq, skqs, skq, Bool.and_true]
  rw [iEq, nEq w w']
  rfl
theorem kinds7_get (k : Int) (w : Nat) : (mget kinds7 (place k w)).getD (.int .u8 0) = .int .u8 (kindOf k w : Nat) := by
  simp only [kinds7, mget, keq_place, kindOf, Bool.and_eq_true, decide_eq_true_eq]
  repeat' split
  all_goals rfl
def okF (f : Ws.Fd) : Prop := -9223372036854775808 ≤ f.k ∧ f.k ≤ 9223372036854775807 ∧ f.w < 256
theorem keyB_place (k : Int) (w : Nat) (h1 : -9223372036854775808 ≤ k) (h2 : k ≤ 9223372036854775807) (h3 : w < 256) : keyB Tryd.prog 121 (place k w) = true := by
  have hu : Tryd.prog.underlying 121 = some (.map 120 22) := by kernel_rfl
  have hk : kdT Tryd.prog 120 = true := by kernel_rfl
  have hkt : Tryd.prog.keyType 120 = true := by kernel_rfl
  have hsz : Tryd.prog.types.size = 153 + 1 + 1 := by kernel_rfl
  have hu2 := Tryd.underlying120
  have hu3 := Tryd.underlying3
  have hu4 := Tryd.underlying97
  have hc2 : Tryd.prog.cellsOf 120 = 2 := by kernel_rfl
  have hc3 : Tryd.prog.cellsOf 3 = 1 := by kernel_rfl
  have hc4 : Tryd.prog.cellsOf 97 = 1 := by kernel_rfl
  have hw1 : (Lit.int .i64 k).wf = true := by simp [Lit.wf, IntKind.min, IntKind.max, IntKind.signed, IntKind.bits]; omega
  have hw2 : (Lit.int .u8 w).wf = true := by simp [Lit.wf, IntKind.min, IntKind.max, IntKind.signed, IntKind.bits]; omega
  simp only [keyB, hu, hk, Bool.true_and, Bool.and_eq_true]
  refine ⟨rfl, ?_⟩
  have hf : (place k w).formed Tryd.prog 120 = true := by
    simp [place, Value.formed, hu2, hc2]
  have k1 : ∀ d, Tryd.prog.keyLits (d + 1) 3 [.int .i64 k] = some [.int .i64 k] := fun d => by simp only [Program.keyLits, hu3, hw1, and_self, if_true]
  have k2 : ∀ d, Tryd.prog.keyLits (d + 1) 97 [.int .u8 w] = some [.int .u8 w] := fun d => by simp only [Program.keyLits, hu4, hw2, and_self, if_true]
  have hcl : (place k w).cells.toList = [.int .i64 k, .int .u8 w] := rfl
  have k3 : ∃ ls, Tryd.prog.keyLits (153 + 1 + 1 + 1) 120 [.int .i64 k, .int .u8 w] = some ls := by
    unfold Program.keyLits
    rw [hu2]
    refine ⟨[.int .i64 k, .int .u8 w], ?_⟩
    simp only []
    rw [if_pos ⟨by rw [hc2]; rfl, by kernel_rfl⟩]
    simp only [List.mapM_cons, List.mapM_nil, hc3, hc4, List.drop_zero, List.drop_succ_cons, List.take_succ_cons, List.take_zero, k1, k2]
    rfl
  obtain ⟨ls, k3⟩ := k3
  unfold keyOf
  rw [hu2]
  simp only [hkt, hf, Bool.and_self, if_true, hcl, hsz, k3, Option.map_some, Option.isSome_some]
def whichF (l : List Ws.Fd) : Ws.Fd × Nat := match l.reverse.find? (fun f => kindOf f.k f.w != 0) with | some f => (f, kindOf f.k f.w) | none => (⟨0, 0, 0, []⟩, 0)
theorem whichF_hit {l : List Ws.Fd} {i : Nat} {f : Ws.Fd} {r : List Ws.Fd} (h : l.drop i = f :: r) (hr : ∀ f ∈ r, kindOf f.k f.w = 0) (hf : kindOf f.k f.w ≠ 0) : whichF l = (f, kindOf f.k f.w) := by
  have hl : l = l.take i ++ (f :: r) := by rw [← h, List.take_append_drop]
  have : l.reverse.find? (fun f => kindOf f.k f.w != 0) = some f := by
    rw [hl, List.reverse_append, List.reverse_cons, List.append_assoc, List.find?_append, List.find?_eq_none.2 (by intro x hx; simp [hr x (by simpa using hx)]), Option.none_or, List.singleton_append, List.find?_cons_of_pos (by simpa using hf)]
  unfold whichF
  rw [this]
theorem whichF_none {l : List Ws.Fd} (h : ∀ f ∈ l, kindOf f.k f.w = 0) : whichF l = (⟨0, 0, 0, []⟩, 0) := by
  have : l.reverse.find? (fun f => kindOf f.k f.w != 0) = none := List.find?_eq_none.2 (by intro x hx; simp [h x (by simpa using hx)])
  unfold whichF
  rw [this]
theorem kinds_perm {es : List (Value × Value)} (h : es.Perm kinds7) (k : Int) (w : Nat) : (mget es (place k w)).getD (.int .u8 0) = .int .u8 (kindOf k w : Nat) := by
  have hp : kinds7.Pairwise fun p q => p.1 ≠ q.1 := by
    simp only [kinds7, List.pairwise_cons, List.mem_cons, List.not_mem_nil, or_false, false_or, forall_eq_or_imp, forall_eq, place]
    simp
  have hp2 : es.Pairwise fun p q => p.1 ≠ q.1 := (h.pairwise_iff (fun h => Ne.symm h)).2 hp
  rw [mget_perm h hp2 (s := place k w) rfl, kinds7_get]
theorem kinds_all {es : List (Value × Value)} (h : es.Perm kinds7) : es.all (fun p => keyB Tryd.prog 121 p.1) = true := by
  rw [h.all_eq]
  simp only [kinds7, List.all_cons, List.all_nil, Bool.and_true, Bool.and_eq_true]
  exact ⟨keyB_place _ _ (by decide) (by decide) (by decide), keyB_place _ _ (by decide) (by decide) (by decide), keyB_place _ _ (by decide) (by decide) (by decide), keyB_place _ _ (by decide) (by decide) (by decide), keyB_place _ _ (by decide) (by decide) (by decide), keyB_place _ _ (by decide) (by decide) (by decide), keyB_place _ _ (by decide) (by decide) (by decide)⟩
def fill7 : List FE := [⟨1, 2, 8, .agg [.d (.v (.int .i64 1)), .d (.v (.int .u8 2))], place 1 2, .int .u8 1⟩, ⟨3, 4, 9, .agg [.d (.v (.int .i64 2)), .d (.v (.int .u8 0))], place 2 0, .int .u8 2⟩, ⟨5, 6, 10, .agg [.d (.v (.int .i64 3)), .d (.v (.int .u8 0))], place 3 0, .int .u8 3⟩, ⟨7, 8, 11, .agg [.d (.v (.int .i64 4)), .d (.v (.int .u8 1))], place 4 1, .int .u8 4⟩, ⟨9, 10, 12, .agg [.d (.v (.int .i64 5)), .d (.v (.int .u8 2))], place 5 2, .int .u8 5⟩, ⟨11, 12, 13, .agg [.d (.v (.int .i64 6)), .d (.v (.int .u8 2))], place 6 2, .int .u8 6⟩, ⟨13, 14, 14, .agg [.d (.v (.int .i64 7)), .d (.v (.int .u8 2))], place 7 2, .int .u8 7⟩]
theorem which_c {W0 : World} (l : List Ws.Fd) (hl : ∀ f ∈ l, okF f) (hlen : l.length ≤ 4096) : APure Tryd.prog W0 91 [rF l] (· = .ret (.tup [fa (whichF l).1, .d (.v (.int .u8 ((whichF l).2 : Nat)))])) := by
  refine A_body Tryd.func91 rfl (Nat.le_of_ble_eq_true rfl) ?_
  simp only [go_sem, Tryd.ntmps91, Tryd.results91, mkEnv, rF]
  repeat (first | refine wS ?_ | refine wB ?_ | (refine wR ?_; simp only [go_sem, rF]) | (refine wT ?_ ?_; focus (simp only [go_sem]; done)) | (refine wF ?_ ?_; focus (simp only [go_sem]; done)) | (refine wK ?_; try simp only [go_sem, rF]) | (refine wE ?_; try simp only [go_sem, rF]) | refine wX ?_)
  have hw0 : IntKind.i64.wrap ((l.length : Int) - 1) = (l.length : Int) - 1 := wrap_in (by omega) (by omega)
  refine wD 0 ?_ mixedO (by kernel_rfl)
  simp only [go_sem]
  repeat (first | refine wS ?_ | refine wB ?_ | (refine wR ?_; simp only [go_sem]) | (refine wT ?_ ?_; focus (simp only [go_sem]; done)) | (refine wF ?_ ?_; focus (simp only [go_sem]; done)) | (refine wK ?_; try simp only [go_sem]) | (refine wE ?_; try simp only [go_sem]) | refine wX ?_)
  refine wFill2 (fuel := 2) (T := 121) (setI [0, 1, 2, 3, 4, 5, 6, 7, 8, 9, 10, 11, 12, 13, 14] (Array.replicate 17 false)) 0 7 fill7 (fun es hes => ?_) (by kernel_rfl) ⟨_, rfl, rfl, rfl, rfl, by decide⟩ ?_ ?_ (by decide) (fun i => ?_) mp_121 ?_ ?_ (by kernel_rfl)
  rotate_left
  · intro x hx
    simp only [fill7, List.mem_cons, List.not_mem_nil, or_false] at hx
    rcases hx with rfl | rfl | rfl | rfl | rfl | rfl | rfl
    all_goals exact ⟨_, by simp only [List.getElem?_toArray, List.getElem?_cons_succ, List.getElem?_cons_zero] <;> rfl, rfl, rfl, by decide, by decide, fun e bs => by simp only [go_sem]⟩
  · intro x hx
    simp only [fill7, List.mem_cons, List.not_mem_nil, or_false] at hx
    rcases hx with rfl | rfl | rfl | rfl | rfl | rfl | rfl
    all_goals exact ⟨_, _, by simp only [List.getElem?_toArray, List.getElem?_cons_succ, List.getElem?_cons_zero] <;> rfl, rfl, rfl, rfl, rfl, fun e => rfl⟩
  · simp [qtf]
  · intro x hx
    simp only [fill7, List.mem_cons, List.not_mem_nil, or_false] at hx
    rcases hx with rfl | rfl | rfl | rfl | rfl | rfl | rfl
    all_goals exact keyB_place _ _ (by decide) (by decide) (by decide)
  · simp [fill7, place]
  simp only [fill7, putF, List.foldl_cons, List.foldl_nil, go_sem]
  have hperm : es.Perm kinds7 := hes
  have hall := kinds_all hperm
  have hget := fun k w => kinds_perm hperm k w
  have hky := keyB_place
  simp only [place] at hget hky
  clear hes
  refine wD1 15 ?_ (by kernel_rfl)
  simp only [go_sem]
  try simp only [TQ, true_and]
  refine wD1 16 ?_ (by kernel_rfl)
  simp only [go_sem]
  try simp only [TQ, true_and]
  refine wD0 ?_ (by kernel_rfl)
  try simp only [go_sem, hw0]
  repeat (first | refine wS ?_ | refine wB ?_ | (refine wR ?_; simp only [go_sem, hw0]) | (refine wT ?_ ?_; focus (simp only [go_sem]; done)) | (refine wF ?_ ?_; focus (simp only [go_sem]; done)) | (refine wK ?_; try simp only [go_sem, hw0]) | (refine wE ?_; try simp only [go_sem, hw0]) | refine wX ?_)
  refine wLm (σ := { j : Nat // j ≤ l.length ∧ ∀ f ∈ l.drop j, kindOf f.k f.w = 0 }) (fun j => ⟨44, ofL [(0, rF l), (2, .ptr 0 0), (4, .mref 1), (5, .d (.v (.int .i64 ((j.1 : Int) - 1))))], [.var [.d (.v (.int .i64 0)), .d (.v (.int .u8 0)), .d (.v (.int .u64 0)), .d (.v (.string ByteArray.empty))], .mp es]⟩) (fun j => j.1) ⟨l.length, Nat.le_refl _, by simp⟩ wSb ?_
  rintro ⟨j, hj, hz⟩ R hR
  simp only [go_sem]
  repeat (first | refine wS ?_ | refine wB ?_ | (refine wR ?_; simp only [go_sem]) | (refine wT ?_ ?_; focus (simp only [go_sem]; done)) | (refine wF ?_ ?_; focus (simp only [go_sem]; done)) | (refine wK ?_; try simp only [go_sem]) | (refine wE ?_; try simp only [go_sem]) | refine wX ?_)
  refine wI (fun h => ?_) (fun h => ?_)
  · obtain ⟨i, rfl⟩ : ∃ i, j = i + 1 := ⟨j - 1, by simp at h; omega⟩
    have hij : ((i + 1 : Nat) : Int) - 1 = (i : Int) := by omega
    have hlt : i < l.length := by omega
    have hx : (l.map fD)[i]? = some (fD l[i]) := by rw [List.getElem?_map, List.getElem?_eq_getElem hlt]; rfl
    have hdrop : l.drop i = l[i] :: l.drop (i + 1) := List.drop_eq_getElem_cons hlt
    obtain ⟨f1, f2, f3⟩ := hl l[i] (List.getElem_mem hlt)
    have hgi := hget l[i].k l[i].w
    have hki := hky l[i].k l[i].w f1 f2 f3
    have hwi : IntKind.i64.wrap ((i : Int) - 1) = (i : Int) - 1 := wrap_in (by omega) (by omega)
    generalize l[i] = f at hx hdrop hgi hki
    obtain ⟨k, w, n, s⟩ := f
    simp only at hgi hki
    simp only [go_sem, hij]
    repeat (first | refine wS ?_ | refine wB ?_ | (refine wR ?_; simp only [go_sem, hx]) | (refine wT ?_ ?_; focus (simp only [go_sem]; done)) | (refine wF ?_ ?_; focus (simp only [go_sem]; done)) | (refine wK ?_; try simp only [go_sem, hx]) | (refine wE ?_; try simp only [go_sem, hx]) | refine wX ?_)
    have hk0 : ((kindOf k w : Int) != 0) = !decide (kindOf k w = 0) := by rw [bne, show (0 : Int) = ((0 : Nat) : Int) from rfl, nEq]
    refine wQ ?_ mixedO (by kernel_rfl)
    simp only [go_sem, hx, hgi, hki, hall, hk0]
    repeat (first | refine wS ?_ | refine wB ?_ | (refine wR ?_; simp only [go_sem, hx, hgi, hki, hall, hk0]) | (refine wT ?_ ?_; focus (simp only [go_sem]; done)) | (refine wF ?_ ?_; focus (simp only [go_sem]; done)) | (refine wK ?_; try simp only [go_sem, hx, hgi, hki, hall, hk0]) | (refine wE ?_; try simp only [go_sem, hx, hgi, hki, hall, hk0]) | refine wX ?_)
    by_cases hkk : kindOf k w = 0
    · have hkb : (!decide (kindOf k w = 0)) = false := by simp [hkk]
      simp only [go_sem, hkb]
      repeat (first | refine wS ?_ | refine wB ?_ | (refine wR ?_; simp only [go_sem, hwi]) | (refine wT ?_ ?_; focus (simp only [go_sem]; done)) | (refine wF ?_ ?_; focus (simp only [go_sem]; done)) | (refine wK ?_; try simp only [go_sem, hwi]) | (refine wE ?_; try simp only [go_sem, hwi]) | refine wX ?_)
      refine hR ⟨i, by omega, ?_⟩ _ (by simp only; omega) wSb
      rw [hdrop]
      intro f hf
      rcases List.mem_cons.1 hf with rfl | hf
      · exact hkk
      · exact hz f hf
    · have hkb : (!decide (kindOf k w = 0)) = true := by simp [hkk]
      have hit := whichF_hit hdrop hz hkk
      simp only [hit]
      simp only [go_sem, hkb]
      repeat (first | refine wS ?_ | refine wB ?_ | (refine wR ?_; simp only [go_sem, hx]) | (refine wT ?_ ?_; focus (simp only [go_sem]; done)) | (refine wF ?_ ?_; focus (simp only [go_sem]; done)) | (refine wK ?_; try simp only [go_sem, hx]) | (refine wE ?_; try simp only [go_sem, hx]) | refine wX ?_)
      exact wRq
  · obtain rfl : j = 0 := by simp at h; omega
    have hn := whichF_none (l := l) (by simpa using hz)
    simp only [hn]
    repeat (first | refine wS ?_ | refine wB ?_ | (refine wR ?_; simp only [go_sem]) | (refine wT ?_ ?_; focus (simp only [go_sem]; done)) | (refine wF ?_ ?_; focus (simp only [go_sem]; done)) | (refine wK ?_; try simp only [go_sem]) | (refine wE ?_; try simp only [go_sem]) | refine wX ?_)
    exact wRq
end Go.Proofs.YtbgfiflnfndckaaDoor.Lift
end
section
/- The lift: values are read: fields. No conditions. -/
set_option linter.unusedVariables false
set_option linter.unusedSimpArgs false
set_option maxHeartbeats 4000000
set_option maxRecDepth 100000
namespace Go.Proofs.YtbgfiflnfndckaaDoor.Lift
open Go Go.RowKit

def fieldsE (s : List UInt8) : Except Nat (List Ws.Fd) := if (Ws.read s).2 = 0 then .ok (Ws.read s).1 else .error (Ws.read s).2
def resF : Except Nat (List Ws.Fd) → Res
  | .ok l => .ret (rF l)
  | .error c => .panic (err c)
theorem fields_c {W0 : World} (s : ByteArray) : APure Tryd.prog W0 92 [.d (.v (.string s))] (· = resF (fieldsE s.data.toList)) := by
  have hw := read_c (W0 := W0) s
  unfold fieldsE
  obtain ⟨c, hc⟩ : ∃ c, c = (Ws.read s.data.toList).2 := ⟨_, rfl⟩
  rw [← hc] at hw ⊢
  by_cases h0 : c = 0
  · subst h0
    rw [if_pos rfl]
    refine A_body Tryd.func92 rfl (Nat.le_of_ble_eq_true rfl) ?_
    simp only [go_sem, Tryd.ntmps92, Tryd.results92, mkEnv]
    repeat (first | refine wS ?_ | refine wB ?_ | (refine wR ?_; simp only [go_sem]) | (refine wT ?_ ?_; focus (simp only [go_sem]; done)) | (refine wF ?_ ?_; focus (simp only [go_sem]; done)) | (refine wK ?_; try simp only [go_sem]) | (refine wE ?_; try simp only [go_sem]) | refine wX ?_)
    refine wC (hw) ?_
    simp only [go_sem]
    repeat (first | refine wS ?_ | refine wB ?_ | (refine wR ?_; simp only [go_sem]) | (refine wT ?_ ?_; focus (simp only [go_sem]; done)) | (refine wF ?_ ?_; focus (simp only [go_sem]; done)) | (refine wK ?_; try simp only [go_sem]) | (refine wE ?_; try simp only [go_sem]) | refine wX ?_)
    refine wC (fine_ok) ?_
    simp only [go_sem]
    repeat (first | refine wS ?_ | refine wB ?_ | (refine wR ?_; simp only [go_sem]) | (refine wT ?_ ?_; focus (simp only [go_sem]; done)) | (refine wF ?_ ?_; focus (simp only [go_sem]; done)) | (refine wK ?_; try simp only [go_sem]) | (refine wE ?_; try simp only [go_sem]) | refine wX ?_)
    exact wRq
  · rw [if_neg h0]
    refine A_body Tryd.func92 rfl (Nat.le_of_ble_eq_true rfl) ?_
    simp only [go_sem, Tryd.ntmps92, Tryd.results92, mkEnv]
    repeat (first | refine wS ?_ | refine wB ?_ | (refine wR ?_; simp only [go_sem]) | (refine wT ?_ ?_; focus (simp only [go_sem]; done)) | (refine wF ?_ ?_; focus (simp only [go_sem]; done)) | (refine wK ?_; try simp only [go_sem]) | (refine wE ?_; try simp only [go_sem]) | refine wX ?_)
    refine wC (hw) ?_
    simp only [go_sem]
    repeat (first | refine wS ?_ | refine wB ?_ | (refine wR ?_; simp only [go_sem]) | (refine wT ?_ ?_; focus (simp only [go_sem]; done)) | (refine wF ?_ ?_; focus (simp only [go_sem]; done)) | (refine wK ?_; try simp only [go_sem]) | (refine wE ?_; try simp only [go_sem]) | refine wX ?_)
    refine wP (fine_no (c : Int) (by omega)) ?_
    try simp only [go_sem]
    exact wPan ⟨rfl, rfl⟩
end Go.Proofs.YtbgfiflnfndckaaDoor.Lift
end
section
/- The lift: what a message is read as: plain law. No conditions. -/
set_option linter.unusedVariables false
set_option linter.unusedSimpArgs false
set_option maxHeartbeats 4000000
set_option maxRecDepth 100000
namespace Go.Proofs.YtbgfiflnfndckaaDoor.Lift
open Go Go.RowKit

/-- One after the other, or the first error. -/
def seqE {α : Type} : List (Except Nat α) → Except Nat (List α)
  | [] => .ok []
  | .error e :: _ => .error e
  | .ok x :: l => match seqE l with | .error e => .error e | .ok xs => .ok (x :: xs)
theorem seqE_app {α : Type} (l l' : List (Except Nat α)) : seqE (l ++ l') = match seqE l with | .error e => .error e | .ok fs => (match seqE l' with | .error e => .error e | .ok fs' => .ok (fs ++ fs')) := by
  induction l with
  | nil => simp only [List.nil_append, seqE]; cases seqE l' <;> rfl
  | cons x l ih =>
    cases x with
    | error e => rfl
    | ok t =>
      simp only [List.cons_append, seqE, ih]
      cases seqE l with
      | error e => rfl
      | ok fs => cases seqE l' <;> rfl
theorem seqE_take {α : Type} {l : List (Except Nat α)} {i : Nat} {r : Except Nat α} {fs : List α} (h : l[i]? = some r) (h0 : seqE (l.take i) = .ok fs) : (∀ e, r = .error e → seqE l = .error e) ∧ ∀ t, r = .ok t → seqE (l.take (i + 1)) = .ok (fs ++ [t]) := by
  have e1 : l.take (i + 1) = l.take i ++ [r] := by
    rw [List.take_add_one, h]
    rfl
  refine ⟨fun e he => ?_, fun t ht => by rw [e1, seqE_app, h0, ht]; rfl⟩
  have : l = l.take (i + 1) ++ l.drop (i + 1) := (List.take_append_drop _ _).symm
  rw [this, seqE_app, e1, seqE_app, h0, he]
  rfl
theorem seqE_len {α : Type} {l : List (Except Nat α)} {fs : List α} (h : seqE l = .ok fs) : fs.length = l.length := by
  induction l generalizing fs with
  | nil => cases h; rfl
  | cons x l ih =>
    cases x with
    | error e => cases h
    | ok t =>
      simp only [seqE] at h
      cases hp : seqE l with
      | error e => rw [hp] at h; cases h
      | ok gs =>
        rw [hp] at h
        cases h
        simp [ih hp]
def F0 : Ws.Fd := ⟨0, 0, 0, []⟩
def pairR (rv : List UInt8 → Except Nat V) (s : List UInt8) : Except Nat (ByteArray × V) :=
  match fieldsE s with
  | .error e => .error e
  | .ok fs => if keyE ⟨((lastF fs 1 2).getD F0).s.toArray⟩ = 0 then (match rv ((lastF fs 2 2).getD F0).s with | .error e => .error e | .ok v => .ok (⟨((lastF fs 1 2).getD F0).s.toArray⟩, v)) else .error (keyE ⟨((lastF fs 1 2).getD F0).s.toArray⟩)
def putAll (ps : List (ByteArray × V)) : List (ByteArray × V) := ps.foldl (fun m p => putV p.1 p.2 m) []
/-- A value within so many more levels. -/
def rdV : Nat → List UInt8 → Except Nat V
  | k, s => match fieldsE s with
    | .error e => .error e
    | .ok fs =>
      if (whichF fs).2 = 1 ∨ (whichF fs).2 = 7 then (if 4096 < (whichF fs).1.s.length then .error 4 else if (whichF fs).2 = 1 ∧ Lib.validD (whichF fs).1.s = false then .error 12 else .ok (.mk (whichF fs).2 ⟨(whichF fs).1.s.toArray⟩ false 0 0 [] []))
      else if (whichF fs).2 = 2 then .ok (.mk 2 ByteArray.empty (decide ((whichF fs).1.n ≠ 0)) 0 0 [] [])
      else if (whichF fs).2 = 3 then .ok (.mk 3 ByteArray.empty false (IntKind.i64.wrap (whichF fs).1.n) 0 [] [])
      else if (whichF fs).2 = 4 then .ok (.mk 4 ByteArray.empty false 0 (whichF fs).1.n [] [])
      else if (whichF fs).2 = 5 ∨ (whichF fs).2 = 6 then
        match fieldsE (whichF fs).1.s with
        | .error e => .error e
        | .ok gs => if 256 < (gs.filter (ofF 1 2)).length then .error 3 else
          match k with
          | 0 => .error 11
          | k + 1 => if (whichF fs).2 = 5 then (match seqE ((gs.filter (ofF 1 2)).map fun p => rdV k p.s) with | .error e => .error e | .ok l => .ok (.mk 5 ByteArray.empty false 0 0 l []))
            else (match seqE ((gs.filter (ofF 1 2)).map fun p => pairR (rdV k) p.s) with | .error e => .error e | .ok ps => .ok (.mk 6 ByteArray.empty false 0 0 [] (putAll ps)))
      else .ok (.mk 0 ByteArray.empty false 0 0 [] [])
end Go.Proofs.YtbgfiflnfndckaaDoor.Lift
end
section
/- The lift: the walks of readPair and read. No conditions but that utf8's tables lie as they are laid. -/
set_option linter.unusedVariables false
set_option linter.unusedSimpArgs false
set_option maxHeartbeats 4000000
set_option maxRecDepth 100000
namespace Go.Proofs.YtbgfiflnfndckaaDoor.Lift
open Go Go.RowKit

theorem fieldsE_ok {s : List UInt8} {fs : List Ws.Fd} (h : fieldsE s = .ok fs) : s.length ≤ 65536 ∧ fs.length ≤ 4096 ∧ ∀ f ∈ fs, Ws.fdOk 65536 f := by
  unfold fieldsE at h
  split at h
  · rename_i h0
    cases h
    have hs : s.length ≤ 65536 := by
      unfold Ws.read at h0
      split at h0
      · cases h0
      · omega
    exact ⟨hs, read_len s, fun f hf => (Ws.read_ok s f hf).mono hs⟩
  · cases h
theorem fdOk_okF {f : Ws.Fd} {N : Nat} (h : Ws.fdOk N f) : okF f := ⟨by have := h.1; omega, by have := h.2.1; omega, by rcases h.2.2.1 with e | e | e | e <;> omega⟩
theorem whichF_in (fs : List Ws.Fd) : ((whichF fs).1 = F0 ∧ (whichF fs).2 = 0) ∨ ((whichF fs).1 ∈ fs ∧ (whichF fs).2 = kindOf (whichF fs).1.k (whichF fs).1.w) := by
  unfold whichF
  split
  · rename_i f hf
    exact .inr ⟨by simpa using List.mem_of_find?_eq_some hf, rfl⟩
  · exact .inl ⟨rfl, rfl⟩
theorem whichF_ok {fs : List Ws.Fd} (h : ∀ f ∈ fs, Ws.fdOk 65536 f) : (whichF fs).1.s.length ≤ 65536 ∧ (whichF fs).1.n < 2 ^ 64 ∧ (whichF fs).2 ≤ 7 := by
  rcases whichF_in fs with ⟨h1, h2⟩ | ⟨h1, h2⟩
  · rw [h1, h2]
    exact ⟨by simp [F0], by simp [F0], by omega⟩
  · obtain ⟨_, _, _, h3, h4⟩ := h _ h1
    refine ⟨h4, h3, ?_⟩
    rw [h2]
    unfold kindOf
    repeat' split
    all_goals omega
theorem lastF_in {fs : List Ws.Fd} (h : ∀ f ∈ fs, Ws.fdOk 65536 f) (num : Int) (w : Nat) : ((lastF fs num w).getD F0).s.length ≤ 65536 := by
  cases hl : lastF fs num w with
  | none => simp [F0]
  | some f =>
    have : f ∈ fs := (List.mem_filter.1 (List.mem_of_getLast? hl)).1
    exact (h f this).2.2.2.2
def resV1 : Except Nat V → Res
  | .ok v => .ret (va v)
  | .error c => .panic (err c)
def resP1 : Except Nat (ByteArray × V) → Res
  | .ok p => .ret (pa p)
  | .error c => .panic (err c)
theorem readPair_of {W0 : World} (hT : Tabs W0) (k d : Nat) (hr : ∀ s : List UInt8, s.length ≤ 65536 → APure Tryd.prog W0 69 [.d (.v (.string ⟨s.toArray⟩)), .d (.v (.int .i64 d))] (· = resV1 (rdV k s))) (s : List UInt8) :
    APure Tryd.prog W0 73 [.d (.v (.string ⟨s.toArray⟩)), .d (.v (.int .i64 d))] (· = resP1 (pairR (rdV k) s)) := by
  have hf := fields_c (W0 := W0) ⟨s.toArray⟩
  unfold pairR
  have hs' : (⟨s.toArray⟩ : ByteArray).data.toList = s := rfl
  rw [hs'] at hf
  cases hfe : fieldsE s with
  | error e =>
    rw [hfe] at hf
    refine A_body Tryd.func73 rfl (Nat.le_of_ble_eq_true rfl) ?_
    simp only [go_sem, Tryd.ntmps73, Tryd.results73, mkEnv]
    repeat (first | refine wS ?_ | refine wB ?_ | (refine wR ?_; simp only [go_sem]) | (refine wT ?_ ?_; focus (simp only [go_sem]; done)) | (refine wF ?_ ?_; focus (simp only [go_sem]; done)) | (refine wK ?_; try simp only [go_sem]) | (refine wE ?_; try simp only [go_sem]) | refine wX ?_)
    refine wP (hf) ?_
    try simp only [go_sem]
    exact wPan ⟨rfl, rfl⟩
  | ok fs =>
    rw [hfe] at hf
    obtain ⟨h1, h2, h3⟩ := fieldsE_ok hfe
    have hl1 := last_c (W0 := W0) fs 1 2 (by omega)
    have hl2 := last_c (W0 := W0) fs 2 2 (by omega)
    have hs1 := lastF_in h3 1 2
    have hs2 := lastF_in h3 2 2
    have hkey := key_c hT ⟨((lastF fs 1 2).getD F0).s.toArray⟩ (by rw [show (⟨((lastF fs 1 2).getD F0).s.toArray⟩ : ByteArray).size = ((lastF fs 1 2).getD F0).s.length from List.size_toArray ..]; omega)
    have hrv := hr _ hs2
    have hF0 : (⟨0, 0, 0, []⟩ : Ws.Fd) = F0 := rfl
    rw [hF0] at hl1 hl2
    generalize (lastF fs 1 2).isSome = b1 at hl1
    generalize (lastF fs 2 2).isSome = b2 at hl2
    simp only
    generalize (lastF fs 1 2).getD F0 = f1 at hl1 hkey ⊢
    generalize (lastF fs 2 2).getD F0 = f2 at hl2 hrv ⊢
    obtain ⟨k1, w1, n1, s1⟩ := f1
    obtain ⟨k2, w2, n2, s2⟩ := f2
    simp only at hkey hrv
    refine A_body Tryd.func73 rfl (Nat.le_of_ble_eq_true rfl) ?_
    simp only [go_sem, Tryd.ntmps73, Tryd.results73, mkEnv]
    repeat (first | refine wS ?_ | refine wB ?_ | (refine wR ?_; simp only [go_sem]) | (refine wT ?_ ?_; focus (simp only [go_sem]; done)) | (refine wF ?_ ?_; focus (simp only [go_sem]; done)) | (refine wK ?_; try simp only [go_sem]) | (refine wE ?_; try simp only [go_sem]) | refine wX ?_)
    refine wC (hf) ?_
    simp only [go_sem]
    repeat (first | refine wS ?_ | refine wB ?_ | (refine wR ?_; simp only [go_sem]) | (refine wT ?_ ?_; focus (simp only [go_sem]; done)) | (refine wF ?_ ?_; focus (simp only [go_sem]; done)) | (refine wK ?_; try simp only [go_sem]) | (refine wE ?_; try simp only [go_sem]) | refine wX ?_)
    refine wC (hl1) ?_
    simp only [go_sem]
    repeat (first | refine wS ?_ | refine wB ?_ | (refine wR ?_; simp only [go_sem]) | (refine wT ?_ ?_; focus (simp only [go_sem]; done)) | (refine wF ?_ ?_; focus (simp only [go_sem]; done)) | (refine wK ?_; try simp only [go_sem]) | (refine wE ?_; try simp only [go_sem]) | refine wX ?_)
    by_cases hk0 : keyE ⟨s1.toArray⟩ = 0
    · rw [hk0, ends0] at hkey
      rw [if_pos hk0]
      refine wC (hkey) ?_
      simp only [go_sem]
      repeat (first | refine wS ?_ | refine wB ?_ | (refine wR ?_; simp only [go_sem]) | (refine wT ?_ ?_; focus (simp only [go_sem]; done)) | (refine wF ?_ ?_; focus (simp only [go_sem]; done)) | (refine wK ?_; try simp only [go_sem]) | (refine wE ?_; try simp only [go_sem]) | refine wX ?_)
      refine wC (hl2) ?_
      simp only [go_sem]
      repeat (first | refine wS ?_ | refine wB ?_ | (refine wR ?_; simp only [go_sem]) | (refine wT ?_ ?_; focus (simp only [go_sem]; done)) | (refine wF ?_ ?_; focus (simp only [go_sem]; done)) | (refine wK ?_; try simp only [go_sem]) | (refine wE ?_; try simp only [go_sem]) | refine wX ?_)
      refine wDI [2, 3, 4] [0, 1] ?_ mixedO (by kernel_rfl)
      simp only [go_sem]
      repeat (first | refine wS ?_ | refine wB ?_ | (refine wR ?_; simp only [go_sem]) | (refine wT ?_ ?_; focus (simp only [go_sem]; done)) | (refine wF ?_ ?_; focus (simp only [go_sem]; done)) | (refine wK ?_; try simp only [go_sem]) | (refine wE ?_; try simp only [go_sem]) | refine wX ?_)
      cases hrr : rdV k s2 with
      | error e =>
        rw [hrr] at hrv
        have pan : resP1 (.error e) = .panic (err e) := rfl
        refine wDqD 0 5 ?_ ?_ (by kernel_rfl)
        · simp only [go_sem]
          refine wDqD 1 5 ?_ ?_ (by kernel_rfl)
          · simp only [go_sem]
            refine wD1 5 ?_ (by kernel_rfl)
            simp only [go_sem]
            refine wP (hrv) ?_
            try simp only [go_sem]
            exact wPan ⟨rfl, rfl⟩
          · simp only [go_sem]
            refine wP (hrv) ?_
            try simp only [go_sem]
            exact wPan ⟨rfl, rfl⟩
        · simp only [go_sem]
          refine wP (hrv) ?_
          try simp only [go_sem]
          exact wPan ⟨rfl, rfl⟩
      | ok v =>
        rw [hrr] at hrv
        simp only [resV1] at hrv
        refine wDqD 0 5 ?_ ?_ (by kernel_rfl)
        · simp only [go_sem]
          refine wDqD 1 5 ?_ ?_ (by kernel_rfl)
          · simp only [go_sem]
            refine wD1 5 ?_ (by kernel_rfl)
            simp only [go_sem]
            refine wC (hrv) ?_
            simp only [go_sem]
            repeat (first | refine wS ?_ | refine wB ?_ | (refine wR ?_; simp only [go_sem]) | (refine wT ?_ ?_; focus (simp only [go_sem]; done)) | (refine wF ?_ ?_; focus (simp only [go_sem]; done)) | (refine wK ?_; try simp only [go_sem]) | (refine wE ?_; try simp only [go_sem]) | refine wX ?_)
            refine wD1 6 ?_ (by kernel_rfl)
            simp only [go_sem]
            try simp only [TQ, true_and]
            refine wD1 7 ?_ (by kernel_rfl)
            simp only [go_sem]
            try simp only [TQ, true_and]
            refine wD0 ?_ (by kernel_rfl)
            try simp only [go_sem]
            repeat (first | refine wS ?_ | refine wB ?_ | (refine wR ?_; simp only [go_sem]) | (refine wT ?_ ?_; focus (simp only [go_sem]; done)) | (refine wF ?_ ?_; focus (simp only [go_sem]; done)) | (refine wK ?_; try simp only [go_sem]) | (refine wE ?_; try simp only [go_sem]) | refine wX ?_)
            exact wRet ⟨rfl, rfl⟩ (hx := by simp only [resV, rvs, rv1, go_sem] <;> rfl)
          · simp only [go_sem]
            refine wC (hrv) ?_
            simp only [go_sem]
            repeat (first | refine wS ?_ | refine wB ?_ | (refine wR ?_; simp only [go_sem]) | (refine wT ?_ ?_; focus (simp only [go_sem]; done)) | (refine wF ?_ ?_; focus (simp only [go_sem]; done)) | (refine wK ?_; try simp only [go_sem]) | (refine wE ?_; try simp only [go_sem]) | refine wX ?_)
            refine wDq 1 ?_ (by kernel_rfl)
            simp only [go_sem]
            refine wD1 6 ?_ (by kernel_rfl)
            simp only [go_sem]
            try simp only [TQ, true_and]
            refine wD1 7 ?_ (by kernel_rfl)
            simp only [go_sem]
            try simp only [TQ, true_and]
            refine wD0 ?_ (by kernel_rfl)
            try simp only [go_sem]
            repeat (first | refine wS ?_ | refine wB ?_ | (refine wR ?_; simp only [go_sem]) | (refine wT ?_ ?_; focus (simp only [go_sem]; done)) | (refine wF ?_ ?_; focus (simp only [go_sem]; done)) | (refine wK ?_; try simp only [go_sem]) | (refine wE ?_; try simp only [go_sem]) | refine wX ?_)
            exact wRet ⟨rfl, rfl⟩ (hx := by simp only [resV, rvs, rv1, go_sem] <;> rfl)
        · simp only [go_sem]
          refine wC (hrv) ?_
          simp only [go_sem]
          repeat (first | refine wS ?_ | refine wB ?_ | (refine wR ?_; simp only [go_sem]) | (refine wT ?_ ?_; focus (simp only [go_sem]; done)) | (refine wF ?_ ?_; focus (simp only [go_sem]; done)) | (refine wK ?_; try simp only [go_sem]) | (refine wE ?_; try simp only [go_sem]) | refine wX ?_)
          refine wDq 0 ?_ (by kernel_rfl)
          simp only [go_sem]
          refine wDq 1 ?_ (by kernel_rfl)
          simp only [go_sem]
          refine wD1 6 ?_ (by kernel_rfl)
          simp only [go_sem]
          try simp only [TQ, true_and]
          refine wD1 7 ?_ (by kernel_rfl)
          simp only [go_sem]
          try simp only [TQ, true_and]
          refine wD0 ?_ (by kernel_rfl)
          try simp only [go_sem]
          repeat (first | refine wS ?_ | refine wB ?_ | (refine wR ?_; simp only [go_sem]) | (refine wT ?_ ?_; focus (simp only [go_sem]; done)) | (refine wF ?_ ?_; focus (simp only [go_sem]; done)) | (refine wK ?_; try simp only [go_sem]) | (refine wE ?_; try simp only [go_sem]) | refine wX ?_)
          exact wRet ⟨rfl, rfl⟩ (hx := by simp only [resV, rvs, rv1, go_sem] <;> rfl)
    · rw [ends1 hk0] at hkey
      rw [if_neg hk0]
      refine wP (hkey) ?_
      try simp only [go_sem]
      exact wPan ⟨rfl, rfl⟩
end Go.Proofs.YtbgfiflnfndckaaDoor.Lift
end
section
/- The lift: the walk of read. No conditions but that utf8's tables lie as they are laid. -/
set_option linter.unusedVariables false
set_option linter.unusedSimpArgs false
set_option maxHeartbeats 4000000
set_option maxRecDepth 100000
namespace Go.Proofs.YtbgfiflnfndckaaDoor.Lift
open Go Go.RowKit

theorem putAll_len (l : List (ByteArray × V)) : (putAll l).length ≤ l.length := by
  have h : ∀ (l m : List (ByteArray × V)), (l.foldl (fun m p => putV p.1 p.2 m) m).length ≤ m.length + l.length := by
    intro l
    induction l with
    | nil => intro m; simp
    | cons p l ih =>
      intro m
      rw [List.foldl_cons]
      have h1 := ih (putV p.1 p.2 m)
      have h2 : (putV p.1 p.2 m).length ≤ m.length + 1 := by unfold putV; split <;> simp
      simp only [List.length_cons]
      omega
  simpa [putAll] using h l []
theorem read_0 {W0 : World} (hT : Tabs W0) (k d : Nat) (hd : d + k = 8) (hr : ∀ k', k = k' + 1 → ∀ s : List UInt8, s.length ≤ 65536 → APure Tryd.prog W0 69 [.d (.v (.string ⟨s.toArray⟩)), .d (.v (.int .i64 (d + 1 : Nat)))] (· = resV1 (rdV k' s))) (s : List UInt8) :
    APure Tryd.prog W0 69 [.d (.v (.string ⟨s.toArray⟩)), .d (.v (.int .i64 d))] (· = resV1 (rdV k s)) := by
  have hf := fields_c (W0 := W0) ⟨s.toArray⟩
  have hs' : (⟨s.toArray⟩ : ByteArray).data.toList = s := rfl
  rw [hs'] at hf
  rw [rdV]
  cases hfe : fieldsE s with
  | error e =>
    rw [hfe] at hf
    refine A_body Tryd.func69 rfl (Nat.le_of_ble_eq_true rfl) ?_
    simp only [go_sem, Tryd.ntmps69, Tryd.results69, mkEnv]
    repeat (first | refine wS ?_ | refine wB ?_ | (refine wR ?_; simp only [go_sem]) | (refine wT ?_ ?_; focus (simp only [go_sem]; done)) | (refine wF ?_ ?_; focus (simp only [go_sem]; done)) | (refine wK ?_; try simp only [go_sem]) | (refine wE ?_; try simp only [go_sem]) | refine wX ?_)
    refine wP (hf) ?_
    try simp only [go_sem]
    exact wPan ⟨rfl, rfl⟩
  | ok fs =>
    rw [hfe] at hf
    obtain ⟨h1, h2, h3⟩ := fieldsE_ok hfe
    have hw := which_c (W0 := W0) fs (fun f hf => fdOk_okF (h3 f hf)) h2
    obtain ⟨g1, g2, g3⟩ := whichF_ok h3
    simp only
    generalize (whichF fs).1 = f at hw g1 g2 ⊢
    generalize (whichF fs).2 = kd at hw g3 ⊢
    obtain ⟨fk, fw, fn, fs'⟩ := f
    simp only at g1 g2 ⊢
    have hsz : (⟨fs'.toArray⟩ : ByteArray).size = fs'.length := List.size_toArray ..
    have hv := valid_c hT ⟨fs'.toArray⟩ (by rw [hsz]; omega)
    obtain ⟨c4, e4⟩ : ∃ c, decide ((fs'.length : Int) ≤ 4096) = c := ⟨_, rfl⟩
    have hx : ∀ x : List D, True := fun _ => trivial
    by_cases e1 : kd = 1
    · subst e1
      rw [if_pos (.inl rfl)]
      refine A_body Tryd.func69 rfl (Nat.le_of_ble_eq_true rfl) ?_
      simp only [go_sem, Tryd.ntmps69, Tryd.results69, mkEnv]
      repeat (first | refine wS ?_ | refine wB ?_ | (refine wR ?_; simp only [go_sem]) | (refine wT ?_ ?_; focus (simp only [go_sem]; done)) | (refine wF ?_ ?_; focus (simp only [go_sem]; done)) | (refine wK ?_; try simp only [go_sem]) | (refine wE ?_; try simp only [go_sem]) | refine wX ?_)
      refine wC (hf) ?_
      simp only [go_sem, hsz, e4]
      repeat (first | refine wS ?_ | refine wB ?_ | (refine wR ?_; simp only [go_sem, hsz, e4]) | (refine wT ?_ ?_; focus (simp only [go_sem]; done)) | (refine wF ?_ ?_; focus (simp only [go_sem]; done)) | (refine wK ?_; try simp only [go_sem, hsz, e4]) | (refine wE ?_; try simp only [go_sem, hsz, e4]) | refine wX ?_)
      refine wC (hw) ?_
      simp only [go_sem, hsz, e4]
      repeat (first | refine wS ?_ | refine wB ?_ | (refine wR ?_; simp only [go_sem, hsz, e4]) | (refine wT ?_ ?_; focus (simp only [go_sem]; done)) | (refine wF ?_ ?_; focus (simp only [go_sem]; done)) | (refine wK ?_; try simp only [go_sem, hsz, e4]) | (refine wE ?_; try simp only [go_sem, hsz, e4]) | refine wX ?_)
      cases c4 with
      | false =>
        have h4 : 4096 < fs'.length := by simp at e4; omega
        rw [if_pos h4]
        refine wP (must_no 4) ?_
        try simp only [go_sem]
        exact wPan ⟨rfl, rfl⟩
      | true =>
      have h4 : ¬ 4096 < fs'.length := by simp at e4; omega
      rw [if_neg h4]
      refine wC (must_ok 4) ?_
      simp only [go_sem]
      repeat (first | refine wS ?_ | refine wB ?_ | (refine wR ?_; simp only [go_sem]) | (refine wT ?_ ?_; focus (simp only [go_sem]; done)) | (refine wF ?_ ?_; focus (simp only [go_sem]; done)) | (refine wK ?_; try simp only [go_sem]) | (refine wE ?_; try simp only [go_sem]) | refine wX ?_)
      refine wCG (fun hh => hv) ?_
      simp only [go_sem]
      repeat (first | refine wS ?_ | refine wB ?_ | (refine wR ?_; simp only [go_sem]) | (refine wT ?_ ?_; focus (simp only [go_sem]; done)) | (refine wF ?_ ?_; focus (simp only [go_sem]; done)) | (refine wK ?_; try simp only [go_sem]) | (refine wE ?_; try simp only [go_sem]) | refine wX ?_)
      cases hvv : Lib.validD fs' with
      | false =>
        rw [if_pos rfl]
        refine wP (must_no 12) ?_
        try simp only [go_sem]
        exact wPan ⟨rfl, rfl⟩
      | true =>
        rw [if_neg (by simp)]
        refine wC (must_ok 12) ?_
        simp only [go_sem]
        repeat (first | refine wS ?_ | refine wB ?_ | (refine wR ?_; simp only [go_sem]) | (refine wT ?_ ?_; focus (simp only [go_sem]; done)) | (refine wF ?_ ?_; focus (simp only [go_sem]; done)) | (refine wK ?_; try simp only [go_sem]) | (refine wE ?_; try simp only [go_sem]) | refine wX ?_)
        exact wRet ⟨rfl, rfl⟩ (hx := by simp only [resV, rvs, rv1, go_sem] <;> rfl) (hle := Le_va Le_e5 Le_e6)
    by_cases e7 : kd = 7
    · subst e7
      rw [if_pos (.inr rfl)]
      refine A_body Tryd.func69 rfl (Nat.le_of_ble_eq_true rfl) ?_
      simp only [go_sem, Tryd.ntmps69, Tryd.results69, mkEnv]
      repeat (first | refine wS ?_ | refine wB ?_ | (refine wR ?_; simp only [go_sem]) | (refine wT ?_ ?_; focus (simp only [go_sem]; done)) | (refine wF ?_ ?_; focus (simp only [go_sem]; done)) | (refine wK ?_; try simp only [go_sem]) | (refine wE ?_; try simp only [go_sem]) | refine wX ?_)
      refine wC (hf) ?_
      simp only [go_sem, hsz, e4]
      repeat (first | refine wS ?_ | refine wB ?_ | (refine wR ?_; simp only [go_sem, hsz, e4]) | (refine wT ?_ ?_; focus (simp only [go_sem]; done)) | (refine wF ?_ ?_; focus (simp only [go_sem]; done)) | (refine wK ?_; try simp only [go_sem, hsz, e4]) | (refine wE ?_; try simp only [go_sem, hsz, e4]) | refine wX ?_)
      refine wC (hw) ?_
      simp only [go_sem, hsz, e4]
      repeat (first | refine wS ?_ | refine wB ?_ | (refine wR ?_; simp only [go_sem, hsz, e4]) | (refine wT ?_ ?_; focus (simp only [go_sem]; done)) | (refine wF ?_ ?_; focus (simp only [go_sem]; done)) | (refine wK ?_; try simp only [go_sem, hsz, e4]) | (refine wE ?_; try simp only [go_sem, hsz, e4]) | refine wX ?_)
      cases c4 with
      | false =>
        have h4 : 4096 < fs'.length := by simp at e4; omega
        rw [if_pos h4]
        refine wP (must_no 4) ?_
        try simp only [go_sem]
        exact wPan ⟨rfl, rfl⟩
      | true =>
      have h4 : ¬ 4096 < fs'.length := by simp at e4; omega
      rw [if_neg h4]
      refine wC (must_ok 4) ?_
      simp only [go_sem]
      repeat (first | refine wS ?_ | refine wB ?_ | (refine wR ?_; simp only [go_sem]) | (refine wT ?_ ?_; focus (simp only [go_sem]; done)) | (refine wF ?_ ?_; focus (simp only [go_sem]; done)) | (refine wK ?_; try simp only [go_sem]) | (refine wE ?_; try simp only [go_sem]) | refine wX ?_)
      refine wCG (fun hh => hv) ?_
      simp only [go_sem]
      repeat (first | refine wS ?_ | refine wB ?_ | (refine wR ?_; simp only [go_sem]) | (refine wT ?_ ?_; focus (simp only [go_sem]; done)) | (refine wF ?_ ?_; focus (simp only [go_sem]; done)) | (refine wK ?_; try simp only [go_sem]) | (refine wE ?_; try simp only [go_sem]) | refine wX ?_)
      rw [if_neg (by simp)]
      refine wC (must_ok 12) ?_
      simp only [go_sem]
      repeat (first | refine wS ?_ | refine wB ?_ | (refine wR ?_; simp only [go_sem]) | (refine wT ?_ ?_; focus (simp only [go_sem]; done)) | (refine wF ?_ ?_; focus (simp only [go_sem]; done)) | (refine wK ?_; try simp only [go_sem]) | (refine wE ?_; try simp only [go_sem]) | refine wX ?_)
      exact wRet ⟨rfl, rfl⟩ (hx := by simp only [resV, rvs, rv1, go_sem] <;> rfl) (hle := Le_va Le_e5 Le_e6)
    rw [if_neg (fun h => h.elim e1 e7)]
    have hn0 : ((fn : Int) != 0) = decide (fn ≠ 0) := by
      rw [bne, show (0 : Int) = ((0 : Nat) : Int) from rfl, nEq]
      simp
    by_cases e2 : kd = 2
    · subst e2
      rw [if_pos rfl]
      refine A_body Tryd.func69 rfl (Nat.le_of_ble_eq_true rfl) ?_
      simp only [go_sem, Tryd.ntmps69, Tryd.results69, mkEnv]
      repeat (first | refine wS ?_ | refine wB ?_ | (refine wR ?_; simp only [go_sem]) | (refine wT ?_ ?_; focus (simp only [go_sem]; done)) | (refine wF ?_ ?_; focus (simp only [go_sem]; done)) | (refine wK ?_; try simp only [go_sem]) | (refine wE ?_; try simp only [go_sem]) | refine wX ?_)
      refine wC (hf) ?_
      simp only [go_sem, hn0]
      repeat (first | refine wS ?_ | refine wB ?_ | (refine wR ?_; simp only [go_sem, hn0]) | (refine wT ?_ ?_; focus (simp only [go_sem]; done)) | (refine wF ?_ ?_; focus (simp only [go_sem]; done)) | (refine wK ?_; try simp only [go_sem, hn0]) | (refine wE ?_; try simp only [go_sem, hn0]) | refine wX ?_)
      refine wC (hw) ?_
      simp only [go_sem, hn0]
      repeat (first | refine wS ?_ | refine wB ?_ | (refine wR ?_; simp only [go_sem, hn0]) | (refine wT ?_ ?_; focus (simp only [go_sem]; done)) | (refine wF ?_ ?_; focus (simp only [go_sem]; done)) | (refine wK ?_; try simp only [go_sem, hn0]) | (refine wE ?_; try simp only [go_sem, hn0]) | refine wX ?_)
      exact wRet ⟨rfl, rfl⟩ (hx := by simp only [resV, rvs, rv1, go_sem] <;> rfl) (hle := Le_va Le_e5 Le_e6)
    rw [if_neg e2]
    by_cases e3 : kd = 3
    · subst e3
      rw [if_pos rfl]
      refine A_body Tryd.func69 rfl (Nat.le_of_ble_eq_true rfl) ?_
      simp only [go_sem, Tryd.ntmps69, Tryd.results69, mkEnv]
      repeat (first | refine wS ?_ | refine wB ?_ | (refine wR ?_; simp only [go_sem]) | (refine wT ?_ ?_; focus (simp only [go_sem]; done)) | (refine wF ?_ ?_; focus (simp only [go_sem]; done)) | (refine wK ?_; try simp only [go_sem]) | (refine wE ?_; try simp only [go_sem]) | refine wX ?_)
      refine wC (hf) ?_
      simp only [go_sem, hn0]
      repeat (first | refine wS ?_ | refine wB ?_ | (refine wR ?_; simp only [go_sem, hn0]) | (refine wT ?_ ?_; focus (simp only [go_sem]; done)) | (refine wF ?_ ?_; focus (simp only [go_sem]; done)) | (refine wK ?_; try simp only [go_sem, hn0]) | (refine wE ?_; try simp only [go_sem, hn0]) | refine wX ?_)
      refine wC (hw) ?_
      simp only [go_sem, hn0]
      repeat (first | refine wS ?_ | refine wB ?_ | (refine wR ?_; simp only [go_sem, hn0]) | (refine wT ?_ ?_; focus (simp only [go_sem]; done)) | (refine wF ?_ ?_; focus (simp only [go_sem]; done)) | (refine wK ?_; try simp only [go_sem, hn0]) | (refine wE ?_; try simp only [go_sem, hn0]) | refine wX ?_)
      exact wRet ⟨rfl, rfl⟩ (hx := by simp only [resV, rvs, rv1, go_sem] <;> rfl) (hle := Le_va Le_e5 Le_e6)
    rw [if_neg e3]
    by_cases e4 : kd = 4
    · subst e4
      rw [if_pos rfl]
      refine A_body Tryd.func69 rfl (Nat.le_of_ble_eq_true rfl) ?_
      simp only [go_sem, Tryd.ntmps69, Tryd.results69, mkEnv]
      repeat (first | refine wS ?_ | refine wB ?_ | (refine wR ?_; simp only [go_sem]) | (refine wT ?_ ?_; focus (simp only [go_sem]; done)) | (refine wF ?_ ?_; focus (simp only [go_sem]; done)) | (refine wK ?_; try simp only [go_sem]) | (refine wE ?_; try simp only [go_sem]) | refine wX ?_)
      refine wC (hf) ?_
      simp only [go_sem, hn0]
      repeat (first | refine wS ?_ | refine wB ?_ | (refine wR ?_; simp only [go_sem, hn0]) | (refine wT ?_ ?_; focus (simp only [go_sem]; done)) | (refine wF ?_ ?_; focus (simp only [go_sem]; done)) | (refine wK ?_; try simp only [go_sem, hn0]) | (refine wE ?_; try simp only [go_sem, hn0]) | refine wX ?_)
      refine wC (hw) ?_
      simp only [go_sem, hn0]
      repeat (first | refine wS ?_ | refine wB ?_ | (refine wR ?_; simp only [go_sem, hn0]) | (refine wT ?_ ?_; focus (simp only [go_sem]; done)) | (refine wF ?_ ?_; focus (simp only [go_sem]; done)) | (refine wK ?_; try simp only [go_sem, hn0]) | (refine wE ?_; try simp only [go_sem, hn0]) | refine wX ?_)
      exact wRet ⟨rfl, rfl⟩ (hx := by simp only [resV, rvs, rv1, go_sem] <;> rfl) (hle := Le_va Le_e5 Le_e6)
    rw [if_neg e4]
    by_cases e5 : kd = 5
    · subst e5
      rw [if_pos (.inl rfl)]
      have hf2 := fields_c (W0 := W0) ⟨fs'.toArray⟩
      have hs2 : (⟨fs'.toArray⟩ : ByteArray).data.toList = fs' := rfl
      rw [hs2] at hf2
      cases hfe2 : fieldsE fs' with
      | error e =>
        rw [hfe2] at hf2
        refine A_body Tryd.func69 rfl (Nat.le_of_ble_eq_true rfl) ?_
        simp only [go_sem, Tryd.ntmps69, Tryd.results69, mkEnv]
        repeat (first | refine wS ?_ | refine wB ?_ | (refine wR ?_; simp only [go_sem]) | (refine wT ?_ ?_; focus (simp only [go_sem]; done)) | (refine wF ?_ ?_; focus (simp only [go_sem]; done)) | (refine wK ?_; try simp only [go_sem]) | (refine wE ?_; try simp only [go_sem]) | refine wX ?_)
        refine wC (hf) ?_
        simp only [go_sem]
        repeat (first | refine wS ?_ | refine wB ?_ | (refine wR ?_; simp only [go_sem]) | (refine wT ?_ ?_; focus (simp only [go_sem]; done)) | (refine wF ?_ ?_; focus (simp only [go_sem]; done)) | (refine wK ?_; try simp only [go_sem]) | (refine wE ?_; try simp only [go_sem]) | refine wX ?_)
        refine wC (hw) ?_
        simp only [go_sem]
        repeat (first | refine wS ?_ | refine wB ?_ | (refine wR ?_; simp only [go_sem]) | (refine wT ?_ ?_; focus (simp only [go_sem]; done)) | (refine wF ?_ ?_; focus (simp only [go_sem]; done)) | (refine wK ?_; try simp only [go_sem]) | (refine wE ?_; try simp only [go_sem]) | refine wX ?_)
        refine wP (hf2) ?_
        try simp only [go_sem]
        exact wPan ⟨rfl, rfl⟩
      | ok gs =>
        rw [hfe2] at hf2
        obtain ⟨q1, q2, q3⟩ := fieldsE_ok hfe2
        have hall := all_c (W0 := W0) gs 1 2 (by omega)
        have hps : ∀ f ∈ gs.filter (ofF 1 2), Ws.fdOk 65536 f := fun f hf => q3 f (List.mem_filter.1 hf).1
        have hpl : (gs.filter (ofF 1 2)).length ≤ 4096 := Nat.le_trans (List.length_filter_le ..) q2
        simp only
        generalize gs.filter (ofF 1 2) = ps at hall hps hpl ⊢
        obtain ⟨c3, e3⟩ : ∃ c, decide ((ps.length : Int) ≤ 256) = c := ⟨_, rfl⟩
        obtain ⟨c8, e8⟩ : ∃ c, decide ((d : Int) < 8) = c := ⟨_, rfl⟩
        refine A_body Tryd.func69 rfl (Nat.le_of_ble_eq_true rfl) ?_
        simp only [go_sem, Tryd.ntmps69, Tryd.results69, mkEnv]
        repeat (first | refine wS ?_ | refine wB ?_ | (refine wR ?_; simp only [go_sem]) | (refine wT ?_ ?_; focus (simp only [go_sem]; done)) | (refine wF ?_ ?_; focus (simp only [go_sem]; done)) | (refine wK ?_; try simp only [go_sem]) | (refine wE ?_; try simp only [go_sem]) | refine wX ?_)
        refine wC (hf) ?_
        simp only [go_sem, e3, e8]
        repeat (first | refine wS ?_ | refine wB ?_ | (refine wR ?_; simp only [go_sem, e3, e8]) | (refine wT ?_ ?_; focus (simp only [go_sem]; done)) | (refine wF ?_ ?_; focus (simp only [go_sem]; done)) | (refine wK ?_; try simp only [go_sem, e3, e8]) | (refine wE ?_; try simp only [go_sem, e3, e8]) | refine wX ?_)
        refine wC (hw) ?_
        simp only [go_sem, e3, e8]
        repeat (first | refine wS ?_ | refine wB ?_ | (refine wR ?_; simp only [go_sem, e3, e8]) | (refine wT ?_ ?_; focus (simp only [go_sem]; done)) | (refine wF ?_ ?_; focus (simp only [go_sem]; done)) | (refine wK ?_; try simp only [go_sem, e3, e8]) | (refine wE ?_; try simp only [go_sem, e3, e8]) | refine wX ?_)
        refine wC (hf2) ?_
        simp only [go_sem, e3, e8]
        repeat (first | refine wS ?_ | refine wB ?_ | (refine wR ?_; simp only [go_sem, e3, e8]) | (refine wT ?_ ?_; focus (simp only [go_sem]; done)) | (refine wF ?_ ?_; focus (simp only [go_sem]; done)) | (refine wK ?_; try simp only [go_sem, e3, e8]) | (refine wE ?_; try simp only [go_sem, e3, e8]) | refine wX ?_)
        refine wC (hall) ?_
        simp only [go_sem, e3, e8]
        repeat (first | refine wS ?_ | refine wB ?_ | (refine wR ?_; simp only [go_sem, e3, e8]) | (refine wT ?_ ?_; focus (simp only [go_sem]; done)) | (refine wF ?_ ?_; focus (simp only [go_sem]; done)) | (refine wK ?_; try simp only [go_sem, e3, e8]) | (refine wE ?_; try simp only [go_sem, e3, e8]) | refine wX ?_)
        cases c3 with
        | false =>
          have h3' : 256 < ps.length := by simp at e3; omega
          rw [if_pos h3']
          refine wP (must_no 3) ?_
          try simp only [go_sem]
          exact wPan ⟨rfl, rfl⟩
        | true =>
        have h3' : ¬ 256 < ps.length := by simp at e3; omega
        rw [if_neg h3']
        refine wC (must_ok 3) ?_
        simp only [go_sem, e8]
        repeat (first | refine wS ?_ | refine wB ?_ | (refine wR ?_; simp only [go_sem, e8]) | (refine wT ?_ ?_; focus (simp only [go_sem]; done)) | (refine wF ?_ ?_; focus (simp only [go_sem]; done)) | (refine wK ?_; try simp only [go_sem, e8]) | (refine wE ?_; try simp only [go_sem, e8]) | refine wX ?_)
        cases c8 with
        | false =>
          obtain rfl : k = 0 := by simp at e8; omega
          refine wP (must_no 11) ?_
          try simp only [go_sem]
          exact wPan ⟨rfl, rfl⟩
        | true =>
        obtain ⟨k', rfl⟩ : ∃ k', k = k' + 1 := ⟨k - 1, by simp at e8; omega⟩
        have hr' := hr k' rfl
        have hwd : IntKind.i64.wrap ((d : Int) + 1) = ((d + 1 : Nat) : Int) := wrap_succ (by omega)
        simp only [if_true]
        refine wC (must_ok 11) ?_
        simp only [go_sem]
        repeat (first | refine wS ?_ | refine wB ?_ | (refine wR ?_; simp only [go_sem]) | (refine wT ?_ ?_; focus (simp only [go_sem]; done)) | (refine wF ?_ ?_; focus (simp only [go_sem]; done)) | (refine wK ?_; try simp only [go_sem]) | (refine wE ?_; try simp only [go_sem]) | refine wX ?_)
        refine wOpnC 2 5 7 96 ?_
        simp only [go_sem]
        repeat (first | refine wS ?_ | refine wB ?_ | (refine wR ?_; simp only [go_sem]) | (refine wT ?_ ?_; focus (simp only [go_sem]; done)) | (refine wF ?_ ?_; focus (simp only [go_sem]; done)) | (refine wK ?_; try simp only [go_sem]) | (refine wE ?_; try simp only [go_sem]) | refine wX ?_)
        refine wLm (σ := { p : Nat × List V // p.1 ≤ ps.length ∧ seqE ((ps.map fun f => rdV k' f.s).take p.1) = .ok p.2 }) (fun p => ⟨105, ofL [(1, .d (.v (.int .i64 d))), (4, .ptr 0 0), (6, .d (.v (.int .u8 5))), (7, .ptr 2 0), (72, rF ps), (73, .d (.v (.int .i64 ps.length))), (74, .d (.v (.int .i64 (p.1.1 : Nat))))], [.var [.d (.v (.int .u8 0)), .d (.v (.string ByteArray.empty)), .d (.v (.bool false)), .d (.v (.int .i64 0)), .d (.v (.float .f64 0)), .d .e, .d .e], .var [.d (.v (.int .i64 fk)), .d (.v (.int .u8 fw)), .d (.v (.int .u64 fn)), .d (.v (.string ⟨fs'.toArray⟩))], .var [.d (.v (.int .u8 5)), .d (.v (.string ByteArray.empty)), .d (.v (.bool false)), .d (.v (.int .i64 0)), .d (.v (.float .f64 0)), .sl 3 7 0 p.1.2.length, .d .e], .vec 7 96 (p.1.2.map vD)]⟩) (fun p => ps.length - p.1.1) ⟨(0, []), Nat.zero_le _, rfl⟩ wSb ?_
        rintro ⟨⟨i, vs⟩, hi, hvs⟩ R hR
        simp only at hi hvs
        have hvl := seqE_len hvs
        rw [List.length_take, List.length_map, Nat.min_eq_left hi] at hvl
        simp only [go_sem]
        repeat (first | refine wS ?_ | refine wB ?_ | (refine wR ?_; simp only [go_sem]) | (refine wT ?_ ?_; focus (simp only [go_sem]; done)) | (refine wF ?_ ?_; focus (simp only [go_sem]; done)) | (refine wK ?_; try simp only [go_sem]) | (refine wE ?_; try simp only [go_sem]) | refine wX ?_)
        refine wI (fun h => ?_) (fun h => ?_)
        · have hlt : i < ps.length := by simpa using h
          have hlt2 : ((i : Int) < ((ps.length : Nat) : Int)) = True := eq_true (by omega)
          have hw := wrap_succ (i := i) (by omega)
          have hx : (ps.map fD)[i]? = some (fD ps[i]) := by rw [List.getElem?_map, List.getElem?_eq_getElem hlt]; rfl
          have hin : ps[i] ∈ ps := List.getElem_mem hlt
          have hc := hr' ps[i].s (hps _ hin).2.2.2.2
          have hval : (ps.map fun f => rdV k' f.s)[i]? = some (rdV k' ps[i].s) := by rw [List.getElem?_map, List.getElem?_eq_getElem hlt]; rfl
          obtain ⟨hbad, hgood⟩ := seqE_take hval hvs
          generalize ps[i] = x at hx hc hbad hgood
          obtain ⟨xk, xw, xn, xs⟩ := x
          simp only at hc hbad hgood
          repeat (first | refine wS ?_ | refine wB ?_ | (refine wR ?_; simp only [go_sem, hx]) | (refine wT ?_ ?_; focus (simp only [go_sem]; done)) | (refine wF ?_ ?_; focus (simp only [go_sem]; done)) | (refine wK ?_; try simp only [go_sem, hx]) | (refine wE ?_; try simp only [go_sem, hx]) | refine wX ?_)
          generalize rdV k' xs = r at hc hbad hgood
          refine wDI [2, 3, 4, 5] [0, 1] ?_ mixedO (by kernel_rfl)
          simp only [go_sem, hwd]
          repeat (first | refine wS ?_ | refine wB ?_ | (refine wR ?_; simp only [go_sem, hwd]) | (refine wT ?_ ?_; focus (simp only [go_sem]; done)) | (refine wF ?_ ?_; focus (simp only [go_sem]; done)) | (refine wK ?_; try simp only [go_sem, hwd]) | (refine wE ?_; try simp only [go_sem, hwd]) | refine wX ?_)
          cases r with
          | error e =>
            repeat' (first | (refine wDqD 0 6 ?_ ?_ (by decide +kernel)) | (refine wDqD 1 6 ?_ ?_ (by decide +kernel)) | (refine wDDq 6 0 ?_ ?_ (by decide +kernel)) | (refine wDDq 6 1 ?_ ?_ (by decide +kernel)) | (refine wDq 0 ?_ (by decide +kernel)) | (refine wDq 1 ?_ (by decide +kernel)) | (refine wD1 6 ?_ (by decide +kernel)) | (refine wP (hc) ?_; try simp only [go_sem, List.getElem_toArray, List.getElem_cons_succ, List.getElem_cons_zero]) | (simp only [go_sem, List.getElem_toArray, List.getElem_cons_succ, List.getElem_cons_zero]; (try simp only [TQ, true_and])))
            all_goals (refine wPan (x := err e) ⟨?_, rfl⟩; rw [hbad e rfl]; rfl)
          | ok v =>
            have hmap : vs.map vD ++ [vD v] = (vs ++ [v]).map vD := by simp
            simp only [resV1] at hc
            repeat' (first | (refine wDqD 0 6 ?_ ?_ (by decide +kernel)) | (refine wDqD 0 7 ?_ ?_ (by decide +kernel)) | (refine wDqD 1 6 ?_ ?_ (by decide +kernel)) | (refine wDqD 1 7 ?_ ?_ (by decide +kernel)) | (refine wDDq 6 0 ?_ ?_ (by decide +kernel)) | (refine wDDq 7 0 ?_ ?_ (by decide +kernel)) | (refine wDDq 6 1 ?_ ?_ (by decide +kernel)) | (refine wDDq 7 1 ?_ ?_ (by decide +kernel)) | (refine wDD 6 7 ?_ ?_ (by decide +kernel)) | (refine wDq 0 ?_ (by decide +kernel)) | (refine wDq 1 ?_ (by decide +kernel)) | (refine wD1 6 ?_ (by decide +kernel)) | (refine wD1 7 ?_ (by decide +kernel)) | (refine wC (hc) ?_) | (simp only [go_sem, List.getElem_toArray, List.getElem_cons_succ, List.getElem_cons_zero]; (try simp only [TQ, true_and])))
            all_goals
              refine wD1 8 ?_ (by kernel_rfl)
              simp only [go_sem]
              refine wA (vs.map vD) ([vD v]) ?_ (hbound := by simp; omega)
              simp only [go_sem, hmap]
              try simp only [TQ, true_and]
              refine wD1 9 ?_ (by kernel_rfl)
              simp only [go_sem, hmap]
              try simp only [TQ, true_and]
              refine wD1 10 ?_ (by kernel_rfl)
              simp only [go_sem, hmap]
              try simp only [TQ, true_and]
              refine wD0 ?_ (by kernel_rfl)
              try simp only [go_sem, hw]
              repeat (first | refine wS ?_ | refine wB ?_ | (refine wR ?_; simp only [go_sem, hw]) | (refine wT ?_ ?_; focus (simp only [go_sem]; done)) | (refine wF ?_ ?_; focus (simp only [go_sem]; done)) | (refine wK ?_; try simp only [go_sem, hw]) | (refine wE ?_; try simp only [go_sem, hw]) | refine wX ?_)
              exact hR ⟨(i + 1, vs ++ [v]), by omega, hgood v rfl⟩ _ (by simp only; omega) wSb
        · obtain rfl : i = ps.length := by simp at h; omega
          rw [List.take_of_length_le (by rw [List.length_map]; omega)] at hvs
          rw [hvs]
          refine wFz 3 ?_
          simp only [go_sem]
          repeat (first | refine wS ?_ | refine wB ?_ | (refine wR ?_; simp only [go_sem]) | (refine wT ?_ ?_; focus (simp only [go_sem]; done)) | (refine wF ?_ ?_; focus (simp only [go_sem]; done)) | (refine wK ?_; try simp only [go_sem]) | (refine wE ?_; try simp only [go_sem]) | refine wX ?_)
          exact wRet ⟨rfl, rfl⟩ (hx := by simp only [resV, rvs, rv1, go_sem] <;> rfl) (hle := Le_va (Le.refl _) Le_e6)
    by_cases e6 : kd = 6
    · subst e6
      rw [if_pos (.inr rfl)]
      have hf2 := fields_c (W0 := W0) ⟨fs'.toArray⟩
      have hs2 : (⟨fs'.toArray⟩ : ByteArray).data.toList = fs' := rfl
      rw [hs2] at hf2
      cases hfe2 : fieldsE fs' with
      | error e =>
        rw [hfe2] at hf2
        refine A_body Tryd.func69 rfl (Nat.le_of_ble_eq_true rfl) ?_
        simp only [go_sem, Tryd.ntmps69, Tryd.results69, mkEnv]
        repeat (first | refine wS ?_ | refine wB ?_ | (refine wR ?_; simp only [go_sem]) | (refine wT ?_ ?_; focus (simp only [go_sem]; done)) | (refine wF ?_ ?_; focus (simp only [go_sem]; done)) | (refine wK ?_; try simp only [go_sem]) | (refine wE ?_; try simp only [go_sem]) | refine wX ?_)
        refine wC (hf) ?_
        simp only [go_sem]
        repeat (first | refine wS ?_ | refine wB ?_ | (refine wR ?_; simp only [go_sem]) | (refine wT ?_ ?_; focus (simp only [go_sem]; done)) | (refine wF ?_ ?_; focus (simp only [go_sem]; done)) | (refine wK ?_; try simp only [go_sem]) | (refine wE ?_; try simp only [go_sem]) | refine wX ?_)
        refine wC (hw) ?_
        simp only [go_sem]
        repeat (first | refine wS ?_ | refine wB ?_ | (refine wR ?_; simp only [go_sem]) | (refine wT ?_ ?_; focus (simp only [go_sem]; done)) | (refine wF ?_ ?_; focus (simp only [go_sem]; done)) | (refine wK ?_; try simp only [go_sem]) | (refine wE ?_; try simp only [go_sem]) | refine wX ?_)
        refine wP (hf2) ?_
        try simp only [go_sem]
        exact wPan ⟨rfl, rfl⟩
      | ok gs =>
        rw [hfe2] at hf2
        obtain ⟨q1, q2, q3⟩ := fieldsE_ok hfe2
        have hall := all_c (W0 := W0) gs 1 2 (by omega)
        have hps : ∀ f ∈ gs.filter (ofF 1 2), Ws.fdOk 65536 f := fun f hf => q3 f (List.mem_filter.1 hf).1
        have hpl : (gs.filter (ofF 1 2)).length ≤ 4096 := Nat.le_trans (List.length_filter_le ..) q2
        simp only
        generalize gs.filter (ofF 1 2) = ps at hall hps hpl ⊢
        obtain ⟨c3, e3⟩ : ∃ c, decide ((ps.length : Int) ≤ 256) = c := ⟨_, rfl⟩
        obtain ⟨c8, e8⟩ : ∃ c, decide ((d : Int) < 8) = c := ⟨_, rfl⟩
        refine A_body Tryd.func69 rfl (Nat.le_of_ble_eq_true rfl) ?_
        simp only [go_sem, Tryd.ntmps69, Tryd.results69, mkEnv]
        repeat (first | refine wS ?_ | refine wB ?_ | (refine wR ?_; simp only [go_sem]) | (refine wT ?_ ?_; focus (simp only [go_sem]; done)) | (refine wF ?_ ?_; focus (simp only [go_sem]; done)) | (refine wK ?_; try simp only [go_sem]) | (refine wE ?_; try simp only [go_sem]) | refine wX ?_)
        refine wC (hf) ?_
        simp only [go_sem, e3, e8]
        repeat (first | refine wS ?_ | refine wB ?_ | (refine wR ?_; simp only [go_sem, e3, e8]) | (refine wT ?_ ?_; focus (simp only [go_sem]; done)) | (refine wF ?_ ?_; focus (simp only [go_sem]; done)) | (refine wK ?_; try simp only [go_sem, e3, e8]) | (refine wE ?_; try simp only [go_sem, e3, e8]) | refine wX ?_)
        refine wC (hw) ?_
        simp only [go_sem, e3, e8]
        repeat (first | refine wS ?_ | refine wB ?_ | (refine wR ?_; simp only [go_sem, e3, e8]) | (refine wT ?_ ?_; focus (simp only [go_sem]; done)) | (refine wF ?_ ?_; focus (simp only [go_sem]; done)) | (refine wK ?_; try simp only [go_sem, e3, e8]) | (refine wE ?_; try simp only [go_sem, e3, e8]) | refine wX ?_)
        refine wC (hf2) ?_
        simp only [go_sem, e3, e8]
        repeat (first | refine wS ?_ | refine wB ?_ | (refine wR ?_; simp only [go_sem, e3, e8]) | (refine wT ?_ ?_; focus (simp only [go_sem]; done)) | (refine wF ?_ ?_; focus (simp only [go_sem]; done)) | (refine wK ?_; try simp only [go_sem, e3, e8]) | (refine wE ?_; try simp only [go_sem, e3, e8]) | refine wX ?_)
        refine wC (hall) ?_
        simp only [go_sem, e3, e8]
        repeat (first | refine wS ?_ | refine wB ?_ | (refine wR ?_; simp only [go_sem, e3, e8]) | (refine wT ?_ ?_; focus (simp only [go_sem]; done)) | (refine wF ?_ ?_; focus (simp only [go_sem]; done)) | (refine wK ?_; try simp only [go_sem, e3, e8]) | (refine wE ?_; try simp only [go_sem, e3, e8]) | refine wX ?_)
        cases c3 with
        | false =>
          have h3' : 256 < ps.length := by simp at e3; omega
          rw [if_pos h3']
          refine wP (must_no 3) ?_
          try simp only [go_sem]
          exact wPan ⟨rfl, rfl⟩
        | true =>
        have h3' : ¬ 256 < ps.length := by simp at e3; omega
        rw [if_neg h3']
        refine wC (must_ok 3) ?_
        simp only [go_sem, e8]
        repeat (first | refine wS ?_ | refine wB ?_ | (refine wR ?_; simp only [go_sem, e8]) | (refine wT ?_ ?_; focus (simp only [go_sem]; done)) | (refine wF ?_ ?_; focus (simp only [go_sem]; done)) | (refine wK ?_; try simp only [go_sem, e8]) | (refine wE ?_; try simp only [go_sem, e8]) | refine wX ?_)
        cases c8 with
        | false =>
          obtain rfl : k = 0 := by simp at e8; omega
          refine wP (must_no 11) ?_
          try simp only [go_sem]
          exact wPan ⟨rfl, rfl⟩
        | true =>
        obtain ⟨k', rfl⟩ : ∃ k', k = k' + 1 := ⟨k - 1, by simp at e8; omega⟩
        have hr' := hr k' rfl
        have hwd : IntKind.i64.wrap ((d : Int) + 1) = ((d + 1 : Nat) : Int) := wrap_succ (by omega)
        simp only [if_true]
        refine wC (must_ok 11) ?_
        simp only [go_sem]
        repeat (first | refine wS ?_ | refine wB ?_ | (refine wR ?_; simp only [go_sem]) | (refine wT ?_ ?_; focus (simp only [go_sem]; done)) | (refine wF ?_ ?_; focus (simp only [go_sem]; done)) | (refine wK ?_; try simp only [go_sem]) | (refine wE ?_; try simp only [go_sem]) | refine wX ?_)
        refine wOpnC 2 6 8 112 ?_
        simp only [go_sem]
        repeat (first | refine wS ?_ | refine wB ?_ | (refine wR ?_; simp only [go_sem]) | (refine wT ?_ ?_; focus (simp only [go_sem]; done)) | (refine wF ?_ ?_; focus (simp only [go_sem]; done)) | (refine wK ?_; try simp only [go_sem]) | (refine wE ?_; try simp only [go_sem]) | refine wX ?_)
        refine wFz 3 ?_
        simp only [go_sem]
        repeat (first | refine wS ?_ | refine wB ?_ | (refine wR ?_; simp only [go_sem]) | (refine wT ?_ ?_; focus (simp only [go_sem]; done)) | (refine wF ?_ ?_; focus (simp only [go_sem]; done)) | (refine wK ?_; try simp only [go_sem]) | (refine wE ?_; try simp only [go_sem]) | refine wX ?_)
        refine wLm (σ := { p : Nat × List (ByteArray × V) // p.1 ≤ ps.length ∧ seqE ((ps.map fun f => pairR (rdV k') f.s).take p.1) = .ok p.2 }) (fun p => ⟨105, ofL [(1, .d (.v (.int .i64 d))), (4, .ptr 0 0), (6, .d (.v (.int .u8 6))), (7, .ptr 2 0), (72, rF ps), (73, .d (.v (.int .i64 ps.length))), (74, .d (.v (.int .i64 (p.1.1 : Nat))))], [.var [.d (.v (.int .u8 0)), .d (.v (.string ByteArray.empty)), .d (.v (.bool false)), .d (.v (.int .i64 0)), .d (.v (.float .f64 0)), .d .e, .d .e], .var [.d (.v (.int .i64 fk)), .d (.v (.int .u8 fw)), .d (.v (.int .u64 fn)), .d (.v (.string ⟨fs'.toArray⟩))], .var [.d (.v (.int .u8 6)), .d (.v (.string ByteArray.empty)), .d (.v (.bool false)), .d (.v (.int .i64 0)), .d (.v (.float .f64 0)), .d .e, rP (putAll p.1.2)]]⟩) (fun p => ps.length - p.1.1) ⟨(0, []), Nat.zero_le _, rfl⟩ wSb ?_
        rintro ⟨⟨i, vs⟩, hi, hvs⟩ R hR
        simp only at hi hvs
        have hvl := seqE_len hvs
        rw [List.length_take, List.length_map, Nat.min_eq_left hi] at hvl
        have hpl2 := putAll_len vs
        have hpa : ∀ p, putAll (vs ++ [p]) = putV p.1 p.2 (putAll vs) := fun p => by simp only [putAll, List.foldl_append, List.foldl_cons, List.foldl_nil]
        simp only [go_sem]
        repeat (first | refine wS ?_ | refine wB ?_ | (refine wR ?_; simp only [go_sem]) | (refine wT ?_ ?_; focus (simp only [go_sem]; done)) | (refine wF ?_ ?_; focus (simp only [go_sem]; done)) | (refine wK ?_; try simp only [go_sem]) | (refine wE ?_; try simp only [go_sem]) | refine wX ?_)
        refine wI (fun h => ?_) (fun h => ?_)
        · have hlt : i < ps.length := by simpa using h
          have hlt2 : ((i : Int) < ((ps.length : Nat) : Int)) = True := eq_true (by omega)
          have hw := wrap_succ (i := i) (by omega)
          have hx : (ps.map fD)[i]? = some (fD ps[i]) := by rw [List.getElem?_map, List.getElem?_eq_getElem hlt]; rfl
          have hin : ps[i] ∈ ps := List.getElem_mem hlt
          have hc := readPair_of hT k' (d + 1) hr' ps[i].s
          have hval : (ps.map fun f => pairR (rdV k') f.s)[i]? = some (pairR (rdV k') ps[i].s) := by rw [List.getElem?_map, List.getElem?_eq_getElem hlt]; rfl
          obtain ⟨hbad, hgood⟩ := seqE_take hval hvs
          generalize ps[i] = x at hx hc hbad hgood
          obtain ⟨xk, xw, xn, xs⟩ := x
          simp only at hc hbad hgood
          generalize pairR (rdV k') xs = r at hc hbad hgood
          repeat (first | refine wS ?_ | refine wB ?_ | (refine wR ?_; simp only [go_sem, hx, hwd]) | (refine wT ?_ ?_; focus (simp only [go_sem]; done)) | (refine wF ?_ ?_; focus (simp only [go_sem]; done)) | (refine wK ?_; try simp only [go_sem, hx, hwd]) | (refine wE ?_; try simp only [go_sem, hx, hwd]) | refine wX ?_)
          cases r with
          | error e =>
            refine wP (hc) ?_
            try simp only [go_sem]
            refine wPan (x := err e) ⟨?_, rfl⟩
            rw [hbad e rfl]
            rfl
          | ok p =>
            simp only [resP1] at hc
            have hput := put_c (W0 := W0) p.1 p.2 (putAll vs) (by omega)
            rw [← hpa] at hput
            simp only [go_sem, pD, List.map_cons] at hc hput
            refine wC (hc) ?_
            simp only [go_sem, pD, hw]
            repeat (first | refine wS ?_ | refine wB ?_ | (refine wR ?_; simp only [go_sem, pD, hw]) | (refine wT ?_ ?_; focus (simp only [go_sem]; done)) | (refine wF ?_ ?_; focus (simp only [go_sem]; done)) | (refine wK ?_; try simp only [go_sem, pD, hw]) | (refine wE ?_; try simp only [go_sem, pD, hw]) | refine wX ?_)
            refine wC (hput) ?_
            simp only [go_sem, pD, hw]
            repeat (first | refine wS ?_ | refine wB ?_ | (refine wR ?_; simp only [go_sem, pD, hw]) | (refine wT ?_ ?_; focus (simp only [go_sem]; done)) | (refine wF ?_ ?_; focus (simp only [go_sem]; done)) | (refine wK ?_; try simp only [go_sem, pD, hw]) | (refine wE ?_; try simp only [go_sem, pD, hw]) | refine wX ?_)
            exact hR ⟨(i + 1, vs ++ [p]), by omega, hgood p rfl⟩ _ (by simp only; omega) wSb
        · obtain rfl : i = ps.length := by simp at h; omega
          rw [List.take_of_length_le (by rw [List.length_map]; omega)] at hvs
          rw [hvs]
          repeat (first | refine wS ?_ | refine wB ?_ | (refine wR ?_; simp only [go_sem]) | (refine wT ?_ ?_; focus (simp only [go_sem]; done)) | (refine wF ?_ ?_; focus (simp only [go_sem]; done)) | (refine wK ?_; try simp only [go_sem]) | (refine wE ?_; try simp only [go_sem]) | refine wX ?_)
          exact wRet ⟨rfl, rfl⟩ (hx := by simp only [resV, rvs, rv1, go_sem] <;> rfl) (hle := Le_va Le_e5 (Le.refl _))
    rw [if_neg (fun h => h.elim e5 e6)]
    have q1 := kEq kd 1
    have q2 := kEq kd 2
    have q3 := kEq kd 3
    have q4 := kEq kd 4
    have q5 := kEq kd 5
    have q6 := kEq kd 6
    have q7 := kEq kd 7
    simp only [show ((1 : Nat) : Int) = 1 from rfl, show ((2 : Nat) : Int) = 2 from rfl, show ((3 : Nat) : Int) = 3 from rfl, show ((4 : Nat) : Int) = 4 from rfl, show ((5 : Nat) : Int) = 5 from rfl, show ((6 : Nat) : Int) = 6 from rfl, show ((7 : Nat) : Int) = 7 from rfl, e1, e2, e3, e4, e5, e6, e7, decide_false] at q1 q2 q3 q4 q5 q6 q7
    have e0 : kd = 0 := by omega
    subst e0
    refine A_body Tryd.func69 rfl (Nat.le_of_ble_eq_true rfl) ?_
    simp only [go_sem, Tryd.ntmps69, Tryd.results69, mkEnv]
    repeat (first | refine wS ?_ | refine wB ?_ | (refine wR ?_; simp only [go_sem]) | (refine wT ?_ ?_; focus (simp only [go_sem]; done)) | (refine wF ?_ ?_; focus (simp only [go_sem]; done)) | (refine wK ?_; try simp only [go_sem]) | (refine wE ?_; try simp only [go_sem]) | refine wX ?_)
    refine wC (hf) ?_
    simp only [go_sem]
    repeat (first | refine wS ?_ | refine wB ?_ | (refine wR ?_; simp only [go_sem]) | (refine wT ?_ ?_; focus (simp only [go_sem]; done)) | (refine wF ?_ ?_; focus (simp only [go_sem]; done)) | (refine wK ?_; try simp only [go_sem]) | (refine wE ?_; try simp only [go_sem]) | refine wX ?_)
    refine wC (hw) ?_
    simp only [go_sem]
    repeat (first | refine wS ?_ | refine wB ?_ | (refine wR ?_; simp only [go_sem]) | (refine wT ?_ ?_; focus (simp only [go_sem]; done)) | (refine wF ?_ ?_; focus (simp only [go_sem]; done)) | (refine wK ?_; try simp only [go_sem]) | (refine wE ?_; try simp only [go_sem]) | refine wX ?_)
    exact wRet ⟨rfl, rfl⟩ (hx := by simp only [resV, rvs, rv1, go_sem] <;> rfl) (hle := Le_va Le_e5 Le_e6)
end Go.Proofs.YtbgfiflnfndckaaDoor.Lift
end
section
/- The lift: Read, ReadPair of values. No conditions but that utf8's tables lie as they are laid. -/
set_option linter.unusedVariables false
set_option linter.unusedSimpArgs false
set_option maxHeartbeats 4000000
set_option maxRecDepth 100000
namespace Go.Proofs.YtbgfiflnfndckaaDoor.Lift
open Go Go.RowKit

theorem rdV_c {W0 : World} (hT : Tabs W0) : ∀ k d : Nat, d + k = 8 → ∀ s : List UInt8, APure Tryd.prog W0 69 [.d (.v (.string ⟨s.toArray⟩)), .d (.v (.int .i64 d))] (· = resV1 (rdV k s))
  | 0, d, h, s => read_0 hT 0 d h (fun k' e => by cases e) s
  | k + 1, d, h, s => read_0 hT (k + 1) d h (fun k' e s _ => by cases e; exact rdV_c hT k (d + 1) (by omega) s) s
def codeX {α : Type} : Except Nat α → Nat
  | .ok _ => 0
  | .error c => c
def resX {α : Type} : Except Nat α → Res
  | .ok _ => .ret (.tup [])
  | .error c => .panic (err c)
theorem caught_ex {α : Type} {W0 : World} {g : FuncId} {caps : List AV} {L L2 : List Box} {r : Except Nat α} (hg : callable Tryd.prog g = true) (h : ACalls Tryd.prog W0 g caps L (fun x L' => x = resX r ∧ L' = L2)) :
    ACalls Tryd.prog W0 46 [.fn g caps] L (fun x L' => x = .ret (.d (.v (.int .i64 (codeX r : Nat)))) ∧ L' = L2) :=
  Val.A_caught hg h (by
    rintro x L' ⟨rfl, rfl⟩
    cases r with
    | ok t => exact .inl ⟨rfl, rfl, rfl⟩
    | error c => exact .inr ⟨c, rfl, rfl, rfl⟩)
/-- What is answered of a value that is read. -/
def outV : Except Nat V → V
  | .ok v => v
  | .error _ => V0
/-- What a value lies as that may be none. -/
def cellsX : Except Nat V → List AV
  | .ok v => (vD v).map .d
  | .error _ => [.d (.v (.int .u8 0)), .d (.v (.string ByteArray.empty)), .d (.v (.bool false)), .d (.v (.int .i64 0)), .d (.v (.float .f64 0)), .d .e, .d .e]
theorem cellsX_le (r : Except Nat V) : Le (.agg (cellsX r)) (va (outV r)) := by
  cases r with
  | ok v => exact Le.refl _
  | error c => exact va0_le
theorem tup_V0g {c : Nat} {r : Value} : Le (.tup [.agg (cellsX (.error c)), .d (.v r)]) (.tup [va (outV (.error c)), .d (.v r)]) := Le.tup (LeL.cons (cellsX_le (.error c)) (LeL.refl _))
theorem rd1_c {W0 : World} (hT : Tabs W0) (s : ByteArray) : ACalls Tryd.prog W0 68 [.ptr 0 0, .ptr 1 0] [.var [.d (.v (.string s))], .var [.d (.v (.int .u8 0)), .d (.v (.string ByteArray.empty)), .d (.v (.bool false)), .d (.v (.int .i64 0)), .d (.v (.float .f64 0)), .d .e, .d .e]]
    (fun r L' => r = resX (rdV 8 s.data.toList) ∧ L' = [.var [.d (.v (.string s))], .var (cellsX (rdV 8 s.data.toList))]) := by
  have hc := rdV_c hT 8 0 rfl s.data.toList
  rw [bytes_eta] at hc
  generalize rdV 8 s.data.toList = r at hc ⊢
  refine A_body Tryd.func68 rfl (Nat.le_of_ble_eq_true rfl) ?_
  simp only [go_sem, Tryd.ntmps68, Tryd.results68, mkEnv]
  repeat (first | refine wS ?_ | refine wB ?_ | (refine wR ?_; simp only [go_sem]) | (refine wT ?_ ?_; focus (simp only [go_sem]; done)) | (refine wF ?_ ?_; focus (simp only [go_sem]; done)) | (refine wK ?_; try simp only [go_sem]) | (refine wE ?_; try simp only [go_sem]) | refine wX ?_)
  cases r with
  | error e =>
    refine wP (hc) ?_
    try simp only [go_sem]
    exact wPanB _ ⟨rfl, rfl⟩
  | ok v =>
    simp only [resV1] at hc
    refine wC (hc) ?_
    simp only [go_sem]
    repeat (first | refine wS ?_ | refine wB ?_ | (refine wR ?_; simp only [go_sem]) | (refine wT ?_ ?_; focus (simp only [go_sem]; done)) | (refine wF ?_ ?_; focus (simp only [go_sem]; done)) | (refine wK ?_; try simp only [go_sem]) | (refine wE ?_; try simp only [go_sem]) | refine wX ?_)
    exact wRetBN [.var [.d (.v (.string s))], .var ((vD v).map .d)] ⟨rfl, rfl⟩
theorem Read_c {W0 : World} (hT : Tabs W0) (s : ByteArray) : APure Tryd.prog W0 35 [.d (.v (.string s))] (· = .ret (.tup [va (outV (rdV 8 s.data.toList)), .d (.v (.int .i64 (codeX (rdV 8 s.data.toList) : Nat)))])) := by
  have hc := caught_ex (by simp only [go_sem]) (rd1_c hT s)
  generalize rdV 8 s.data.toList = r at hc ⊢
  cases r with
  | error c =>
    simp only [cellsX] at hc
    refine A_body Tryd.func35 rfl (Nat.le_of_ble_eq_true rfl) ?_
    simp only [go_sem, Tryd.ntmps35, Tryd.results35, mkEnv]
    repeat (first | refine wS ?_ | refine wB ?_ | (refine wR ?_; simp only [go_sem]) | (refine wT ?_ ?_; focus (simp only [go_sem]; done)) | (refine wF ?_ ?_; focus (simp only [go_sem]; done)) | (refine wK ?_; try simp only [go_sem]) | (refine wE ?_; try simp only [go_sem]) | refine wX ?_)
    refine wCB [0, 1] (hc) ?_
    simp only [go_sem]
    repeat (first | refine wS ?_ | refine wB ?_ | (refine wR ?_; simp only [go_sem]) | (refine wT ?_ ?_; focus (simp only [go_sem]; done)) | (refine wF ?_ ?_; focus (simp only [go_sem]; done)) | (refine wK ?_; try simp only [go_sem]) | (refine wE ?_; try simp only [go_sem]) | refine wX ?_)
    exact wRet ⟨rfl, rfl⟩ (hx := by simp only [resV, rvs, rv1, go_sem] <;> rfl) (hle := tup_V0g)
  | ok v =>
    simp only [cellsX] at hc
    refine A_body Tryd.func35 rfl (Nat.le_of_ble_eq_true rfl) ?_
    simp only [go_sem, Tryd.ntmps35, Tryd.results35, mkEnv]
    repeat (first | refine wS ?_ | refine wB ?_ | (refine wR ?_; simp only [go_sem]) | (refine wT ?_ ?_; focus (simp only [go_sem]; done)) | (refine wF ?_ ?_; focus (simp only [go_sem]; done)) | (refine wK ?_; try simp only [go_sem]) | (refine wE ?_; try simp only [go_sem]) | refine wX ?_)
    refine wCB [0, 1] (hc) ?_
    simp only [go_sem]
    repeat (first | refine wS ?_ | refine wB ?_ | (refine wR ?_; simp only [go_sem]) | (refine wT ?_ ?_; focus (simp only [go_sem]; done)) | (refine wF ?_ ?_; focus (simp only [go_sem]; done)) | (refine wK ?_; try simp only [go_sem]) | (refine wE ?_; try simp only [go_sem]) | refine wX ?_)
    exact wRet ⟨rfl, rfl⟩ (hx := by simp only [resV, rvs, rv1, go_sem] <;> rfl)
end Go.Proofs.YtbgfiflnfndckaaDoor.Lift
end
section
/- The lift: what is written of a value is read as what it was: plain law. No conditions but what memory holds. -/
set_option linter.unusedVariables false
set_option linter.unusedSimpArgs false
set_option maxHeartbeats 4000000
set_option maxRecDepth 100000
namespace Go.Proofs.YtbgfiflnfndckaaDoor.Lift
open Go Go.RowKit

theorem wrE_ok {l : List Ws.Fd} {t : List UInt8} (hn : ∀ f ∈ l, f.n < 2 ^ 64) (h : wrE l = .ok t) : fieldsE t = .ok l := by
  unfold wrE at h
  split at h
  · rename_i h0
    cases h
    obtain ⟨h1, _⟩ := Ws.read_write l hn (Ws.write l).1 (by rw [← h0])
    unfold fieldsE
    rw [h1]
    rfl
  · cases h
theorem bytes_nil {s : ByteArray} (h : s.toList = ByteArray.empty.toList) : s = ByteArray.empty := by
  rw [ByteArray.toList_eq, ByteArray.toList_eq] at h
  obtain ⟨⟨d⟩⟩ := s
  simp only at h
  subst h
  rfl
theorem bytes_of (s : ByteArray) : (⟨s.data.toList.toArray⟩ : ByteArray) = s := rfl
/-- What a value that is right has beside what its kind has: nothing. -/
theorem okK_eq {k : Nat} {s : ByteArray} {b : Bool} {n : Int} {f : Nat} {l : List V} {m : List (ByteArray × V)} (h : okK k (.mk k s b n f l m) = true) :
    k < 8 ∧ (¬ (k = 1 ∨ k = 7) → s = ByteArray.empty) ∧ (k ≠ 2 → b = false) ∧ (k ≠ 3 → n = 0) ∧ (k ≠ 4 → f = 0) ∧ (k ≠ 5 → l = []) ∧ (k ≠ 6 → m = []) := by
  obtain ⟨p1, p2⟩ := okK_parts h
  unfold okK at h
  simp only [flat, bareV, Bool.and_eq_true, beq_iff_eq, decide_eq_true_eq] at h
  obtain ⟨h0, ⟨⟨⟨⟨⟨_, h1⟩, h2⟩, h3⟩, h4⟩, _⟩, _⟩ := h
  refine ⟨h0, fun e => ?_, fun e => ?_, fun e => ?_, fun e => ?_, p1, p2⟩
  · rw [if_neg e] at h1
    exact bytes_nil h1
  · rwa [if_neg e] at h2
  · rwa [if_neg e] at h3
  · rw [if_neg e] at h4
    omega
theorem chk_parts {k : Nat} {s : ByteArray} {b : Bool} {n : Int} {f : Nat} {l : List V} {m : List (ByteArray × V)} {d : Nat} (h : chk (.mk k s b n f l m) d = 0) :
    okK k (.mk k s b n f l m) = true ∧ s.size ≤ 4096 ∧ (k = 1 → Lib.validD s.data.toList = true) ∧ l.length ≤ 256 ∧ m.length ≤ 256 ∧ ((k = 5 ∨ k = 6) → d < 8) ∧ chkL l (d + 1) = 0 ∧ chkP m (d + 1) = 0 ∧ twice (m.map (·.1)) = false := by
  rw [chk] at h
  by_cases h1 : okK k (.mk k s b n f l m) = false
  · rw [if_pos h1] at h; cases h
  rw [if_neg h1] at h
  by_cases h2 : 4096 < s.size
  · rw [if_pos h2] at h; cases h
  rw [if_neg h2] at h
  by_cases h3 : k = 1 ∧ Lib.validD s.data.toList = false
  · rw [if_pos h3] at h; cases h
  rw [if_neg h3] at h
  by_cases h4 : 256 < l.length ∨ 256 < m.length
  · rw [if_pos h4] at h; cases h
  rw [if_neg h4] at h
  by_cases h5 : (k = 5 ∨ k = 6) ∧ 8 ≤ d
  · rw [if_pos h5] at h; cases h
  rw [if_neg h5] at h
  by_cases h6 : chkL l (d + 1) = 0
  · rw [if_neg (fun c => c h6)] at h
    by_cases h7 : chkP m (d + 1) = 0
    · rw [if_neg (fun c => c h7)] at h
      by_cases h8 : twice (m.map (·.1)) = true
      · rw [if_pos h8] at h; cases h
      · refine ⟨by simpa using h1, by omega, fun e => ?_, by omega, by omega, fun e => ?_, h6, h7, by simpa using h8⟩
        · cases hv : Lib.validD s.data.toList with
          | true => rfl
          | false => exact absurd ⟨e, hv⟩ h3
        · exact Nat.lt_of_not_le fun c => h5 ⟨e, c⟩
    · rw [if_pos h7] at h; exact absurd h h7
  · rw [if_pos h6] at h; exact absurd h h6
theorem which_1 (f : Ws.Fd) (h : kindOf f.k f.w ≠ 0) : whichF [f] = (f, kindOf f.k f.w) := whichF_hit (i := 0) (r := []) rfl (by simp) h
theorem chkL_all {l : List V} {d : Nat} (h : chkL l d = 0) : ∀ x ∈ l, chk x d = 0 := by
  induction l with
  | nil => simp
  | cons x l ih =>
    rw [chkL] at h
    by_cases hx : chk x d = 0
    · rw [if_pos hx] at h
      intro y hy
      rcases List.mem_cons.1 hy with rfl | hy
      · exact hx
      · exact ih h y hy
    · rw [if_neg hx] at h
      exact absurd h hx
theorem chkP_all {m : List (ByteArray × V)} {d : Nat} (h : chkP m d = 0) : ∀ p ∈ m, keyE p.1 = 0 ∧ chk p.2 d = 0 := by
  induction m with
  | nil => simp
  | cons p m ih =>
    obtain ⟨k, x⟩ := p
    rw [chkP] at h
    by_cases hk : keyE k = 0
    · rw [if_pos hk] at h
      by_cases hx : chk x d = 0
      · rw [if_pos hx] at h
        intro q hq
        rcases List.mem_cons.1 hq with rfl | hq
        · exact ⟨hk, hx⟩
        · exact ih h q hq
      · rw [if_neg hx] at h
        exact absurd h hx
    · rw [if_neg hk] at h
      exact absurd h hk
theorem partsE_read {α : Type} (g : α → BE) (rv : List UInt8 → Except Nat α) : ∀ (l : List α) (fs : List Ws.Fd), (∀ x ∈ l, ∀ t, g x = .ok t → rv t = .ok x) → partsE (l.map g) = .ok fs → (∀ f ∈ fs, ofF 1 2 f = true) ∧ seqE (fs.map fun p => rv p.s) = .ok l
  | [], fs, _, h => by
    cases h
    exact ⟨by simp, rfl⟩
  | x :: l, fs, hg, h => by
    rw [List.map_cons] at h
    cases hx : g x with
    | error e => rw [hx] at h; cases h
    | ok t =>
      rw [hx] at h
      simp only [partsE] at h
      cases hp : partsE (l.map g) with
      | error e => rw [hp] at h; cases h
      | ok gs =>
        rw [hp] at h
        cases h
        obtain ⟨h1, h2⟩ := partsE_read g rv l gs (fun y hy => hg y (List.mem_cons_of_mem _ hy)) hp
        refine ⟨fun f hf => ?_, ?_⟩
        · rcases List.mem_cons.1 hf with rfl | hf
          · rfl
          · exact h1 f hf
        · rw [List.map_cons]
          have : rv (bF 1 t).s = .ok x := hg x (List.mem_cons_self ..) t hx
          rw [this]
          simp only [seqE, h2]
theorem boxE_ok {k : Int} {r : Except Nat (List Ws.Fd)} {t : List UInt8} (h : boxE k r = .ok t) : ∃ fs t1, r = .ok fs ∧ wrE fs = .ok t1 ∧ wrE [bF k t1] = .ok t := by
  cases r with
  | error e => cases h
  | ok fs =>
    simp only [boxE] at h
    cases h1 : wrE fs with
    | error e => rw [h1] at h; cases h
    | ok t1 =>
      rw [h1] at h
      exact ⟨fs, t1, rfl, h1, h⟩
theorem twice_keys {m : List (ByteArray × V)} {p : ByteArray × V} (h : twice ((m ++ [p]).map (·.1)) = false) : twice (m.map (·.1)) = false ∧ ∀ q ∈ m, isK p.1 q = false := by
  rw [List.map_append, List.map_cons, List.map_nil, twice_snoc, Bool.or_eq_false_iff] at h
  refine ⟨h.1, fun q hq => ?_⟩
  have := List.any_eq_false.1 h.2 q.1 (List.mem_map_of_mem hq)
  unfold isK
  rw [Bool.eq_false_iff]
  intro e
  rw [beq_iff_eq, ByteArray.toList_eq, ByteArray.toList_eq] at e
  have e2 : q.1 = p.1 := ByteArray.ext (Array.ext' e)
  exact this (by rw [bytes_beq]; simpa using e2)
theorem putAll_id : ∀ m : List (ByteArray × V), twice (m.map (·.1)) = false → putAll m = m := by
  refine snoc_ind (fun _ => rfl) fun m p ih h => ?_
  obtain ⟨h1, h2⟩ := twice_keys h
  have : putAll (m ++ [p]) = putV p.1 p.2 (putAll m) := by simp only [putAll, List.foldl_append, List.foldl_cons, List.foldl_nil]
  rw [this, ih h1]
  have hn : fI (isK p.1) m = none := fI_none (by rw [List.any_eq_false]; intro q hq; rw [h2 q hq]; simp)
  unfold putV
  rw [hn]
theorem rd_pair {k d : Nat} {p : ByteArray × V} {t : List UInt8} (hk : keyE p.1 = 0) (hx : ∀ u, msg p.2 = .ok u → rdV k u = .ok p.2) (h : pairE p.1 p.2 = .ok t) : pairR (rdV k) t = .ok p := by
  obtain ⟨key, x⟩ := p
  simp only at hk hx h
  unfold pairE at h
  cases hm : msg x with
  | error e => rw [hm] at h; cases h
  | ok u =>
    rw [hm] at h
    simp only at h
    have hf := wrE_ok (by
      intro f hf
      rcases List.mem_append.1 hf with hf | hf
      · split at hf
        · cases hf
        · rw [List.mem_singleton] at hf; subst hf; simp [bF]
      · split at hf
        · cases hf
        · rw [List.mem_singleton] at hf; subst hf; simp [bF]) h
    have hu := hx u hm
    have hz : x.kind = 0 → u = [] := fun e => by
      obtain ⟨k', s, b, n, f, l, m⟩ := x
      simp only [V.kind] at e
      subst e
      rw [msg] at hm
      simpa using hm.symm
    have hkz : key.size = 0 → key.data.toList = [] := fun e => List.eq_nil_of_length_eq_zero (by simpa using e)
    have o11 : ofF 1 2 (bF 1 key.data.toList) = true := rfl
    have o12 : ofF 2 2 (bF 1 key.data.toList) = false := rfl
    have o21 : ofF 1 2 (bF 2 u) = false := rfl
    have o22 : ofF 2 2 (bF 2 u) = true := rfl
    have e1 : ((lastF ((if key.size = 0 then [] else [bF 1 key.data.toList]) ++ (if x.kind = 0 then [] else [bF 2 u])) 1 2).getD F0).s = key.data.toList := by
      unfold lastF
      by_cases h0 : key.size = 0
      · rw [if_pos h0, hkz h0]
        by_cases h1 : x.kind = 0
        · rw [if_pos h1]; rfl
        · rw [if_neg h1]; simp only [List.cons_append, List.nil_append, List.append_nil, List.filter_cons, List.filter_nil, o11, o12, o21, o22, if_true, if_false, Bool.false_eq_true]; rfl
      · rw [if_neg h0]
        by_cases h1 : x.kind = 0
        · rw [if_pos h1]; simp only [List.cons_append, List.nil_append, List.append_nil, List.filter_cons, List.filter_nil, o11, o12, o21, o22, if_true, if_false, Bool.false_eq_true]; rfl
        · rw [if_neg h1]; simp only [List.cons_append, List.nil_append, List.append_nil, List.filter_cons, List.filter_nil, o11, o12, o21, o22, if_true, if_false, Bool.false_eq_true]; rfl
    have e2 : ((lastF ((if key.size = 0 then [] else [bF 1 key.data.toList]) ++ (if x.kind = 0 then [] else [bF 2 u])) 2 2).getD F0).s = u := by
      unfold lastF
      by_cases h1 : x.kind = 0
      · rw [if_pos h1, hz h1]
        by_cases h0 : key.size = 0
        · rw [if_pos h0]; rfl
        · rw [if_neg h0]; simp only [List.cons_append, List.nil_append, List.append_nil, List.filter_cons, List.filter_nil, o11, o12, o21, o22, if_true, if_false, Bool.false_eq_true]; rfl
      · rw [if_neg h1]
        by_cases h0 : key.size = 0
        · rw [if_pos h0]; simp only [List.cons_append, List.nil_append, List.append_nil, List.filter_cons, List.filter_nil, o11, o12, o21, o22, if_true, if_false, Bool.false_eq_true]; rfl
        · rw [if_neg h0]; simp only [List.cons_append, List.nil_append, List.append_nil, List.filter_cons, List.filter_nil, o11, o12, o21, o22, if_true, if_false, Bool.false_eq_true]; rfl
    unfold pairR
    rw [hf]
    simp only [e1, e2, hu]
    rw [if_pos (by exact hk)]
theorem rd_msg : ∀ x : V, okV x → ∀ d k : Nat, d + k = 8 → chk x d = 0 → ∀ t, msg x = .ok t → rdV k t = .ok x := by
  refine V.ind (p := fun x => okV x → ∀ d k : Nat, d + k = 8 → chk x d = 0 → ∀ t, msg x = .ok t → rdV k t = .ok x) ?_
  intro kk s b n f l m hl hm hok d k hdk hc t ht
  obtain ⟨c1, c2, c3, c4, c5, c6, c7, c8, c9⟩ := chk_parts hc
  obtain ⟨z0, z1, z2, z3, z4, z5, z6⟩ := okK_eq c1
  cases hok with
  | mk _ _ _ _ _ _ _ hkk hs hn hff hl0 hm0 hL hM hM' =>
  have hsl : s.data.toList.length = s.size := by simp
  rw [msg] at ht
  rw [rdV]
  by_cases k1 : kk = 1
  · subst k1
    rw [if_pos rfl] at ht
    rw [wrE_ok (by simp [bF]) ht]
    simp only
    rw [which_1 _ (show kindOf 1 2 ≠ 0 by decide), z2 (by decide), z3 (by decide), z4 (by decide), z5 (by decide), z6 (by decide)]
    have e : kindOf (bF 1 s.data.toList).k (bF 1 s.data.toList).w = 1 := rfl
    have e' : (bF 1 s.data.toList).s = s.data.toList := rfl
    simp only [e, e', hsl, if_neg (Nat.not_lt.2 c2), c3 rfl]
    simp [bytes_of]
  rw [if_neg k1] at ht
  by_cases k7 : kk = 7
  · subst k7
    rw [if_pos rfl] at ht
    rw [wrE_ok (by simp [bF]) ht]
    simp only
    rw [which_1 _ (show kindOf 7 2 ≠ 0 by decide), z2 (by decide), z3 (by decide), z4 (by decide), z5 (by decide), z6 (by decide)]
    have e : kindOf (bF 7 s.data.toList).k (bF 7 s.data.toList).w = 7 := rfl
    have e' : (bF 7 s.data.toList).s = s.data.toList := rfl
    simp only [e, e', hsl, if_neg (Nat.not_lt.2 c2)]
    simp [bytes_of]
  rw [if_neg k7] at ht
  have zs := z1 (fun h => h.elim k1 k7)
  subst zs
  by_cases k2 : kk = 2
  · subst k2
    rw [if_pos rfl] at ht
    rw [wrE_ok (by intro g hg; rw [List.mem_singleton] at hg; subst hg; cases b <;> simp) ht]
    simp only
    rw [which_1 _ (show kindOf 2 0 ≠ 0 by decide), z3 (by decide), z4 (by decide), z5 (by decide), z6 (by decide)]
    have e : kindOf 2 0 = 2 := rfl
    simp only [e]
    cases b <;> simp
  rw [if_neg k2] at ht
  have zb := z2 k2
  subst zb
  by_cases k3 : kk = 3
  · subst k3
    rw [if_pos rfl] at ht
    obtain ⟨hu, hu2⟩ := u64_wrap n
    rw [wrE_ok (by simpa using hu2) ht]
    simp only
    rw [which_1 _ (show kindOf 3 0 ≠ 0 by decide), z4 (by decide), z5 (by decide), z6 (by decide)]
    have e : kindOf 3 0 = 3 := rfl
    have hw : IntKind.i64.wrap (u64 n) = n := by
      rw [← hu, IntKind.wrap_u64, IntKind.wrap_i64]
      omega
    simp only [e, hw]
    simp
  rw [if_neg k3] at ht
  have zn := z3 k3
  subst zn
  by_cases k4 : kk = 4
  · subst k4
    rw [if_pos rfl] at ht
    rw [wrE_ok (by simpa using hff) ht]
    simp only
    rw [which_1 _ (show kindOf 4 1 ≠ 0 by decide), z5 (by decide), z6 (by decide)]
    have e : kindOf 4 1 = 4 := rfl
    simp only [e]
    simp
  rw [if_neg k4] at ht
  have zf := z4 k4
  subst zf
  by_cases k5 : kk = 5
  · subst k5
    rw [if_pos rfl, msgL_map] at ht
    obtain ⟨fs, t1, h1, h2, h3⟩ := boxE_ok ht
    obtain ⟨hlen, hlt⟩ := partsE_all h1
    rw [wrE_ok (by simp [bF]) h3]
    simp only
    rw [which_1 _ (show kindOf 5 2 ≠ 0 by decide), z6 (by decide)]
    have e : kindOf (bF 5 t1).k (bF 5 t1).w = 5 := rfl
    have e' : (bF 5 t1).s = t1 := rfl
    have hd := c6 (.inl rfl)
    obtain ⟨k', rfl⟩ : ∃ k', k = k' + 1 := ⟨k - 1, by omega⟩
    obtain ⟨g1, g2⟩ := partsE_read msg (rdV k') l fs (fun x hx t ht => hl x hx (hL x hx) (d + 1) k' (by omega) (chkL_all c7 x hx) t ht) h1
    rw [List.length_map] at hlen
    have hfil : fs.filter (ofF 1 2) = fs := List.filter_eq_self.2 g1
    simp only [e, e', wrE_ok hlt h2, hfil, g2, hlen, if_neg (Nat.not_lt.2 c4)]
    simp
  rw [if_neg k5] at ht
  have zl := z5 k5
  subst zl
  by_cases k6 : kk = 6
  · subst k6
    rw [if_pos rfl, msgP_map] at ht
    obtain ⟨fs, t1, h1, h2, h3⟩ := boxE_ok ht
    obtain ⟨hlen, hlt⟩ := partsE_all h1
    rw [wrE_ok (by simp [bF]) h3]
    simp only
    rw [which_1 _ (show kindOf 6 2 ≠ 0 by decide)]
    have e : kindOf (bF 6 t1).k (bF 6 t1).w = 6 := rfl
    have e' : (bF 6 t1).s = t1 := rfl
    have hd := c6 (.inr rfl)
    obtain ⟨k', rfl⟩ : ∃ k', k = k' + 1 := ⟨k - 1, by omega⟩
    obtain ⟨g1, g2⟩ := partsE_read (fun p => pairE p.1 p.2) (pairR (rdV k')) m fs (fun p hp t ht => rd_pair (d := d) (chkP_all c8 p hp).1 (fun u hu => hm p hp (hM' p hp) (d + 1) k' (by omega) (chkP_all c8 p hp).2 u hu) ht) h1
    rw [List.length_map] at hlen
    have hfil : fs.filter (ofF 1 2) = fs := List.filter_eq_self.2 g1
    simp only [e, e', wrE_ok hlt h2, hfil, g2, hlen, if_neg (Nat.not_lt.2 c5)]
    simp [putAll_id m c9]
  rw [if_neg k6] at ht
  have k0 : kk = 0 := by omega
  subst k0
  have zm := z6 k6
  subst zm
  cases ht
  rw [wrE_ok (l := []) (t := []) (by simp) rfl]
  rfl
end Go.Proofs.YtbgfiflnfndckaaDoor.Lift
end
section
/- The lift: ValueBack, ValueNested: what is written is read as what it was; a list of a value is right just if the value is. No conditions but what memory holds, and that utf8's tables lie as they are laid. -/
set_option linter.unusedVariables false
set_option linter.unusedSimpArgs false
set_option maxHeartbeats 4000000
set_option maxRecDepth 100000
namespace Go.Proofs.YtbgfiflnfndckaaDoor.Lift
open Go Go.RowKit

theorem vwr_ok {x : V} {t : List UInt8} (h : vwr x = .ok t) : chk x 0 = 0 ∧ msg x = .ok t := by
  unfold vwr at h
  split at h
  · exact ⟨by assumption, h⟩
  · cases h
theorem nz {c : Nat} (h : c ≠ 0) : ((c : Int) != 0) = true := by
  rw [bne_iff_ne]
  omega
theorem chk_list (x : V) : chk (.mk 5 ByteArray.empty false 0 0 [x] []) 0 = if chk x 1 = 0 then 0 else chk x 1 := by
  rw [chk]
  have h1 : okK 5 (.mk 5 ByteArray.empty false 0 0 [x] []) = true := by
    unfold okK
    simp [flat, bareV]
  rw [if_neg (by rw [h1]; decide), if_neg (by decide), if_neg (by simp), if_neg (by simp), if_neg (by simp)]
  simp only [chkL, chkP, List.map_nil, twice]
  by_cases h : chk x 1 = 0 <;> simp [h]
def lstV (x : V) : V := .mk 5 ByteArray.empty false 0 0 [x] []
theorem lst_le (x : V) : Le (.agg [.d (.v (.int .u8 5)), .d (.v (.string ByteArray.empty)), .d (.v (.bool false)), .d (.v (.int .i64 0)), .d (.v (.float .f64 0)), .d (.rows 7 96 [vD x]), .d .e]) (va (lstV x)) := Le_va (k := 5) (l := [x]) (Le.refl _) Le_e6
theorem okV_lst {x : V} (hx : okV x) : okV (lstV x) := .mk _ _ _ _ _ _ _ (by decide) (by decide) (by decide) (by decide) (by simp) (by simp) (by simpa using hx) (by simp) (by simp)
/-- A level less around a value that is right. -/
theorem chk_deep : ∀ x : V, ∀ d : Nat, chk x d ≠ 0 → chk x (d + 1) ≠ 0 := by
  refine V.ind ?_
  intro k s b n f l m hl hm d h h2
  apply h
  obtain ⟨c1, c2, c3, c4, c5, c6, c7, c8, c9⟩ := chk_parts h2
  rw [chk, if_neg (by rw [c1]; decide), if_neg (by omega), if_neg (by rintro ⟨e1, e2⟩; rw [c3 e1] at e2; cases e2), if_neg (by omega), if_neg (by rintro ⟨e1, e2⟩; have := c6 e1; omega)]
  have e7 : chkL l (d + 1) = 0 := by
    have a := chkL_all c7
    have b : ∀ x ∈ l, chk x (d + 1) = 0 := fun x hx => Decidable.byContradiction fun hc => hl x hx (d + 1) hc (a x hx)
    clear a c7 hl c4 c1 h h2
    induction l with
    | nil => rfl
    | cons y l ih => rw [chkL, if_pos (b y (List.mem_cons_self ..))]; exact ih fun x hx => b x (List.mem_cons_of_mem _ hx)
  have e8 : chkP m (d + 1) = 0 := by
    have a := chkP_all c8
    have b : ∀ p ∈ m, keyE p.1 = 0 ∧ chk p.2 (d + 1) = 0 := fun p hp => ⟨(a p hp).1, Decidable.byContradiction fun hc => hm p hp (d + 1) hc (a p hp).2⟩
    clear a c8 hm c5 c1 h h2 c9
    induction m with
    | nil => rfl
    | cons y m ih =>
      obtain ⟨k, y⟩ := y
      rw [chkP, if_pos (b _ (List.mem_cons_self ..)).1, if_pos (b _ (List.mem_cons_self ..)).2]; exact ih fun x hx => b x (List.mem_cons_of_mem _ hx)
  rw [e7, e8, c9]
  rfl
/-- Of a value that is right, what is not right one level deeper is its depth. -/
theorem chk_depth : ∀ x : V, ∀ d : Nat, chk x d = 0 → chk x (d + 1) ≠ 0 → chk x (d + 1) = 11 := by
  refine V.ind ?_
  intro k s b n f l m hl hm d h h2
  obtain ⟨c1, c2, c3, c4, c5, c6, c7, c8, c9⟩ := chk_parts h
  rw [chk, if_neg (by rw [c1]; decide), if_neg (by omega), if_neg (by rintro ⟨e1, e2⟩; rw [c3 e1] at e2; cases e2), if_neg (by omega)] at h2 ⊢
  by_cases e : (k = 5 ∨ k = 6) ∧ 8 ≤ d + 1
  · rw [if_pos e]
  rw [if_neg e] at h2 ⊢
  have e7 : chkL l (d + 1 + 1) = 0 ∨ chkL l (d + 1 + 1) = 11 := by
    have a := chkL_all c7
    clear c7 c4 c1 h h2
    induction l with
    | nil => exact .inl rfl
    | cons y l ih =>
      rw [chkL]
      by_cases hy : chk y (d + 1 + 1) = 0
      · rw [if_pos hy]
        exact ih (fun x hx => hl x (List.mem_cons_of_mem _ hx)) fun x hx => a x (List.mem_cons_of_mem _ hx)
      · rw [if_neg hy]
        exact .inr (hl y (List.mem_cons_self ..) (d + 1) (a y (List.mem_cons_self ..)) hy)
  have e8 : chkP m (d + 1 + 1) = 0 ∨ chkP m (d + 1 + 1) = 11 := by
    have a := chkP_all c8
    clear c8 c5 c1 h h2 c9
    induction m with
    | nil => exact .inl rfl
    | cons y m ih =>
      obtain ⟨k, y⟩ := y
      have a0 := a _ (List.mem_cons_self ..)
      rw [chkP, if_pos a0.1]
      by_cases hy : chk y (d + 1 + 1) = 0
      · rw [if_pos hy]
        exact ih (fun x hx => hm x (List.mem_cons_of_mem _ hx)) fun x hx => a x (List.mem_cons_of_mem _ hx)
      · rw [if_neg hy]
        exact .inr (hm _ (List.mem_cons_self ..) (d + 1) a0.2 hy)
  rcases e7 with e7 | e7
  · rcases e8 with e8 | e8
    · rw [e7, e8, c9] at h2
      exact absurd rfl h2
    · rw [e7, e8]
      rfl
  · rw [e7]
    rfl
theorem may_bF {k : Int} {t : List UInt8} (h1 : 1 ≤ k) (h2 : k ≤ 536870911) (h : t.length ≤ 65536) : Ws.may (bF k t) = true := by
  simp [Ws.may, bF, h1, h2, h]
theorem wrE_4 {l : List Ws.Fd} {c : Nat} (hl : l.length ≤ 4096) (hm : l.all Ws.may = true) (h : wrE l = .error c) : c = 4 := by
  have e : Ws.write l = if 65536 < (Ws.bytes l).length then ([], 4) else (Ws.bytes l, 0) := by
    unfold Ws.write
    rw [if_neg (Nat.not_lt.2 hl), if_pos hm]
  unfold wrE at h
  rw [e] at h
  by_cases hb : 65536 < (Ws.bytes l).length
  · simp only [if_pos hb] at h
    cases h
    rfl
  · simp only [if_neg hb, if_true] at h
    cases h
theorem wrE_len {l : List Ws.Fd} {t : List UInt8} (h : wrE l = .ok t) : t.length ≤ 65536 := by
  unfold wrE at h
  split at h
  · rename_i h0
    cases h
    obtain ⟨_, _, e, h1⟩ := Ws.write_ok (l := l) (s := (Ws.write l).1) (by rw [← h0])
    rw [e]
    exact h1
  · cases h
theorem partsE_may {l : List BE} {fs : List Ws.Fd} (hl : ∀ r ∈ l, ∀ t, r = .ok t → t.length ≤ 65536) (h : partsE l = .ok fs) : fs.all Ws.may = true := by
  induction l generalizing fs with
  | nil => cases h; rfl
  | cons r l ih =>
    cases r with
    | error e => cases h
    | ok t =>
      simp only [partsE] at h
      cases hp : partsE l with
      | error e => rw [hp] at h; cases h
      | ok gs =>
        rw [hp] at h
        cases h
        rw [List.all_cons, may_bF (by decide) (by decide) (hl _ (List.mem_cons_self ..) t rfl), ih (fun r hr => hl r (List.mem_cons_of_mem _ hr)) hp]
        rfl
theorem partsE_4 {l : List BE} {c : Nat} (hl : ∀ r ∈ l, ∀ c, r = .error c → c = 4) (h : partsE l = .error c) : c = 4 := by
  induction l with
  | nil => cases h
  | cons r l ih =>
    cases r with
    | error e => cases h; exact hl _ (List.mem_cons_self ..) _ rfl
    | ok t =>
      simp only [partsE] at h
      cases hp : partsE l with
      | ok fs => rw [hp] at h; cases h
      | error e =>
        rw [hp] at h
        cases h
        exact ih (fun r hr => hl r (List.mem_cons_of_mem _ hr)) hp
theorem boxE_4 {k : Int} {l : List BE} {c : Nat} (hk1 : 1 ≤ k) (hk2 : k ≤ 536870911) (hn : l.length ≤ 256) (hl : ∀ r ∈ l, ∀ c, r = .error c → c = 4) (hl2 : ∀ r ∈ l, ∀ t, r = .ok t → t.length ≤ 65536) (h : boxE k (partsE l) = .error c) : c = 4 := by
  cases hp : partsE l with
  | error e => rw [hp] at h; cases h; exact partsE_4 hl hp
  | ok fs =>
    rw [hp] at h
    simp only [boxE] at h
    cases h1 : wrE fs with
    | error e =>
      rw [h1] at h
      cases h
      exact wrE_4 (by rw [(partsE_all hp).1]; omega) (partsE_may hl2 hp) h1
    | ok t =>
      rw [h1] at h
      exact wrE_4 (by simp) (by rw [List.all_cons, may_bF hk1 hk2 (wrE_len h1)]; rfl) h
theorem boxE_len {k : Int} {r : Except Nat (List Ws.Fd)} {t : List UInt8} (h : boxE k r = .ok t) : t.length ≤ 65536 := by
  obtain ⟨_, _, _, _, h⟩ := boxE_ok h
  exact wrE_len h
theorem pairE_len {key : ByteArray} {x : V} {t : List UInt8} (h : pairE key x = .ok t) : t.length ≤ 65536 := by
  unfold pairE at h
  cases hm : msg x with
  | error e => rw [hm] at h; cases h
  | ok u => rw [hm] at h; exact wrE_len h
theorem msg_len : ∀ x : V, ∀ t, msg x = .ok t → t.length ≤ 65536
  | .mk k s b n f l m, t, h => by
    rw [msg] at h
    repeat' split at h
    all_goals first | exact wrE_len h | exact boxE_len h | (cases h; simp)
theorem pairE_4 {key : ByteArray} {x : V} {c : Nat} (hk : key.size ≤ 4096) (hx : ∀ c, msg x = .error c → c = 4) (h : pairE key x = .error c) : c = 4 := by
  unfold pairE at h
  cases hm : msg x with
  | error e => rw [hm] at h; cases h; exact hx _ hm
  | ok u =>
    rw [hm] at h
    have hu := msg_len x u hm
    have m1 := may_bF (k := 1) (t := key.data.toList) (by decide) (by decide) (by simp; omega)
    have m2 := may_bF (k := 2) (t := u) (by decide) (by decide) hu
    refine wrE_4 ?_ ?_ h
    · split <;> split <;> simp
    · rw [List.all_append, Bool.and_eq_true]
      constructor
      · split
        · rfl
        · rw [List.all_cons, m1]; rfl
      · split
        · rfl
        · rw [List.all_cons, m2]; rfl
theorem keyE_len {key : ByteArray} (h : keyE key = 0) : key.size ≤ 4096 := by
  unfold keyE at h
  split at h
  · cases h
  · omega
/-- What is right is too long, or can be written. -/
theorem msg_4 : ∀ x : V, okV x → ∀ d, chk x d = 0 → ∀ c, msg x = .error c → c = 4 := by
  refine V.ind ?_
  intro k s b n f l m hl hm hok d hc c h
  obtain ⟨c1, c2, c3, c4, c5, c6, c7, c8, c9⟩ := chk_parts hc
  have hok2 := okP_in hok
  have hf : f < 2 ^ 64 := by cases hok; assumption
  rw [msg] at h
  have hs : s.data.toList.length ≤ 65536 := by simp; omega
  split at h
  · exact wrE_4 (by simp) (by rw [List.all_cons, may_bF (by decide) (by decide) hs]; rfl) h
  split at h
  · exact wrE_4 (by simp) (by rw [List.all_cons, may_bF (by decide) (by decide) hs]; rfl) h
  split at h
  · exact wrE_4 (by simp) (by cases b <;> simp [Ws.may]) h
  split at h
  · exact wrE_4 (by simp) (by simp [Ws.may]) h
  split at h
  · exact wrE_4 (by simp) (by simp [Ws.may]) h
  split at h
  · rw [msgL_map] at h
    refine boxE_4 (by decide) (by decide) (by simpa using c4) (fun r hr c hc => ?_) (fun r hr t ht => ?_) h
    · obtain ⟨x, hx, rfl⟩ := List.mem_map.1 hr
      exact hl x hx (hok2.2.2.1 x hx) _ (chkL_all c7 x hx) c hc
    · obtain ⟨x, hx, rfl⟩ := List.mem_map.1 hr
      exact msg_len x t ht
  split at h
  · rw [msgP_map] at h
    refine boxE_4 (by decide) (by decide) (by simpa using c5) (fun r hr c hc => ?_) (fun r hr t ht => ?_) h
    · obtain ⟨p, hp, rfl⟩ := List.mem_map.1 hr
      exact pairE_4 (keyE_len (chkP_all c8 p hp).1) (hm p hp (hok2.2.2.2.2 p hp).2 _ (chkP_all c8 p hp).2) hc
    · obtain ⟨p, hp, rfl⟩ := List.mem_map.1 hr
      exact pairE_len ht
  · cases h
theorem vwr_4 {x : V} (hx : okV x) (h0 : chk x 0 = 0) {c : Nat} (h : vwr x = .error c) : c = 4 := by
  unfold vwr at h
  rw [if_pos h0] at h
  exact msg_4 x hx 0 h0 c h
theorem nested_c {W0 : World} (hT : Tabs W0) (hlives : APure Tryd.prog W0 12 [] (· = .ret (.d (.v (.bool true))))) (x : V) (hx : okV x) :
    APure Tryd.prog W0 10 [va x] (· = .ret (.d (.v (.bool true)))) := by
  have hL := okV_lst hx
  have c1 := Check_c (W0 := W0) hT x hx
  have c2 := (Check_c (W0 := W0) hT (lstV x) hL).le (LeL.cons (lst_le x) .nil)
  have cw := (Write_c (W0 := W0) hT (lstV x) hL).le (LeL.cons (lst_le x) .nil)
  have hl := chk_list x
  have e0 : chk (lstV x) 0 = chk x 1 := by
    unfold lstV
    rw [hl]
    by_cases h : chk x 1 = 0 <;> simp [h]
  rw [e0] at c2
  by_cases h0 : chk x 0 = 0
  · rw [h0] at c1
    by_cases h1 : chk x 1 = 0
    · rw [h1] at c2
      cases hr : vwr (lstV x) with
      | error c =>
        obtain rfl := vwr_4 hL (by rw [e0, h1]) hr
        rw [hr] at cw
        simp only [outE, codeE] at cw
        have hrd := Read_c (W0 := W0) hT ⟨([] : List UInt8).toArray⟩
        rw [show (⟨([] : List UInt8).toArray⟩ : ByteArray).data.toList = [] from rfl] at hrd
        generalize rdV 8 [] = y at hrd
        refine A_body Tryd.func10 rfl (Nat.le_of_ble_eq_true rfl) ?_
        simp only [go_sem, Tryd.ntmps10, Tryd.results10, mkEnv, va]
        repeat (first | refine wS ?_ | refine wB ?_ | (refine wR ?_; simp only [go_sem, va]) | (refine wT ?_ ?_; focus (simp only [go_sem]; done)) | (refine wF ?_ ?_; focus (simp only [go_sem]; done)) | (refine wK ?_; try simp only [go_sem, va]) | (refine wE ?_; try simp only [go_sem, va]) | refine wX ?_)
        refine wC (hlives) ?_
        simp only [go_sem]
        repeat (first | refine wS ?_ | refine wB ?_ | (refine wR ?_; simp only [go_sem]) | (refine wT ?_ ?_; focus (simp only [go_sem]; done)) | (refine wF ?_ ?_; focus (simp only [go_sem]; done)) | (refine wK ?_; try simp only [go_sem]) | (refine wE ?_; try simp only [go_sem]) | refine wX ?_)
        refine wFz 1 ?_
        simp only [go_sem]
        repeat (first | refine wS ?_ | refine wB ?_ | (refine wR ?_; simp only [go_sem]) | (refine wT ?_ ?_; focus (simp only [go_sem]; done)) | (refine wF ?_ ?_; focus (simp only [go_sem]; done)) | (refine wK ?_; try simp only [go_sem]) | (refine wE ?_; try simp only [go_sem]) | refine wX ?_)
        refine wQ ?_ mixedO (by kernel_rfl)
        simp only [go_sem]
        repeat (first | refine wS ?_ | refine wB ?_ | (refine wR ?_; simp only [go_sem]) | (refine wT ?_ ?_; focus (simp only [go_sem]; done)) | (refine wF ?_ ?_; focus (simp only [go_sem]; done)) | (refine wK ?_; try simp only [go_sem]) | (refine wE ?_; try simp only [go_sem]) | refine wX ?_)
        refine wQC (c1) ?_
        simp only [go_sem]
        repeat (first | refine wS ?_ | refine wB ?_ | (refine wR ?_; simp only [go_sem]) | (refine wT ?_ ?_; focus (simp only [go_sem]; done)) | (refine wF ?_ ?_; focus (simp only [go_sem]; done)) | (refine wK ?_; try simp only [go_sem]) | (refine wE ?_; try simp only [go_sem]) | refine wX ?_)
        refine wQC (c2) ?_
        simp only [go_sem]
        repeat (first | refine wS ?_ | refine wB ?_ | (refine wR ?_; simp only [go_sem]) | (refine wT ?_ ?_; focus (simp only [go_sem]; done)) | (refine wF ?_ ?_; focus (simp only [go_sem]; done)) | (refine wK ?_; try simp only [go_sem]) | (refine wE ?_; try simp only [go_sem]) | refine wX ?_)
        refine wC (cw) ?_
        simp only [go_sem]
        repeat (first | refine wS ?_ | refine wB ?_ | (refine wR ?_; simp only [go_sem]) | (refine wT ?_ ?_; focus (simp only [go_sem]; done)) | (refine wF ?_ ?_; focus (simp only [go_sem]; done)) | (refine wK ?_; try simp only [go_sem]) | (refine wE ?_; try simp only [go_sem]) | refine wX ?_)
        refine wC (hrd) ?_
        simp only [go_sem]
        repeat (first | refine wS ?_ | refine wB ?_ | (refine wR ?_; simp only [go_sem]) | (refine wT ?_ ?_; focus (simp only [go_sem]; done)) | (refine wF ?_ ?_; focus (simp only [go_sem]; done)) | (refine wK ?_; try simp only [go_sem]) | (refine wE ?_; try simp only [go_sem]) | refine wX ?_)
        refine wCGn (.d (.v (.bool true))) ?_
        simp only [go_sem]
        repeat (first | refine wS ?_ | refine wB ?_ | (refine wR ?_; simp only [go_sem]) | (refine wT ?_ ?_; focus (simp only [go_sem]; done)) | (refine wF ?_ ?_; focus (simp only [go_sem]; done)) | (refine wK ?_; try simp only [go_sem]) | (refine wE ?_; try simp only [go_sem]) | refine wX ?_)
        exact wRq
      | ok t =>
        rw [hr] at cw
        simp only [outE, codeE] at cw
        obtain ⟨hc, hm⟩ := vwr_ok hr
        have hrd := Read_c (W0 := W0) hT ⟨t.toArray⟩
        rw [show (⟨t.toArray⟩ : ByteArray).data.toList = t from rfl, rd_msg (lstV x) hL 0 8 rfl hc t hm] at hrd
        simp only [outV, codeX] at hrd
        have hs := (rsame_c (W0 := W0) (lstV x)).le (LeL.cons (Le.refl _) (LeL.cons (lst_le x) .nil))
        refine A_body Tryd.func10 rfl (Nat.le_of_ble_eq_true rfl) ?_
        simp only [go_sem, Tryd.ntmps10, Tryd.results10, mkEnv, va]
        repeat (first | refine wS ?_ | refine wB ?_ | (refine wR ?_; simp only [go_sem, va]) | (refine wT ?_ ?_; focus (simp only [go_sem]; done)) | (refine wF ?_ ?_; focus (simp only [go_sem]; done)) | (refine wK ?_; try simp only [go_sem, va]) | (refine wE ?_; try simp only [go_sem, va]) | refine wX ?_)
        refine wC (hlives) ?_
        simp only [go_sem]
        repeat (first | refine wS ?_ | refine wB ?_ | (refine wR ?_; simp only [go_sem]) | (refine wT ?_ ?_; focus (simp only [go_sem]; done)) | (refine wF ?_ ?_; focus (simp only [go_sem]; done)) | (refine wK ?_; try simp only [go_sem]) | (refine wE ?_; try simp only [go_sem]) | refine wX ?_)
        refine wFz 1 ?_
        simp only [go_sem]
        repeat (first | refine wS ?_ | refine wB ?_ | (refine wR ?_; simp only [go_sem]) | (refine wT ?_ ?_; focus (simp only [go_sem]; done)) | (refine wF ?_ ?_; focus (simp only [go_sem]; done)) | (refine wK ?_; try simp only [go_sem]) | (refine wE ?_; try simp only [go_sem]) | refine wX ?_)
        refine wQ ?_ mixedO (by kernel_rfl)
        simp only [go_sem]
        repeat (first | refine wS ?_ | refine wB ?_ | (refine wR ?_; simp only [go_sem]) | (refine wT ?_ ?_; focus (simp only [go_sem]; done)) | (refine wF ?_ ?_; focus (simp only [go_sem]; done)) | (refine wK ?_; try simp only [go_sem]) | (refine wE ?_; try simp only [go_sem]) | refine wX ?_)
        refine wQC (c1) ?_
        simp only [go_sem]
        repeat (first | refine wS ?_ | refine wB ?_ | (refine wR ?_; simp only [go_sem]) | (refine wT ?_ ?_; focus (simp only [go_sem]; done)) | (refine wF ?_ ?_; focus (simp only [go_sem]; done)) | (refine wK ?_; try simp only [go_sem]) | (refine wE ?_; try simp only [go_sem]) | refine wX ?_)
        refine wQC (c2) ?_
        simp only [go_sem]
        repeat (first | refine wS ?_ | refine wB ?_ | (refine wR ?_; simp only [go_sem]) | (refine wT ?_ ?_; focus (simp only [go_sem]; done)) | (refine wF ?_ ?_; focus (simp only [go_sem]; done)) | (refine wK ?_; try simp only [go_sem]) | (refine wE ?_; try simp only [go_sem]) | refine wX ?_)
        refine wC (cw) ?_
        simp only [go_sem]
        repeat (first | refine wS ?_ | refine wB ?_ | (refine wR ?_; simp only [go_sem]) | (refine wT ?_ ?_; focus (simp only [go_sem]; done)) | (refine wF ?_ ?_; focus (simp only [go_sem]; done)) | (refine wK ?_; try simp only [go_sem]) | (refine wE ?_; try simp only [go_sem]) | refine wX ?_)
        refine wC (hrd) ?_
        simp only [go_sem]
        repeat (first | refine wS ?_ | refine wB ?_ | (refine wR ?_; simp only [go_sem]) | (refine wT ?_ ?_; focus (simp only [go_sem]; done)) | (refine wF ?_ ?_; focus (simp only [go_sem]; done)) | (refine wK ?_; try simp only [go_sem]) | (refine wE ?_; try simp only [go_sem]) | refine wX ?_)
        refine wCGx (fun hh => hs) ?_
        simp only [go_sem]
        repeat (first | refine wS ?_ | refine wB ?_ | (refine wR ?_; simp only [go_sem]) | (refine wT ?_ ?_; focus (simp only [go_sem]; done)) | (refine wF ?_ ?_; focus (simp only [go_sem]; done)) | (refine wK ?_; try simp only [go_sem]) | (refine wE ?_; try simp only [go_sem]) | refine wX ?_)
        exact wRq
    · have h11 := chk_depth x 0 h0 h1
      rw [h11] at c2
      refine A_body Tryd.func10 rfl (Nat.le_of_ble_eq_true rfl) ?_
      simp only [go_sem, Tryd.ntmps10, Tryd.results10, mkEnv, va]
      repeat (first | refine wS ?_ | refine wB ?_ | (refine wR ?_; simp only [go_sem, va]) | (refine wT ?_ ?_; focus (simp only [go_sem]; done)) | (refine wF ?_ ?_; focus (simp only [go_sem]; done)) | (refine wK ?_; try simp only [go_sem, va]) | (refine wE ?_; try simp only [go_sem, va]) | refine wX ?_)
      refine wC (hlives) ?_
      simp only [go_sem]
      repeat (first | refine wS ?_ | refine wB ?_ | (refine wR ?_; simp only [go_sem]) | (refine wT ?_ ?_; focus (simp only [go_sem]; done)) | (refine wF ?_ ?_; focus (simp only [go_sem]; done)) | (refine wK ?_; try simp only [go_sem]) | (refine wE ?_; try simp only [go_sem]) | refine wX ?_)
      refine wFz 1 ?_
      simp only [go_sem]
      repeat (first | refine wS ?_ | refine wB ?_ | (refine wR ?_; simp only [go_sem]) | (refine wT ?_ ?_; focus (simp only [go_sem]; done)) | (refine wF ?_ ?_; focus (simp only [go_sem]; done)) | (refine wK ?_; try simp only [go_sem]) | (refine wE ?_; try simp only [go_sem]) | refine wX ?_)
      refine wQ ?_ mixedO (by kernel_rfl)
      simp only [go_sem]
      repeat (first | refine wS ?_ | refine wB ?_ | (refine wR ?_; simp only [go_sem]) | (refine wT ?_ ?_; focus (simp only [go_sem]; done)) | (refine wF ?_ ?_; focus (simp only [go_sem]; done)) | (refine wK ?_; try simp only [go_sem]) | (refine wE ?_; try simp only [go_sem]) | refine wX ?_)
      refine wQC (c1) ?_
      simp only [go_sem]
      repeat (first | refine wS ?_ | refine wB ?_ | (refine wR ?_; simp only [go_sem]) | (refine wT ?_ ?_; focus (simp only [go_sem]; done)) | (refine wF ?_ ?_; focus (simp only [go_sem]; done)) | (refine wK ?_; try simp only [go_sem]) | (refine wE ?_; try simp only [go_sem]) | refine wX ?_)
      refine wQC (c2) ?_
      simp only [go_sem]
      repeat (first | refine wS ?_ | refine wB ?_ | (refine wR ?_; simp only [go_sem]) | (refine wT ?_ ?_; focus (simp only [go_sem]; done)) | (refine wF ?_ ?_; focus (simp only [go_sem]; done)) | (refine wK ?_; try simp only [go_sem]) | (refine wE ?_; try simp only [go_sem]) | refine wX ?_)
      exact wRq
  · have h1 := chk_deep x 0 h0
    have n0 := nz h0
    have n1 := nz h1
    refine A_body Tryd.func10 rfl (Nat.le_of_ble_eq_true rfl) ?_
    simp only [go_sem, Tryd.ntmps10, Tryd.results10, mkEnv, va]
    repeat (first | refine wS ?_ | refine wB ?_ | (refine wR ?_; simp only [go_sem, va]) | (refine wT ?_ ?_; focus (simp only [go_sem]; done)) | (refine wF ?_ ?_; focus (simp only [go_sem]; done)) | (refine wK ?_; try simp only [go_sem, va]) | (refine wE ?_; try simp only [go_sem, va]) | refine wX ?_)
    refine wC (hlives) ?_
    simp only [go_sem]
    repeat (first | refine wS ?_ | refine wB ?_ | (refine wR ?_; simp only [go_sem]) | (refine wT ?_ ?_; focus (simp only [go_sem]; done)) | (refine wF ?_ ?_; focus (simp only [go_sem]; done)) | (refine wK ?_; try simp only [go_sem]) | (refine wE ?_; try simp only [go_sem]) | refine wX ?_)
    refine wFz 1 ?_
    simp only [go_sem]
    repeat (first | refine wS ?_ | refine wB ?_ | (refine wR ?_; simp only [go_sem]) | (refine wT ?_ ?_; focus (simp only [go_sem]; done)) | (refine wF ?_ ?_; focus (simp only [go_sem]; done)) | (refine wK ?_; try simp only [go_sem]) | (refine wE ?_; try simp only [go_sem]) | refine wX ?_)
    refine wQ ?_ mixedO (by kernel_rfl)
    simp only [go_sem]
    repeat (first | refine wS ?_ | refine wB ?_ | (refine wR ?_; simp only [go_sem]) | (refine wT ?_ ?_; focus (simp only [go_sem]; done)) | (refine wF ?_ ?_; focus (simp only [go_sem]; done)) | (refine wK ?_; try simp only [go_sem]) | (refine wE ?_; try simp only [go_sem]) | refine wX ?_)
    refine wQC (c1) ?_
    simp only [go_sem, n0, n1]
    repeat (first | refine wS ?_ | refine wB ?_ | (refine wR ?_; simp only [go_sem, n0, n1]) | (refine wT ?_ ?_; focus (simp only [go_sem]; done)) | (refine wF ?_ ?_; focus (simp only [go_sem]; done)) | (refine wK ?_; try simp only [go_sem, n0, n1]) | (refine wE ?_; try simp only [go_sem, n0, n1]) | refine wX ?_)
    refine wQC (c2) ?_
    simp only [go_sem, n0, n1]
    repeat (first | refine wS ?_ | refine wB ?_ | (refine wR ?_; simp only [go_sem, n0, n1]) | (refine wT ?_ ?_; focus (simp only [go_sem]; done)) | (refine wF ?_ ?_; focus (simp only [go_sem]; done)) | (refine wK ?_; try simp only [go_sem, n0, n1]) | (refine wE ?_; try simp only [go_sem, n0, n1]) | refine wX ?_)
    exact wRq
end Go.Proofs.YtbgfiflnfndckaaDoor.Lift
end
section
/- The walks of ValueBack and ValueNested, out of the lift. No conditions but that the arguments lie in memory, and that utf8's tables lie as they are laid. -/
set_option linter.unusedVariables false
set_option linter.unusedSimpArgs false
set_option maxHeartbeats 4000000
set_option maxRecDepth 100000
namespace Go.Proofs.YtbgfiflnfndckaaDoor.Lift
open Go Go.RowKit

theorem nested_walk {w : World} (hT : Tabs w) {ds0 : List D} {us0 : Array Value} (ty0 : TyD Tryd.prog 27 ds0) (rd0 : Dts w ds0 us0.toList) :
    Calls Tryd.prog 10 #[.agg us0] w fun e w' => e = .returned (.bool true) ∧ Below w.heap.size w w' := by
  obtain ⟨v, rfl, hv⟩ := ty_V ty0
  refine (nested_c (W0 := w) hT (lives_c hT) v hv).calls ?_
  simp only [RAs, va, and_true]
  exact ra_agg rd0
end Go.Proofs.YtbgfiflnfndckaaDoor.Lift
end
