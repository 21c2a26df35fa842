/- A row's values and pairs, opened with all that they hold. No conditions. -/
import Derived.Test.YtbgfiflnfndckaaDoorOv
import Derived.Test.YtbgfiflnfndckaaDoorLrd
import Derived.SizedLaws
set_option linter.unusedVariables false
set_option linter.unusedSimpArgs false
namespace Go.Proofs.YtbgfiflnfndckaaDoor
open Go.RowKit Go.Proofs.YtbgfiflnfndckaaDoorW.PrintWords Go.ChangeShapes Go.WideShapes Go.Deep Go.Joins

section
variable {H : Type} {enc : TypeId × Value → H} {w : World} {base : Nat} {spare : Nat → Bool} {held : Bool}
/-- No more than a machine holds. -/
def Fits (t : TypeId) (d : DataW H) : Prop := ∀ n ∈ DataW.weights Tryd.prog t d, n ≤ 140737488351232
theorem fits_field {t : TypeId} {fs : Array Field} {parts : List (DataW H)} (hu : Tryd.prog.underlying t = some (.struct fs)) (h : Fits t (.agg parts)) {j : Nat} {u : TypeId} {d : DataW H} (ht : (fs.toList.map (·.type))[j]? = some u) (hd : parts[j]? = some d) : Fits u d := fun n hn => by
  refine h n ?_
  unfold DataW.weights
  rw [hu]
  exact DataW.weights_mem_each ht hd n hn
theorem fits_all {e : TypeId} : ∀ {l : List (DataW H)} {i : Nat} {d : DataW H}, l[i]? = some d → ∀ n ∈ DataW.weights Tryd.prog e d, n ∈ DataW.weightsAll Tryd.prog e l
  | d0 :: l, 0, d, hd, n, hn => by
    simp only [List.getElem?_cons_zero, Option.some.injEq] at hd
    subst hd
    simp only [DataW.weightsAll, List.mem_append]
    exact .inl hn
  | d0 :: l, i + 1, d, hd, n, hn => by
    simp only [List.getElem?_cons_succ] at hd
    simp only [DataW.weightsAll, List.mem_append]
    exact .inr (fits_all hd n hn)
  | [], _, _, hd, _, _ => by simp at hd
theorem fits_elem {t e : TypeId} {elems sp : List (DataW H)} (hu : Tryd.prog.underlying t = some (.slice e)) (h : Fits t (.slice elems sp)) {i : Nat} {d : DataW H} (hd : elems[i]? = some d) : Fits e d := fun n hn => by
  refine h n ?_
  unfold DataW.weights
  rw [hu]
  simp only [List.mem_cons, List.mem_append]
  exact .inr (.inl (fits_all hd n hn))
theorem fits_len {t e : TypeId} {elems sp : List (DataW H)} (hu : Tryd.prog.underlying t = some (.slice e)) (h : Fits t (.slice elems sp)) : elems.length * Tryd.prog.bytesOf e ≤ 140737488351232 := by
  have := h ((elems.length + sp.length) * Tryd.prog.bytesOf e) (by unfold DataW.weights; rw [hu]; simp)
  exact Nat.le_trans (Nat.mul_le_mul_right _ (Nat.le_add_right _ _)) this
theorem bytesV : Tryd.prog.bytesOf 27 = 96 := by kernel_rfl
theorem bytesP : Tryd.prog.bytesOf 50 = 112 := by kernel_rfl
theorem cellsOfV : Tryd.prog.cellsOf 27 = 7 := by kernel_rfl
theorem cellsOfP : Tryd.prog.cellsOf 50 = 8 := by kernel_rfl

theorem at_of_cells {a : Addr} {n : Nat} {cs : List Value} (h : w.cells? base a n = some cs) : At w a cs.toArray := fun j u hj => by
  obtain ⟨_, hlen, hc⟩ := World.cells?_some h
  have hj' : cs[j]? = some u := by simpa using hj
  have hlt : j < cs.length := (List.getElem?_eq_some_iff.1 hj').1
  rw [hc j (by omega), hj']

set_option maxRecDepth 100000 in
theorem open_pair {m : Nat} {cs : List Value} {y : DataW H × List MemPlace} (h : DataW.trod enc Tryd.prog w base spare held m 50 cs = some y) :
    ∃ (k : ByteArray) (cs' : List Value) (n : Nat) (y' : DataW H × List MemPlace), cs = .string k :: cs' ∧ m = n + 1 ∧ DataW.trod enc Tryd.prog w base spare held n 27 cs' = some y' ∧ y.1 = .agg [.lit (.string k.data.toList), y'.1] := by
  obtain ⟨xs, n, rfl, rfl, hl, hlen, hf⟩ := DataW.trod_struct Tryd.underlying50 h
  have hl8 : cs.length = 8 := hl.trans (by kernel_rfl)
  match cs, hl8 with
  | c0 :: cs', hl' =>
  have hl7 : cs'.length = 7 := by simpa using hl'
  match xs, hlen with
  | [y0, y1], _ =>
  have k0 : Tryd.prog.cellsOf 9 = 1 := by kernel_rfl
  have h0 : DataW.trod enc Tryd.prog w base spare held n 9 [c0] = some y0 := by
    have h := hf 0 _ rfl
    change DataW.trod enc Tryd.prog w base spare held n 9 (((c0 :: cs').drop 0).take (Tryd.prog.cellsOf 9)) = some y0 at h
    rw [k0] at h
    exact h
  have h1 : DataW.trod enc Tryd.prog w base spare held n 27 cs' = some y1 := by
    have h := hf 1 _ rfl
    change DataW.trod enc Tryd.prog w base spare held n 27 (((c0 :: cs').drop 1).take (Tryd.prog.cellsOf 27)) = some y1 at h
    rw [cellsOfV] at h
    rw [show ((c0 :: cs').drop 1).take 7 = cs' from by rw [List.drop_succ_cons, List.drop_zero, List.take_of_length_le (by omega)]] at h
    exact h
  obtain ⟨s, e1, z1, ws⟩ := DataW.trod_string Tryd.underlying9 h0
  simp only [List.cons.injEq, and_true] at e1
  subst e1 z1
  exact ⟨s, cs', n, y1, rfl, rfl, h1, rfl⟩

set_option maxRecDepth 100000 in
/-- A value, with all that it holds. -/
theorem open_vt : ∀ (fuel : Nat) (cs : List Value) (y : DataW H × List MemPlace), DataW.trod enc Tryd.prog w base spare held fuel 27 cs = some y → Fits 27 y.1 → ∃ V, Rd w V cs.toArray := by
  intro fuel
  induction fuel using Nat.strongRecOn with
  | ind fuel ih =>
    intro cs y h hfit
    obtain ⟨x, A, la, ca, B, lb, cb, n, y5, y6, rfl, hF, rfl, h5, h6, rfl⟩ := open_sc h
    have f5 : Fits 24 y5.1 := fits_field Tryd.underlying27 hfit (j := 5) rfl rfl
    have f6 : Fits 25 y6.1 := fits_field Tryd.underlying27 hfit (j := 6) rfl rfl
    have L : ∃ (l : List Vs.V) (Cs : Nat → Array Value), l.length = la ∧ la * 96 ≤ 140737488351232 ∧ la ≤ ca ∧ (∀ i, i < la → ∃ a, A = some a ∧ At w (a.add (i * 7)) (Cs i)) ∧ ∀ i v, l[i]? = some v → Rd w v (Cs i) := by
      rcases DataW.trod_slice Tryd.underlying24 h5 with ⟨hcs, _⟩ | ⟨a, len, cap, elems, rest, n', hn, hcs, rfl, hb, hle, hcap, hlen, hel, _, _⟩
      · simp only [List.cons.injEq, and_true, Value.slice.injEq] at hcs
        obtain ⟨rfl, rfl, rfl⟩ := hcs
        exact ⟨[], fun _ => #[], rfl, by decide, Nat.le_refl _, fun i hi => absurd hi (by omega), fun i v hv => by simp at hv⟩
      · simp only [List.cons.injEq, and_true, Value.slice.injEq] at hcs
        obtain ⟨rfl, rfl, rfl⟩ := hcs
        have hsz := fits_len Tryd.underlying24 f5
        rw [bytesV, List.length_map, hlen] at hsz
        have each : ∀ i, ∃ p : Array Value × Vs.V, i < la → At w (a.add (i * 7)) p.1 ∧ Rd w p.2 p.1 := fun i => by
          by_cases hi : i < la
          · have h7 := hel i hi
            rw [cellsOfV] at h7
            have hie : i < elems.length := by omega
            rw [List.getElem?_eq_getElem hie, Option.bind_eq_some_iff] at h7
            obtain ⟨cs', h8, h9⟩ := h7
            obtain ⟨V, hV⟩ := ih n' (by omega) cs' _ h9 (fits_elem Tryd.underlying24 f5 (i := i) (by rw [List.getElem?_map, List.getElem?_eq_getElem hie]; rfl))
            exact ⟨(cs'.toArray, V), fun _ => ⟨at_of_cells h8, hV⟩⟩
          · exact ⟨(#[], .mk ⟨0, ⟨#[]⟩, false, 0, 0⟩ [] []), fun h => absurd h hi⟩
        obtain ⟨F, hF'⟩ := Classical.skolem.1 each
        refine ⟨(List.range la).map fun i => (F i).2, fun i => (F i).1, by simp, hsz, (by omega), fun i hi => ⟨a, rfl, (hF' i hi).1⟩, fun i v hv => ?_⟩
        rw [List.getElem?_map, Option.map_eq_some_iff] at hv
        obtain ⟨i', hi', rfl⟩ := hv
        have hlt : i < la := by
          have := (List.getElem?_eq_some_iff.1 hi').1
          simpa using this
        rw [List.getElem?_range hlt] at hi'
        cases hi'
        exact (hF' i hlt).2
    have M : ∃ (m : List (ByteArray × Vs.V)) (Ds : Nat → Array Value), m.length = lb ∧ lb * 112 ≤ 140737488351232 ∧ lb ≤ cb ∧
        (∀ i p, m[i]? = some p → ∃ b, B = some b ∧ w.cell? (b.add (i * 8)) = some (.string p.1) ∧ p.1.size ≤ 140737488351232 ∧ At w ((b.add (i * 8)).add 1) (Ds i)) ∧ ∀ i p, m[i]? = some p → Rd w p.2 (Ds i) := by
      rcases DataW.trod_slice Tryd.underlying25 h6 with ⟨hcs, _⟩ | ⟨a, len, cap, elems, rest, n', hn, hcs, rfl, hb, hle, hcap, hlen, hel, _, _⟩
      · simp only [List.cons.injEq, and_true, Value.slice.injEq] at hcs
        obtain ⟨rfl, rfl, rfl⟩ := hcs
        exact ⟨[], fun _ => #[], rfl, by decide, Nat.le_refl _, fun i p hp => by simp at hp, fun i v hv => by simp at hv⟩
      · simp only [List.cons.injEq, and_true, Value.slice.injEq] at hcs
        obtain ⟨rfl, rfl, rfl⟩ := hcs
        have hsz := fits_len Tryd.underlying25 f6
        rw [bytesP, List.length_map, hlen] at hsz
        have each : ∀ i, ∃ p : Array Value × ByteArray × Vs.V, i < lb → w.cell? (a.add (i * 8)) = some (.string p.2.1) ∧ p.2.1.size ≤ 140737488351232 ∧ At w ((a.add (i * 8)).add 1) p.1 ∧ Rd w p.2.2 p.1 := fun i => by
          by_cases hi : i < lb
          · have h7 := hel i hi
            rw [cellsOfP] at h7
            have hie : i < elems.length := by omega
            rw [List.getElem?_eq_getElem hie, Option.bind_eq_some_iff] at h7
            obtain ⟨cs', h8, h9⟩ := h7
            obtain ⟨k, cs'', n'', y', rfl, rfl, h10, h11⟩ := open_pair h9
            have fP : Fits 50 elems[i].1 := fits_elem Tryd.underlying25 f6 (i := i) (by rw [List.getElem?_map, List.getElem?_eq_getElem hie]; rfl)
            rw [h11] at fP
            have fK : Fits 9 (.lit (.string k.data.toList)) := fits_field Tryd.underlying50 fP (j := 0) rfl rfl
            have fV : Fits 27 y'.1 := fits_field Tryd.underlying50 fP (j := 1) rfl rfl
            obtain ⟨V, hV⟩ := ih n'' (by omega) cs'' _ h10 fV
            have ha := at_of_cells h8
            refine ⟨(cs''.toArray, k, V), fun _ => ⟨?_, ?_, fun j u hj => ?_, hV⟩⟩
            · have := ha 0 _ (by simp; rfl)
              rwa [Go.Deep.add_add, Nat.add_zero] at this
            · have := fK k.data.toList.length (by unfold DataW.weights; simp)
              rwa [Array.length_toList] at this
            · rw [Go.Deep.add_add]
              exact ha (1 + j) u (by have h12 : cs''[j]? = some u := by simpa using hj
                                     rw [Nat.add_comm]; simpa using h12)
          · exact ⟨(#[], ⟨#[]⟩, .mk ⟨0, ⟨#[]⟩, false, 0, 0⟩ [] []), fun h => absurd h hi⟩
        obtain ⟨F, hF'⟩ := Classical.skolem.1 each
        have hget : ∀ i p, ((List.range lb).map fun i => (F i).2)[i]? = some p → i < lb ∧ p = (F i).2 := fun i p hp => by
          rw [List.getElem?_map, Option.map_eq_some_iff] at hp
          obtain ⟨i', hi', rfl⟩ := hp
          have hlt : i < lb := by
            have := (List.getElem?_eq_some_iff.1 hi').1
            simpa using this
          rw [List.getElem?_range hlt] at hi'
          cases hi'
          exact ⟨hlt, rfl⟩
        refine ⟨(List.range lb).map fun i => (F i).2, fun i => (F i).1, by simp, hsz, (by omega), fun i p hp => ?_, fun i p hp => ?_⟩
        · obtain ⟨hlt, rfl⟩ := hget i p hp
          exact ⟨a, rfl, (hF' i hlt).1, (hF' i hlt).2.1, (hF' i hlt).2.2.1⟩
        · obtain ⟨hlt, rfl⟩ := hget i p hp
          exact (hF' i hlt).2.2.2
    obtain ⟨l, Cs, rfl, hl, hca, hA, hCs⟩ := L
    obtain ⟨m, Ds, rfl, hm, hcb, hB, hDs⟩ := M
    exact ⟨.mk x l m, .mk x l m A ca B cb Cs Ds hF hl hm hca hcb hA hCs hB hDs⟩
set_option maxRecDepth 100000 in
/-- A row of pairs, with all that they hold. -/
theorem open_pt {n : Nat} {B : Option Addr} {lb cb : Nat} {y6 : DataW H × List MemPlace} (h6 : DataW.trod enc Tryd.prog w base spare held n 25 [.slice B lb cb] = some y6) (f6 : Fits 25 y6.1) :
    ∃ (m : List (ByteArray × Vs.V)) (Ds : Nat → Array Value), m.length = lb ∧ lb * 112 ≤ 140737488351232 ∧ lb ≤ cb ∧
        (∀ i p, m[i]? = some p → ∃ b, B = some b ∧ w.cell? (b.add (i * 8)) = some (.string p.1) ∧ p.1.size ≤ 140737488351232 ∧ At w ((b.add (i * 8)).add 1) (Ds i)) ∧ ∀ i p, m[i]? = some p → Rd w p.2 (Ds i) := by
  rcases DataW.trod_slice Tryd.underlying25 h6 with ⟨hcs, _⟩ | ⟨a, len, cap, elems, rest, n', hn, hcs, rfl, hb, hle, hcap, hlen, hel, _, _⟩
  · simp only [List.cons.injEq, and_true, Value.slice.injEq] at hcs
    obtain ⟨rfl, rfl, rfl⟩ := hcs
    exact ⟨[], fun _ => #[], rfl, by decide, Nat.le_refl _, fun i p hp => by simp at hp, fun i v hv => by simp at hv⟩
  · simp only [List.cons.injEq, and_true, Value.slice.injEq] at hcs
    obtain ⟨rfl, rfl, rfl⟩ := hcs
    have hsz := fits_len Tryd.underlying25 f6
    rw [bytesP, List.length_map, hlen] at hsz
    have each : ∀ i, ∃ p : Array Value × ByteArray × Vs.V, i < lb → w.cell? (a.add (i * 8)) = some (.string p.2.1) ∧ p.2.1.size ≤ 140737488351232 ∧ At w ((a.add (i * 8)).add 1) p.1 ∧ Rd w p.2.2 p.1 := fun i => by
      by_cases hi : i < lb
      · have h7 := hel i hi
        rw [cellsOfP] at h7
        have hie : i < elems.length := by omega
        rw [List.getElem?_eq_getElem hie, Option.bind_eq_some_iff] at h7
        obtain ⟨cs', h8, h9⟩ := h7
        obtain ⟨k, cs'', n'', y', rfl, rfl, h10, h11⟩ := open_pair h9
        have fP : Fits 50 elems[i].1 := fits_elem Tryd.underlying25 f6 (i := i) (by rw [List.getElem?_map, List.getElem?_eq_getElem hie]; rfl)
        rw [h11] at fP
        have fK : Fits 9 (.lit (.string k.data.toList)) := fits_field Tryd.underlying50 fP (j := 0) rfl rfl
        have fV : Fits 27 y'.1 := fits_field Tryd.underlying50 fP (j := 1) rfl rfl
        obtain ⟨V, hV⟩ := open_vt n'' cs'' _ h10 fV
        have ha := at_of_cells h8
        refine ⟨(cs''.toArray, k, V), fun _ => ⟨?_, ?_, fun j u hj => ?_, hV⟩⟩
        · have := ha 0 _ (by simp; rfl)
          rwa [Go.Deep.add_add, Nat.add_zero] at this
        · have := fK k.data.toList.length (by unfold DataW.weights; simp)
          rwa [Array.length_toList] at this
        · rw [Go.Deep.add_add]
          exact ha (1 + j) u (by have h12 : cs''[j]? = some u := by simpa using hj
                                 rw [Nat.add_comm]; simpa using h12)
      · exact ⟨(#[], ⟨#[]⟩, .mk ⟨0, ⟨#[]⟩, false, 0, 0⟩ [] []), fun h => absurd h hi⟩
    obtain ⟨F, hF'⟩ := Classical.skolem.1 each
    have hget : ∀ i p, ((List.range lb).map fun i => (F i).2)[i]? = some p → i < lb ∧ p = (F i).2 := fun i p hp => by
      rw [List.getElem?_map, Option.map_eq_some_iff] at hp
      obtain ⟨i', hi', rfl⟩ := hp
      have hlt : i < lb := by
        have := (List.getElem?_eq_some_iff.1 hi').1
        simpa using this
      rw [List.getElem?_range hlt] at hi'
      cases hi'
      exact ⟨hlt, rfl⟩
    refine ⟨(List.range lb).map fun i => (F i).2, fun i => (F i).1, by simp, hsz, (by omega), fun i p hp => ?_, fun i p hp => ?_⟩
    · obtain ⟨hlt, rfl⟩ := hget i p hp
      exact ⟨a, rfl, (hF' i hlt).1, (hF' i hlt).2.1, (hF' i hlt).2.2.1⟩
    · obtain ⟨hlt, rfl⟩ := hget i p hp
      exact (hF' i hlt).2.2.2

set_option maxRecDepth 100000 in
/-- A value by value; pairs. -/
theorem open_vtv {r : Reach} {b0 : Nat} {v : Value} {d : DataW H} {p : List MemPlace} (hv : Value.okWide Tryd.prog w r b0 27 v) (h : DataW.Trod enc Tryd.prog w base spare held 27 v d p) (hf : Fits 27 d) :
    ∃ (V : Vs.V) (cs : Array Value), v = .agg cs ∧ Rd w V cs := by
  obtain ⟨cs, rfl, hsz⟩ := okWide_struct Tryd.underlying27 hv
  obtain ⟨fuel, hfu⟩ := h
  obtain ⟨V, hV⟩ := open_vt fuel _ _ hfu hf
  simp only [Value.cells] at hV
  exact ⟨V, cs, rfl, by simpa using hV⟩
set_option maxRecDepth 100000 in
theorem open_ptv {r : Reach} {b0 : Nat} {v : Value} {d : DataW H} {p : List MemPlace} (hv : Value.okWide Tryd.prog w r b0 25 v) (h : DataW.Trod enc Tryd.prog w base spare held 25 v d p) (hf : Fits 25 d) :
    ∃ (D : Option Addr) (m : List (ByteArray × Vs.V)) (c : Nat), v = .slice D m.length c ∧ m.length ≤ c ∧ RdP w D m := by
  obtain ⟨A, n, c, rfl⟩ := okWide_slice Tryd.underlying25 hv
  obtain ⟨fuel, hfu⟩ := h
  simp only [Value.cells] at hfu
  obtain ⟨m, Ds, hl, hm, hcb, hB, hDs⟩ := open_pt hfu hf
  subst hl
  exact ⟨A, m, c, rfl, hcb, Ds, hm, hB, hDs⟩
theorem fits_of {ts : List TypeId} {ds : List (DataW H)} (h : (DataW.weightsEach Tryd.prog ts ds).all (· ≤ reachBytes) = true) {j : Nat} {t : TypeId} {d : DataW H} (ht : ts[j]? = some t) (hd : ds[j]? = some d) : Fits t d := fun n hn => by
  have h9 := List.all_eq_true.1 h n (DataW.weights_mem_each ht hd n hn)
  exact of_decide_eq_true h9
end
end Go.Proofs.YtbgfiflnfndckaaDoor
