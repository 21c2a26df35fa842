/- The walk of a number's bytes put behind others. No conditions but the number's kind, and that there is room. -/
import Derived.Test.YtbgfiflnfndckaaDoorWl
set_option linter.unusedVariables false
set_option linter.unusedSimpArgs false
namespace Go.Proofs.YtbgfiflnfndckaaDoor
open Go.RowKit Go.Proofs.YtbgfiflnfndckaaDoorW.PrintWords

/-- A byte in memory. -/
def encB (b : UInt8) : Value := .int .u8 b.toNat
def kB : Kd UInt8 := Kd.scalar encB (fun _ => rfl)
theorem infoB : (Tryd.prog.info? 5).map (fun i => (i.zero, i.size, i.bytes)) = some (some (.int .u8 0), 1, 1) := by kernel_rfl
theorem kB_mkM (w : World) (base : Nat) (ok : Nat → Prop) (b : UInt8) : kB.M w base ok b [.int .u8 b.toNat] := rfl

namespace Ws
theorem or128 : ∀ a : Fin 256, a.val ||| 128 = a.val % 128 + 128 := by decide +kernel
theorem byte_or (m : Nat) : bits .or .u8 ((m : Int) % 256) 128 = (((UInt8.ofNat (m % 128 + 128)).toNat : Nat) : Int) := by
  have h := u8_or_nat (m % 256) 128 (Nat.mod_lt _ (by decide)) (by decide)
  rw [show ((128 : Nat) : Int) = 128 from rfl, Int.natCast_emod] at h
  rw [show ((256 : Nat) : Int) = 256 from rfl] at h
  rw [h]
  congr 1
  rw [or128 ⟨m % 256, Nat.mod_lt _ (by decide)⟩]
  show m % 256 % 128 + 128 = (m % 128 + 128) % 256
  omega
theorem byte_last (m : Nat) (h : m < 128) : (m : Int) % 256 = (((UInt8.ofNat m).toNat : Nat) : Int) := by
  show (m : Int) % 256 = ((m % 256 : Nat) : Int)
  omega
theorem vi_more {m : Nat} (h : 127 < m) : vi m = UInt8.ofNat (m % 128 + 128) :: vi (m / 128) := by rw [vi, dif_neg (by omega)]
theorem vi_last {m : Nat} (h : m < 128) : vi m = [UInt8.ofNat m] := by rw [vi, dif_pos h]
theorem vi_ten (n : Nat) (hn : n < 2 ^ 64) : (vi n).length ≤ 10 := by
  obtain ⟨h1, h2, h3⟩ := vi_len n
  by_cases h : (vi n).length ≤ 10
  · exact h
  · have h4 := h3 (by omega)
    have : (128 : Nat) ^ 10 ≤ 128 ^ ((vi n).length - 1) := Nat.pow_le_pow_right (by decide) (by omega)
    have e : (128 : Nat) ^ 10 = 2 ^ 70 := by decide
    omega
end Ws

/-- What stands at v is of l, begun in the world w at v0: nothing else has turned. -/
structure Rows1 (w : World) (base : Nat) (v0 : Value) (wr : World) (v : Value) (l : List UInt8) : Prop where
  row : kB.R 5 wr base (fun _ => True) v l
  below : Below base w wr
  grown : w.grownBy wr v0.ownBlock
  at_ : v.ownBlock = v0.ownBlock ∨ ∃ b, v.ownBlock = some b ∧ w.heap.size ≤ b
theorem Rows1.refl {w : World} {base : Nat} {v : Value} {l : List UInt8} (h : kB.R 5 w base (fun _ => True) v l) : Rows1 w base v w v l := ⟨h, Below.refl _ _, World.grownBy.refl _ _, .inl rfl⟩
theorem Rows1.trans {w w1 w2 : World} {base : Nat} {v0 v1 v2 : Value} {l1 l2 : List UInt8} (h : Rows1 w base v0 w1 v1 l1) (k : Rows1 w1 base v1 w2 v2 l2) : Rows1 w base v0 w2 v2 l2 := by
  refine ⟨k.row, h.below.trans k.below, ⟨k.grown.os.trans h.grown.os, k.grown.tape.trans h.grown.tape, k.grown.output.trans h.grown.output, Nat.le_trans h.grown.size k.grown.size, fun i hi hne => ?_⟩, ?_⟩
  · refine (k.grown.block i (Nat.lt_of_lt_of_le hi h.grown.size) ?_).trans (h.grown.block i hi hne)
    rcases h.at_ with he | ⟨b, he, hb⟩
    · rw [he]; exact hne
    · rw [he]; intro hh; injection hh with hh; omega
  · rcases k.at_ with he | ⟨b, he, hb⟩
    · rcases h.at_ with he2 | ⟨b, he2, hb⟩
      · exact .inl (he.trans he2)
      · exact .inr ⟨b, he.trans he2, hb⟩
    · exact .inr ⟨b, he, Nat.le_trans h.grown.size hb⟩

set_option maxHeartbeats 1000000 in
set_option maxRecDepth 100000 in
theorem number_calls (l : List UInt8) (n : Nat) (v0 : Value) (base : Nat) (w : World) (hr : kB.R 5 w base (fun _ => True) v0 l) (hbs : base ≤ w.heap.size) (hn : n < 2 ^ 64) (hl : l.length + 20 ≤ 140737488355328) :
    Calls Tryd.prog 107 #[v0, .int .u64 n] w fun e w' => ∃ v, e = .returned v ∧ Rows1 w base v0 w' v (l ++ Ws.vi n) := by
  have hv := Ws.vi_ten n hn
  obtain ⟨R, hR⟩ : ∃ R, R = l ++ Ws.vi n := ⟨_, rfl⟩
  have hRl : R.length ≤ l.length + 10 := by rw [hR, List.length_append]; omega
  rw [← hR]
  have HR := Lib.hid hR.symm
  have H0 := Lib.hid (Rows1.refl hr)
  clear hR hr hv
  go_enter Tryd.func107, Tryd.ntmps107
  go_wp2
  go_loopg [0, 1] n (fun kq v nv wr => ∃ (c : List UInt8), nv = .int .u64 kq ∧ kq ≤ n ∧ Hid (c ++ Ws.vi kq = R) ∧ Hid (Rows1 w base v0 wr v c))
  case atStart => exact ⟨l, rfl, Nat.le_refl _, HR, H0⟩
  case round =>
    clear HR H0
    obtain ⟨c, rfl, hk, HR, H0⟩ := hrel
    have hcl : c.length ≤ l.length + 10 := by have := congrArg List.length HR.out; rw [List.length_append] at this; omega
    obtain ⟨A, cp, rfl⟩ := Kd.R_slice H0.out.row
    have hcl2 : (c.length + 1) * 1 ≤ 140737488355328 := by omega
    have hws : base ≤ wr.heap.size := Nat.le_trans hbs H0.out.grown.size
    by_cases h : 127 < gk
    · have hi : (127 : Int) < (gk : Int) := by omega
      have hb := Ws.byte_or gk
      have hvm := Lib.hid (Ws.vi_more h)
      generalize UInt8.ofNat (gk % 128 + 128) = u at *
      go_wp2_with (at_builtin; refine Kd.R_append kB (w0 := wr) base rfl (.tmp 7) (.tmp 11) 34 5 (.int .u8 0) 1 rfl Tryd.underlying34 infoB rfl (by decide) (by decide) (.slice A c.length cp) c u [.int .u8 u.toNat] (fun _ => True) (fun _ => False) rfl rfl ?hp (fun _ hk => hk.elim) ?hfr ?hO ?hB ?hbs hcl2 ?_; (case hp => exact kB_mkM _ _ _ _); (case hfr => (intro k hk; trivial)); (case hO => exact H0.out.row); (case hB => exact Below.refl _ _); (case hbs => exact hws); intro v1 w1 ho hb hg hat; have HN := Lib.hid (H0.out.trans ⟨ho, hb, hg, hat⟩); clear ho hb hg hat)
      go_roundg (gk / 128)
      case measure => omega
      case rel => exact ⟨c ++ [u], by simp, by omega, by rw [← HR.out, hvm.out, List.append_assoc]; rfl, HN⟩
    · have h128 : gk < 128 := by omega
      have hi : ¬ (127 : Int) < (gk : Int) := by omega
      have hb := Lib.hid (Ws.byte_last gk h128)
      have hvm := Lib.hid (Ws.vi_last h128)
      generalize UInt8.ofNat gk = u at *
      have hm : ∀ (w : World) (base : Nat) (ok : Nat → Prop), kB.M w base ok u [.int .u8 gk] := fun _ _ _ => by
        have e := hb.out
        rw [show (gk : Int) % 256 = (gk : Int) by omega] at e
        show [Value.int .u8 gk] = [Value.int .u8 u.toNat]
        rw [e]
      have Hm := Lib.hid hm
      clear hm
      go_wp2_with (at_builtin; refine Kd.R_append kB (w0 := wr) base rfl (.tmp 15) (.tmp 18) 34 5 (.int .u8 0) 1 rfl Tryd.underlying34 infoB rfl (by decide) (by decide) (.slice A c.length cp) c u [.int .u8 gk] (fun _ => True) (fun _ => False) rfl rfl ?hp (fun _ hk => hk.elim) ?hfr ?hO ?hB ?hbs hcl2 ?_; (case hp => exact Hm.out _ _ _); (case hfr => (intro k hk; trivial)); (case hO => exact H0.out.row); (case hB => exact Below.refl _ _); (case hbs => exact hws); intro v1 w1 ho hb hg hat; have HN := Lib.hid (H0.out.trans ⟨ho, hb, hg, hat⟩); clear ho hb hg hat)
      go_ret
      refine ⟨_, rfl, ?_⟩
      rw [← HR.out, hvm.out]
      exact HN.out

theorem kB_bytes {w : World} {base : Nat} {ok : Nat → Prop} {v : Value} {l : List UInt8} (h : kB.R 5 w base ok v l) : ∃ A c, v = .slice A l.length c ∧ w.ownsRow base 5 1 v l.length (nums .u8 (l.map fun b => (b.toNat : Int))) := by
  obtain ⟨A, c, rfl⟩ := Kd.R_slice h
  refine ⟨A, c, rfl, ?_⟩
  have := Kd.own_of_R h
  have e : encs encB l = nums .u8 (l.map fun b => (b.toNat : Int)) := by simp [encs, nums, encB]
  rwa [e] at this
theorem str_bytes (l : List UInt8) : strOfNums (l.map fun b => (b.toNat : Int)) = ⟨l.toArray⟩ := by
  apply ByteArray.ext
  apply Array.ext'
  rw [strOfNums_data, List.map_map]
  conv => rhs; rw [← List.map_id l]
  apply List.map_congr_left
  intro b _
  simp

end Go.Proofs.YtbgfiflnfndckaaDoor
