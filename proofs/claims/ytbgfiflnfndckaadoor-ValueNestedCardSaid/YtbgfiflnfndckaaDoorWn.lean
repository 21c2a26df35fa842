/- The walks of the reader's small steps: a number, some bytes, a number of so many bytes. Each says what it answers, or with which error's number it panics. No conditions beside: the reader is a block of its own. -/
import Derived.Test.YtbgfiflnfndckaaDoorProg
import Derived.Test.YtbgfiflnfndckaaDoorWm
import Derived.WalkKit
import Derived.Lib.Hide
import Derived.KernelRfl
import Derived.LoopTactic
import Derived.Outline
import Derived.Deep.QuietTactic
import Derived.BigQuiet
import Derived.Deep.LoopGhost
import Derived.WalkLawsBesides
import Derived.WalkSpells
import Derived.Lib.ConvBytes
import Derived.Lib.BufferWrite
set_option linter.unusedVariables false
set_option linter.unusedSimpArgs false
namespace Go.Proofs.YtbgfiflnfndckaaDoor
open Go.RowKit

/-- A panic with an error's number. -/
abbrev dies (c : Nat) : Ending := .panicked [{ v := .iface 38 (.int .i64 c), recovered := false }]

/-- What 'num' does. -/
def NumPost (b : Nat) (w : World) : Option (Nat × List UInt8) → Ending → World → Prop
  | none, e, w' => e = dies 9 ∧ w' = w
  | some (n, r), e, w' => e = .returned (.int .u64 n) ∧ w' = w.setCell ⟨b, 0, none⟩ (.string ⟨r.toArray⟩)

set_option maxHeartbeats 1000000 in
set_option maxRecDepth 100000 in
theorem num_calls (b : Nat) (s : ByteArray) (w : World) (hc : w.cell? ⟨b, 0, none⟩ = some (.string s)) (hz : w.frozen? ⟨b, 0, none⟩ = false) (hs : s.size ≤ maxLen) :
    Calls Tryd.prog 113 #[.pointer (some ⟨b, 0, none⟩)] w (NumPost b w (Ws.num s.data.toList)) := by
  unfold maxLen at hs
  obtain ⟨R, hR⟩ : ∃ R, R = Ws.num s.data.toList := ⟨_, rfl⟩
  rw [← hR]
  have HR : Hid (Ws.rd (s.data.toList.drop 0) 0 0 = R) := by rw [hR]; rfl
  clear hR
  go_enter Tryd.func113, Tryd.ntmps113
  go_wp2
  go_loop [3, 4] (fun n i => ∃ (k m : Nat), k ≤ s.size ∧ k ≤ 9 ∧ i = .int .i64 k ∧ n = .int .u64 m ∧ Hid (m < 128 ^ k) ∧ Hid (Ws.rd (s.data.toList.drop k) k m = R)) (fun _ i => s.size - (intOf i).toNat)
  case atStart => exact ⟨0, 0, by omega, by omega, rfl, rfl, by show 0 < 128 ^ 0; decide, HR⟩
  case round =>
    clear HR
    obtain ⟨k, m, hk, hk9, rfl, rfl, Hm, HR⟩ := hrel
    have h10 : k < 10 := by omega
    by_cases hlt : k < s.size
    · by_cases h9 : k = 9
      · subst h9
        go_wp2
        · have h1 : 1 < s[9].toNat := by have : (1 : Int) < (s[9].toNat : Int) := by assumption
                                         omega
          refine ⟨rfl, ?_⟩
          have hr := HR.out
          rw [Ws.drop_cons s 9 hlt, Ws.rd_nine _ _ h1] at hr
          rw [← hr]
          exact ⟨rfl, rfl⟩
        · have h1 : s[9].toNat ≤ 1 := by have : (s[9].toNat : Int) ≤ 1 := by assumption
                                         omega
          have hr := HR.out
          rw [Ws.drop_cons s 9 hlt, Ws.rd_last _ _ _ (by decide) (fun _ => h1) (by omega)] at hr
          go_ret
          rw [← hr, Ws.step7_9 m _ h1 Hm.out, Ws.extract_end]
          exact ⟨rfl, rfl⟩
      · go_wp2
        · have h1 : s[k].toNat < 128 := by have : (s[k].toNat : Int) < 128 := by assumption
                                           omega
          have hr := HR.out
          rw [Ws.drop_cons s k hlt, Ws.rd_last _ _ _ hk9 (fun h => absurd h h9) h1] at hr
          go_ret
          rw [← hr, Ws.step7 m _ k hk9 (UInt8.toNat_lt _) Hm.out (fun h => absurd h h9), Ws.extract_end]
          exact ⟨rfl, rfl⟩
        · have h1 : 128 ≤ s[k].toNat := by have : (128 : Int) ≤ (s[k].toNat : Int) := by assumption
                                           omega
          have hr := HR.out
          rw [Ws.drop_cons s k hlt, Ws.rd_more _ _ _ (by omega) h1] at hr
          have hs7 := Ws.step7 m s[k].toNat k hk9 (UInt8.toNat_lt _) Hm.out (fun h => absurd h h9)
          have hl7 := Ws.step7_lt m s[k].toNat k Hm.out
          have Hr := Lib.hid hr
          have Hl := Lib.hid hl7
          have Hs := Lib.hid hs7
          clear hr hl7 hs7
          go_round
          case rel => exact ⟨k + 1, _, by omega, by omega, by go_num, congrArg _ Hs.out, Hl, Hr⟩
          case measure => simp [intOf]; omega
    · have hke : k = s.size := by omega
      subst hke
      have hr := HR.out
      rw [Ws.drop_end s s.size (Nat.le_refl _)] at hr
      have Hr := Lib.hid hr
      clear hr
      go_wp2
      exact ⟨rfl, by rw [← Hr.out]; exact ⟨rfl, rfl⟩⟩

theorem num_dies {b : Nat} {s : ByteArray} {w : World} (hc : w.cell? ⟨b, 0, none⟩ = some (.string s)) (hz : w.frozen? ⟨b, 0, none⟩ = false) (hs : s.size ≤ maxLen) (h : Ws.num s.data.toList = none) :
    Calls Tryd.prog 113 #[.pointer (some ⟨b, 0, none⟩)] w fun e w' => e = .panicked [{ v := .iface 38 (.int .i64 9), recovered := false }] ∧ w' = w :=
  (num_calls b s w hc hz hs).mono fun _ _ hp => by rw [h] at hp; exact hp
theorem num_ok {b : Nat} {s : ByteArray} {w : World} (hc : w.cell? ⟨b, 0, none⟩ = some (.string s)) (hz : w.frozen? ⟨b, 0, none⟩ = false) (hs : s.size ≤ maxLen) {n : Nat} {r : List UInt8} (h : Ws.num s.data.toList = some (n, r)) :
    Calls Tryd.prog 113 #[.pointer (some ⟨b, 0, none⟩)] w fun e w' => e = .returned (.int .u64 n) ∧ w' = w.setCell ⟨b, 0, none⟩ (.string ⟨r.toArray⟩) :=
  (num_calls b s w hc hz hs).mono fun _ _ hp => by rw [h] at hp; exact hp
end Go.Proofs.YtbgfiflnfndckaaDoor
