/- The walks of the document's own reading: a field, a message. No conditions but that a field's text is no longer than a message may be. -/
import Derived.Test.YtehmneckcfchmaaMh
set_option linter.unusedVariables false
set_option linter.unusedSimpArgs false
namespace Go.Proofs.Ytehmneckcfchmaa
open Go.RowKit Go.Proofs.YtehmneckcfchmaaW.PrintWords

theorem rfirst_calls (l : List UInt8) (w : World) (hs : l.length ≤ 65536) : Calls Try.prog 38 #[.string ⟨l.toArray⟩] w (FirstPost w (Ws.field l)) := by
  cases hn : Ws.num l with
  | none =>
    rw [show Ws.field l = .error 9 by unfold Ws.field; rw [hn]]
    exact rfirst_d9 l w hs hn
  | some p =>
    obtain ⟨t, r⟩ := p
    by_cases h1 : t / 8 < 1 ∨ 536870911 < t / 8
    · rw [show Ws.field l = .error 10 by unfold Ws.field; rw [hn]; simp only; rw [if_pos h1]]
      exact rfirst_drange l w hs hn h1
    have h3 : 1 ≤ t / 8 := by omega
    have h4 : t / 8 ≤ 536870911 := by omega
    by_cases c0 : t % 8 = 0
    · cases hn2 : Ws.num r with
      | none =>
        rw [show Ws.field l = .error 9 by unfold Ws.field; rw [hn]; simp only; rw [if_neg h1, if_pos c0, hn2]]
        exact rfirst_d0 l w hs hn h3 h4 c0 hn2
      | some p =>
        obtain ⟨m, r2⟩ := p
        rw [show Ws.field l = .ok (⟨(t / 8 : Nat), 0, m, []⟩, r2) by unfold Ws.field; rw [hn]; simp only; rw [if_neg h1, if_pos c0, hn2]]
        exact rfirst_ok0 l w hs hn h3 h4 c0 hn2
    by_cases c1 : t % 8 = 1
    · by_cases hl : r.length < 8
      · rw [show Ws.field l = .error 10 by unfold Ws.field; rw [hn]; simp only; rw [if_neg h1, if_neg c0, if_pos c1, if_pos hl]]
        exact rfirst_d1 l w hs hn h3 h4 c1 hl
      · rw [show Ws.field l = .ok (⟨(t / 8 : Nat), 1, Ws.hi (r.take 8), []⟩, r.drop 8) by unfold Ws.field; rw [hn]; simp only; rw [if_neg h1, if_neg c0, if_pos c1, if_neg hl]]
        exact rfirst_ok1 l w hs hn h3 h4 c1 (by omega)
    by_cases c5 : t % 8 = 5
    · by_cases hl : r.length < 4
      · rw [show Ws.field l = .error 10 by unfold Ws.field; rw [hn]; simp only; rw [if_neg h1, if_neg c0, if_neg c1, if_pos c5, if_pos hl]]
        exact rfirst_d5 l w hs hn h3 h4 c5 hl
      · rw [show Ws.field l = .ok (⟨(t / 8 : Nat), 5, Ws.hi (r.take 4), []⟩, r.drop 4) by unfold Ws.field; rw [hn]; simp only; rw [if_neg h1, if_neg c0, if_neg c1, if_pos c5, if_neg hl]]
        exact rfirst_ok5 l w hs hn h3 h4 c5 (by omega)
    by_cases c2 : t % 8 = 2
    · cases hn2 : Ws.num r with
      | none =>
        rw [show Ws.field l = .error 9 by unfold Ws.field; rw [hn]; simp only; rw [if_neg h1, if_neg c0, if_neg c1, if_neg c5, if_pos c2, hn2]]
        exact rfirst_d2 l w hs hn h3 h4 c2 hn2
      | some p =>
        obtain ⟨m, r2⟩ := p
        by_cases hl : r2.length < m
        · rw [show Ws.field l = .error 10 by unfold Ws.field; rw [hn]; simp only; rw [if_neg h1, if_neg c0, if_neg c1, if_neg c5, if_pos c2, hn2]; simp only; rw [if_pos hl]]
          exact rfirst_d2s l w hs hn h3 h4 c2 hn2 hl
        · rw [show Ws.field l = .ok (⟨(t / 8 : Nat), 2, 0, r2.take m⟩, r2.drop m) by unfold Ws.field; rw [hn]; simp only; rw [if_neg h1, if_neg c0, if_neg c1, if_neg c5, if_pos c2, hn2]; simp only; rw [if_neg hl]]
          exact rfirst_ok2 l w hs hn h3 h4 c2 hn2 (by omega)
    · rw [show Ws.field l = .error 10 by unfold Ws.field; rw [hn]; simp only; rw [if_neg h1, if_neg c0, if_neg c1, if_neg c5, if_neg c2]]
      exact rfirst_dwire l w hs hn h3 h4 ⟨c0, c1, c5, c2⟩

set_option maxHeartbeats 4000000 in
set_option maxRecDepth 100000 in
theorem rread_calls (s : ByteArray) (w : World) (hsm : s.size ≤ maxLen) : Calls Try.prog 14 #[.string s] w (ReadPost w (Ws.read s.data.toList)) := by
  obtain ⟨res, hres⟩ : ∃ r, r = Ws.read s.data.toList := ⟨_, rfl⟩
  rw [← hres]
  have hsl : s.data.toList.length = s.size := Array.length_toList
  unfold maxLen at hsm
  by_cases hbig : 65536 < s.size
  · have hr : res = ([], 4) := by rw [hres]; unfold Ws.read; rw [if_pos (by omega)]
    subst hr
    have h' : (65536 : Int) < (s.size : Int) := by omega
    clear hbig hres hsl
    go_enter Try.func14, Try.ntmps14
    go_wp2
    go_ret2
    exact ⟨_, rfl, Kd.R_nil _ _ _ _ _, Below.refl _ _⟩
  have h' : ¬ (65536 : Int) < (s.size : Int) := by omega
  have hrd := hres.trans (Ws.read_of _ (by omega))
  obtain ⟨l, hl⟩ : ∃ l, l = s.data.toList := ⟨_, rfl⟩
  have hsl2 : s = ⟨l.toArray⟩ := by rw [hl]
  rw [← hl] at hrd hsl
  subst hsl2
  have hsz : (⟨l.toArray⟩ : ByteArray).size = l.length := by simp [ByteArray.size]
  have hll : l.length ≤ 65536 := by omega
  have HRD := Lib.hid hrd
  obtain ⟨A0, hA⟩ : ∃ A, A = Ws.all l [] := ⟨_, rfl⟩
  rw [← hA] at HRD
  have HA := Lib.hid hA.symm
  have h'' : ¬ (65536 : Int) < (l.length : Int) := by omega
  clear hrd hl hres hA hbig hsl hsm h'
  go_enter Try.func14, Try.ntmps14
  go_wp2
  go_loopg [0, 4] l.length (fun kq sv v wr => ∃ (b : List UInt8) (c : List Ws.Fd), sv = .string ⟨b.toArray⟩ ∧ kq = b.length ∧ c.length + b.length ≤ 65536 ∧ Hid (Ws.all b c = A0) ∧ Hid (kF.R 32 wr w.heap.size (fun _ => True) v c) ∧ Hid (Below w.heap.size w wr))
  case atStart => exact ⟨l, [], rfl, rfl, by simpa using hll, HA, Lib.hid (Kd.R_nil _ _ _ _ _), Lib.hid (Below.refl _ _)⟩
  case round =>
    clear HA
    obtain ⟨b, c, rfl, hgk, hcb, HA, HO, HB⟩ := hrel
    obtain ⟨B, cp, rfl⟩ := Kd.R_slice HO.out
    have hws := HB.out.size
    by_cases hb0 : b = []
    · subst hb0
      have hall := HA.out
      rw [Ws.all_nil] at hall
      have hr := HRD.out
      rw [← hall] at hr
      simp only at hr
      have HR := Lib.hid hr
      clear hr hall
      by_cases hc : 4096 < c.length
      · have hr : res = ([], 3) := by rw [HR.out, if_pos hc]
        subst hr
        have hc' : (4096 : Int) < (c.length : Int) := by omega
        go_wp2
        go_ret2
        exact ⟨_, rfl, Kd.R_nil _ _ _ _ _, HB.out⟩
      · have hr : res = (c, 0) := by rw [HR.out, if_neg hc]
        subst hr
        have hc' : ¬ (4096 : Int) < (c.length : Int) := by omega
        go_wp2
        go_ret2
        exact ⟨_, rfl, HO.out, HB.out⟩
    · have hbl : b.length ≤ 65536 := by omega
      have hne : (!b.isEmpty) = true := by cases b with | nil => exact absurd rfl hb0 | cons _ _ => rfl
      have hne2 : b.isEmpty = false := by cases b with | nil => exact absurd rfl hb0 | cons _ _ => rfl
      have HB0 := Lib.hid hb0
      cases hf : Ws.field b with
      | error e =>
        have hr := HRD.out
        rw [← HA.out, Ws.all_dies c hb0 hf] at hr
        simp only at hr
        subst hr
        have he := Ws.field_code hf
        have hei : ¬ (e : Int) = 0 := by omega
        have HF := Lib.hid hf
        clear hf he
        go_wp2_with fail
        refine (rfirst_calls b _ hbl).mono ?_
        rw [HF.out]
        rintro e' w1 ⟨⟨g, t, rfl⟩, hb⟩
        have HB1 := Lib.hid (HB.out.trans (hb.mono hws))
        clear hb
        go_wp2_with fail
        go_ret2
        exact ⟨_, rfl, Kd.R_nil _ _ _ _ _, HB1.out.alloc HB1.out.size _⟩
      | ok p =>
        obtain ⟨f, r⟩ := p
        have hsh := Ws.field_shorter hf
        have HM := Lib.hid (show Ws.all r (c ++ [f]) = A0 by rw [← Ws.all_more c hb0 hf]; exact HA.out)
        have HF := Lib.hid hf
        clear hf
        go_wp2_with fail
        refine (rfirst_calls b _ hbl).mono ?_
        rw [HF.out]
        rintro e' w1 ⟨rfl, hb⟩
        have HB1 := Lib.hid (HB.out.trans (hb.mono hws))
        have HO1 := Lib.hid (Kd.R_below HO.out hb)
        have hw1 := HB1.out.size
        have hcl : (c.length + 1) * 40 ≤ 140737488355328 := by omega
        clear hb
        go_wp2_with (at_builtin; refine Kd.R_append kF (w0 := w1) w.heap.size rfl (.tmp 22) (.tmp 24) 22 32 _ 40 rfl Try.underlying22 infoF rfl (by decide) (by decide) (.slice B c.length cp) c f [.int .i64 f.k, .int .u8 f.w, .int .u64 f.n, .string ⟨f.s.toArray⟩] (fun _ => True) (fun _ => False) rfl ?hx ?hp (fun _ hk => hk.elim) ?hfr ?hO ?hB ?hbs hcl ?_; (case hx => exact congrArg (fun n => Value.slice (some ⟨n, 0, none⟩) 1 1) (show w1.heap.size + 1 = (w1.alloc (.cells #[.int .i64 f.k, .int .u8 f.w, .int .u64 f.n, .string ⟨f.s.toArray⟩] 32)).heap.size by simp)); (case hp => exact kF_mkM _ _ _ f); (case hfr => (intro k hk; trivial)); (case hO => exact Kd.R_below HO1.out (Below.alloc (Below.refl _ _) (Nat.le_refl _) _)); (case hB => exact Below.alloc (Below.refl _ _) hw1 _); (case hbs => exact Nat.le_trans hw1 (by simp)); intro v1 w2 ho hb hg hat; have HO2 := Lib.hid ho; have HB2 := Lib.hid (HB1.out.trans hb); clear ho hb hg hat)
        go_roundg r.length
        case measure => omega
        case rel => exact ⟨r, c ++ [f], rfl, rfl, by simp; omega, HM, HO2, HB2⟩
end Go.Proofs.Ytehmneckcfchmaa
