/-
  The walk of Like.
-/
import Derived.Test.YtmjldihmcbjfhaaHOrders
import Derived.Test.YtmjldihmcbjfhaaHGreedy
namespace Go.Proofs.Ytmjldihmcbjfhaa.H
open Go.RowKit Go.Proofs.YtmjldihmcbjfhaaW.PrintWords Go.Proofs.YtmjldihmcbjfhaaW.PrintLast Go.Proofs.YtmjldihmcbjfhaaW.PrintMore Go.Proofs.Ytmjldihmcbjfhaa.PPageCases
set_option linter.unusedVariables false
set_option linter.unusedSimpArgs false

/-- Whether a place of a pattern that is no star takes a byte. -/
def takes (p c : Int) (a b : Int) : Bool := a == 63 || wt a p c == wt b p c
/-- Whether a text is as a pattern says. -/
def isLike (P s : ByteArray) (p c : Int) : Prop := Fits (takes p c) (bytesOf P) (bytesOf s)

set_option maxRecDepth 100000 in
set_option maxHeartbeats 4000000 in
theorem like_ok (P s : ByteArray) (p c : Int) (w : World) (b : Bool) (hb : b = true ↔ isLike P s p c) (hP : P.size ≤ 2048) (hs : s.size ≤ 2048) (hq : askC (max (P.size : Int) s.size) p c = 0) :
    Calls Try.prog 21 #[.string P, .string s, .int .i64 p, .int .i64 c] w fun e w' => e = .returned (.tuple #[.bool b, .int .i64 0]) ∧ Below w.heap.size w w' := by
  have HA := Lib.hid (fun w => hq ▸ askedColl_two P s p c w)
  have HW := Lib.hid (fun b W => wt_call b p c W)
  have HBb := Lib.hid hb
  clear hq hb
  go_enter Try.func21, Try.ntmps21
  go_wp2_with (fail)
  go_step3
  go_wp2_with (go_at_call 37; refine (HA.out _).mono ?_; rintro e w1 ⟨rfl, hd⟩; have HD := Aside0.mk hd; clear hd)
  go_step3
  go_wp2
  have HB1 : Aside0 (Below w.heap.size w w1) := ⟨by
    obtain ⟨n1, rfl⟩ := HD.out.out
    exact pw_below_drewN (below_alloc (Below.refl _ _) _) _⟩
  clear HD
  have HLP := Lib.hid (bytesOf_length P)
  have HLS := Lib.hid (bytesOf_length s)
  go_loopg [11, 12, 13, 14] (rank P.size s.size 0 0 0) (fun n vp va vs vf wr => ∃ (kp ka ks kf : Nat), vp = .int .i64 kp ∧ va = .int .i64 ka ∧ vs = .int .i64 ((ks : Int) - 1) ∧ vf = .int .i64 kf ∧
      Aside0 (Goes (takes p c) (bytesOf P) (bytesOf s) kp ka ks kf) ∧ Aside0 (n = rank P.size s.size kp ks kf) ∧ Aside0 (Below w.heap.size w wr))
  case atStart => exact ⟨0, 0, 0, 0, rfl, rfl, rfl, rfl, ⟨goes_start⟩, ⟨rfl⟩, HB1⟩
  case round =>
    obtain ⟨kp, ka, ks, kf, rfl, rfl, rfl, rfl, HG, HN, HB⟩ := hrel
    have b1 : kp ≤ P.size := by have := HG.out.hp; rwa [HLP.out] at this
    have b2 : ka ≤ s.size := by have := HG.out.ha; rwa [HLS.out] at this
    have b3 : ks ≤ kp := HG.out.hst
    have b4 : kf ≤ ka := HG.out.hf
    by_cases hp : kp < P.size
    · have hbt := getElem_bt P kp hp
      obtain ⟨x, hx⟩ : ∃ x, x = (bytesOf P).getD kp 0 := ⟨_, rfl⟩
      rw [← hx] at hbt
      have HX := Lib.hid hx
      clear hx
      by_cases h42 : x = 42
      · have hx1 : (x == 42) = true := beq_iff_eq.2 h42
        have HG2 : Aside0 (Goes (takes p c) (bytesOf P) (bytesOf s) (kp + 1) ka (kp + 1) ka) := ⟨goes_star HG.out (by rw [HLP.out]; exact hp) (by rw [← HX.out]; exact h42)⟩
        clear h42
        go_wp2
        all_goals
          go_roundg (rank P.size s.size (kp + 1) (kp + 1) ka)
          case rel => exact ⟨kp + 1, ka, kp + 1, ka, by go_num, rfl, by go_num, rfl, HG2, ⟨rfl⟩, HB⟩
          case measure => rw [HN.out]; exact rank_star b3 hp b2
      · have hx1 : (x == 42) = false := by simpa using h42
        by_cases ha : ka < s.size
        · have hbs := getElem_bt s ka ha
          obtain ⟨y, hy⟩ : ∃ y, y = (bytesOf s).getD ka 0 := ⟨_, rfl⟩
          rw [← hy] at hbs
          have HY := Lib.hid hy
          clear hy
          by_cases h63 : x = 63
          · have hx2 : (x == 63) = true := beq_iff_eq.2 h63
            have HG2 : Aside0 (Goes (takes p c) (bytesOf P) (bytesOf s) (kp + 1) (ka + 1) ks kf) := ⟨goes_one HG.out (by rw [HLP.out]; exact hp) (by rw [HLS.out]; exact ha) (by rw [← HX.out]; exact h42) (by rw [← HX.out]; unfold takes; rw [hx2]; rfl)⟩
            clear h42 h63
            go_wp2
            all_goals (go_quiet (fail); go_wp2)
            all_goals
              go_roundg (rank P.size s.size (kp + 1) ks kf)
              case rel => exact ⟨kp + 1, ka + 1, ks, kf, by go_num, by go_num, rfl, rfl, HG2, ⟨rfl⟩, ⟨by first | exact HB.out | exact pw_below_drewN HB.out _⟩⟩
              case measure => rw [HN.out]; exact rank_one hp
          · have hx2 : (x == 63) = false := by simpa using h63
            have HWq : Hid (∀ b W, Calls Try.prog 45 #[.int .u8 b, .int .i64 p, .int .i64 c] W fun e w' => e = .returned (.int .u8 (wt b p c)) ∧ ∃ n, w' = W.drewN n) := Lib.hid fun b W => (HW.out b W).mono fun e w' ⟨q1, q2⟩ => ⟨q1, q2.out⟩
            by_cases hw : wt x p c = wt y p c
            · have hx3 : (wt x p c == wt y p c) = true := beq_iff_eq.2 hw
              have HG2 : Aside0 (Goes (takes p c) (bytesOf P) (bytesOf s) (kp + 1) (ka + 1) ks kf) := ⟨goes_one HG.out (by rw [HLP.out]; exact hp) (by rw [HLS.out]; exact ha) (by rw [← HX.out]; exact h42) (by rw [← HX.out, ← HY.out]; unfold takes; rw [hx2, hx3]; rfl)⟩
              clear h42 h63 hw
              go_wp2
              all_goals ((go_quiet ((go_at_call 45; exact Calls.quiet_of (HWq.out _ _)))); go_wp2)
              all_goals
                go_roundg (rank P.size s.size (kp + 1) ks kf)
                case rel => exact ⟨kp + 1, ka + 1, ks, kf, by go_num, by go_num, rfl, rfl, HG2, ⟨rfl⟩, ⟨by first | exact HB.out | exact pw_below_drewN HB.out _⟩⟩
                case measure => rw [HN.out]; exact rank_one hp
            · have hx3 : (wt x p c == wt y p c) = false := by simpa using hw
              have HS : Aside0 (¬ Fits (takes p c) ((bytesOf P).drop kp) ((bytesOf s).drop ka)) := ⟨goes_stuck (.inl (by rw [HLS.out]; exact ha)) (fun e => h42 (by rw [HX.out]; exact e.2)) (fun e => by have := e.2.2; rw [← HX.out, ← HY.out] at this; unfold takes at this; rw [hx2, hx3] at this; cases this)⟩
              by_cases k0 : ks = 0
              · have HR : Aside0 (b = false) := ⟨by
                  have := goes_not HG.out HS.out (.inl k0)
                  cases b with
                  | false => rfl
                  | true => exact absurd (HBb.out.1 rfl) this⟩
                have k1 : (ks : Int) - 1 < 0 := by omega
                clear h42 h63 hw HS
                go_wp2
                all_goals ((go_quiet ((go_at_call 45; exact Calls.quiet_of (HWq.out _ _)))); go_wp2)
                all_goals
                  try rw [Exit.noGoto_ret]
                  go_ret2
                  exact ⟨by rw [HR.out]; rfl, by first | exact HB.out | exact pw_below_drewN HB.out _⟩
              · by_cases k2 : kf < s.size
                · have HG2 : Aside0 (Goes (takes p c) (bytesOf P) (bytesOf s) ks (kf + 1) ks (kf + 1)) := ⟨goes_back HG.out HS.out k0 (by rw [HLS.out]; exact k2)⟩
                  have k1 : ¬ (ks : Int) - 1 < 0 := by omega
                  have k3 : ¬ (s.size : Int) ≤ (kf : Int) := by omega
                  clear k0
                  clear h42 h63 hw HS
                  go_wp2
                  all_goals ((go_quiet ((go_at_call 45; exact Calls.quiet_of (HWq.out _ _)))); go_wp2)
                  all_goals
                    go_roundg (rank P.size s.size ks ks (kf + 1))
                    case rel => exact ⟨ks, kf + 1, ks, kf + 1, by go_num, by go_num, rfl, by go_num, HG2, ⟨rfl⟩, ⟨by first | exact HB.out | exact pw_below_drewN HB.out _⟩⟩
                    case measure => rw [HN.out]; exact rank_back k2
                · have HR : Aside0 (b = false) := ⟨by
                    have := goes_not HG.out HS.out (.inr (by rw [HLS.out]; omega))
                    cases b with
                    | false => rfl
                    | true => exact absurd (HBb.out.1 rfl) this⟩
                  have k1 : ¬ (ks : Int) - 1 < 0 := by omega
                  have k3 : (s.size : Int) ≤ (kf : Int) := by omega
                  clear k0 k2
                  clear h42 h63 hw HS
                  go_wp2
                  all_goals ((go_quiet ((go_at_call 45; exact Calls.quiet_of (HWq.out _ _)))); go_wp2)
                  all_goals
                    try rw [Exit.noGoto_ret]
                    go_ret2
                    exact ⟨by rw [HR.out]; rfl, by first | exact HB.out | exact pw_below_drewN HB.out _⟩
        · have ha2 : ¬ (ka : Int) < (s.size : Int) := by omega
          have ha3 : decide (ka < s.size) = false := decide_eq_false ha
          have HS : Aside0 (¬ Fits (takes p c) ((bytesOf P).drop kp) ((bytesOf s).drop ka)) := ⟨goes_stuck (.inr (by rw [HLP.out]; exact hp)) (fun e => h42 (by rw [HX.out]; exact e.2)) (fun e => ha (by have := e.2.1; rwa [HLS.out] at this))⟩
          by_cases k0 : ks = 0
          · have HR : Aside0 (b = false) := ⟨by
              have := goes_not HG.out HS.out (.inl k0)
              cases b with
              | false => rfl
              | true => exact absurd (HBb.out.1 rfl) this⟩
            have k1 : (ks : Int) - 1 < 0 := by omega
            clear h42 ha HS
            go_wp2
            all_goals ((go_quiet (fail)); go_wp2)
            all_goals
              try rw [Exit.noGoto_ret]
              go_ret2
              exact ⟨by rw [HR.out]; rfl, by first | exact HB.out | exact pw_below_drewN HB.out _⟩
          · by_cases k2 : kf < s.size
            · have HG2 : Aside0 (Goes (takes p c) (bytesOf P) (bytesOf s) ks (kf + 1) ks (kf + 1)) := ⟨goes_back HG.out HS.out k0 (by rw [HLS.out]; exact k2)⟩
              have k1 : ¬ (ks : Int) - 1 < 0 := by omega
              have k3 : ¬ (s.size : Int) ≤ (kf : Int) := by omega
              clear k0
              clear h42 ha HS
              go_wp2
              all_goals ((go_quiet (fail)); go_wp2)
              all_goals
                go_roundg (rank P.size s.size ks ks (kf + 1))
                case rel => exact ⟨ks, kf + 1, ks, kf + 1, by go_num, by go_num, rfl, by go_num, HG2, ⟨rfl⟩, ⟨by first | exact HB.out | exact pw_below_drewN HB.out _⟩⟩
                case measure => rw [HN.out]; exact rank_back k2
            · have HR : Aside0 (b = false) := ⟨by
                have := goes_not HG.out HS.out (.inr (by rw [HLS.out]; omega))
                cases b with
                | false => rfl
                | true => exact absurd (HBb.out.1 rfl) this⟩
              have k1 : ¬ (ks : Int) - 1 < 0 := by omega
              have k3 : (s.size : Int) ≤ (kf : Int) := by omega
              clear k0 k2
              clear h42 ha HS
              go_wp2
              all_goals ((go_quiet (fail)); go_wp2)
              all_goals
                try rw [Exit.noGoto_ret]
                go_ret2
                exact ⟨by rw [HR.out]; rfl, by first | exact HB.out | exact pw_below_drewN HB.out _⟩
    · have hp2 : ¬ (kp : Int) < (P.size : Int) := by omega
      have hp3 : decide (kp < P.size) = false := decide_eq_false hp
      by_cases ha : ka < s.size
      · clear hp
        have HS : Aside0 (¬ Fits (takes p c) ((bytesOf P).drop kp) ((bytesOf s).drop ka)) := ⟨goes_stuck (.inl (by rw [HLS.out]; exact ha)) (fun e => by have := e.1; rw [HLP.out] at this; omega) (fun e => by have := e.1; rw [HLP.out] at this; omega)⟩
        by_cases k0 : ks = 0
        · have HR : Aside0 (b = false) := ⟨by
            have := goes_not HG.out HS.out (.inl k0)
            cases b with
            | false => rfl
            | true => exact absurd (HBb.out.1 rfl) this⟩
          have k1 : (ks : Int) - 1 < 0 := by omega
          clear HS
          go_wp2
          all_goals ((go_quiet (fail)); go_wp2)
          all_goals
            try rw [Exit.noGoto_ret]
            go_ret2
            exact ⟨by rw [HR.out]; rfl, by first | exact HB.out | exact pw_below_drewN HB.out _⟩
        · by_cases k2 : kf < s.size
          · have HG2 : Aside0 (Goes (takes p c) (bytesOf P) (bytesOf s) ks (kf + 1) ks (kf + 1)) := ⟨goes_back HG.out HS.out k0 (by rw [HLS.out]; exact k2)⟩
            have k1 : ¬ (ks : Int) - 1 < 0 := by omega
            have k3 : ¬ (s.size : Int) ≤ (kf : Int) := by omega
            clear k0
            clear HS
            go_wp2
            all_goals ((go_quiet (fail)); go_wp2)
            all_goals
              go_roundg (rank P.size s.size ks ks (kf + 1))
              case rel => exact ⟨ks, kf + 1, ks, kf + 1, by go_num, by go_num, rfl, by go_num, HG2, ⟨rfl⟩, ⟨by first | exact HB.out | exact pw_below_drewN HB.out _⟩⟩
              case measure => rw [HN.out]; exact rank_back k2
          · have HR : Aside0 (b = false) := ⟨by
              have := goes_not HG.out HS.out (.inr (by rw [HLS.out]; omega))
              cases b with
              | false => rfl
              | true => exact absurd (HBb.out.1 rfl) this⟩
            have k1 : ¬ (ks : Int) - 1 < 0 := by omega
            have k3 : (s.size : Int) ≤ (kf : Int) := by omega
            clear k0 k2
            clear HS
            go_wp2
            all_goals ((go_quiet (fail)); go_wp2)
            all_goals
              try rw [Exit.noGoto_ret]
              go_ret2
              exact ⟨by rw [HR.out]; rfl, by first | exact HB.out | exact pw_below_drewN HB.out _⟩
      · have HR : Aside0 (b = true) := ⟨HBb.out.2 (goes_end HG.out (by rw [HLP.out]; omega) (by rw [HLS.out]; omega))⟩
        have ha2 : ¬ (ka : Int) < (s.size : Int) := by omega
        clear ha hp
        go_wp2
        all_goals
          try rw [Exit.noGoto_ret]
          go_ret2
          exact ⟨by rw [HR.out]; rfl, HB.out⟩

noncomputable def likeB (P s : ByteArray) (p c : Int) : Bool := @decide (isLike P s p c) (Classical.propDecidable _)
theorem likeB_iff (P s : ByteArray) (p c : Int) : likeB P s p c = true ↔ isLike P s p c := by
  unfold likeB; exact @decide_eq_true_iff _ (Classical.propDecidable _)
noncomputable def likeF (P s : ByteArray) (p c : Int) : Bool × Int :=
  if askC (max (P.size : Int) s.size) p c = 0 then (likeB P s p c, 0) else (false, askC (max (P.size : Int) s.size) p c)
set_option maxHeartbeats 1000000 in
theorem like_call (P s : ByteArray) (p c : Int) (w : World) : Calls Try.prog 21 #[.string P, .string s, .int .i64 p, .int .i64 c] w fun e w' =>
    e = .returned (.tuple #[.bool (likeF P s p c).1, .int .i64 (likeF P s p c).2]) ∧ Below w.heap.size w w' := by
  unfold likeF
  by_cases h : askC (max (P.size : Int) s.size) p c = 0
  · have hle := askC_le h
    rw [if_pos h]
    exact like_ok P s p c w _ (likeB_iff P s p c) (by omega) (by omega) h
  · rw [if_neg h]
    have HA := Lib.hid (fun w => askedColl_two P s p c w)
    have hb : (askC (max (P.size : Int) s.size) p c != 0) = true := bne_iff_ne.2 h
    clear h
    generalize askC (max (P.size : Int) s.size) p c = q at HA hb ⊢
    go_enter Try.func21, Try.ntmps21
    go_wp2_with (fail)
    go_step3
    go_wp2_with (go_at_call 37; refine (HA.out _).mono ?_; rintro e w1 ⟨rfl, ⟨⟨n1, rfl⟩⟩⟩)
    try rw [Exit.noGoto_ret]
    go_ret2
    exact ⟨rfl, (pw_below_drewN (below_alloc (Below.refl _ _) _) _)⟩
end Go.Proofs.Ytmjldihmcbjfhaa.H
