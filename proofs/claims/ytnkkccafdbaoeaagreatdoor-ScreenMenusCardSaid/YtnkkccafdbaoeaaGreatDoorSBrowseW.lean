/-
  A browse: what a key does, walked.
-/
import Derived.Test.YtnkkccafdbaoeaaGreatDoorSHand
import Derived.Test.YtnkkccafdbaoeaaGreatDoorSBrowseP
import Derived.BigRegion
import Derived.Maps.AppendAt
namespace Go.Proofs.YtnkkccafdbaoeaaGreatDoor.H
open Go.RowKit Go.Proofs.YtnkkccafdbaoeaaGreatDoorW.PrintWords Go.Proofs.YtnkkccafdbaoeaaGreatDoorW.PrintLast Go.Proofs.YtnkkccafdbaoeaaGreatDoorW.PrintMore
set_option linter.unusedVariables false
set_option linter.unusedSimpArgs false

/-- The block of a browse. -/
def Brs (w : World) (g : Nat) (n page top bar : Int) : Prop := Buf w g 57 [.int .i64 n, .int .i64 page, .int .i64 top, .int .i64 bar]
def BrsEnd (w : World) (g : Nat) (n page : Int) (s : Int × Int) (e : Ending) (w' : World) : Prop := e = .returned (.tuple #[]) ∧ Brs w' g n page s.1 s.2 ∧ Below g w w'
set_option maxHeartbeats 2000000 in
theorem to_call (g : Nat) (n page top bar k : Int) (w : World) (hb : Brs w g n page top bar) (h1 : 1 ≤ n) (h2 : n ≤ 300) (h3 : 1 ≤ page) (h4 : page ≤ 25) (h5 : 0 ≤ top) (h6 : top ≤ n) (h7 : -1 ≤ k) (h8 : k ≤ n) :
    Calls Tryz.prog 48 #[.pointer (some ⟨g, 0, none⟩), .int .i64 k] w (BrsEnd w g n page (bTo n page top k)) := by
  have c0 := hb.cell 0 (by simp)
  have c1 := hb.cell 1 (by simp)
  have c2 := hb.cell 2 (by simp)
  have c3 := hb.cell 3 (by simp)
  have z2 := hb.frozen 2 (by simp)
  have z3 := hb.frozen 3 (by simp)
  have HB := Aside0.mk hb
  clear hb
  go_enter Tryz.func48, Tryz.ntmps48
  go_wp2
  go_region
  all_goals
    go_end0
    exact ⟨rfl, ((Buf.set HB.out 3 _).set 2 _).drew, (((Below.refl g w).setCell (p := ⟨g, 3, none⟩) (Nat.le_refl _) _).setCell (p := ⟨g, 2, none⟩) (Nat.le_refl _) _).drew⟩
theorem BrsEnd.of {w w' : World} {g : Nat} {n page : Int} {s : Int × Int} {e : Ending} (he : e = .returned (.tuple #[])) (h : Brs w' g n page s.1 s.2) (hb : Below g w w') : BrsEnd w g n page s e w' := ⟨he, h, hb⟩
set_option maxHeartbeats 4000000 in
set_option maxRecDepth 100000 in
theorem key_call_b (g : Nat) (n page top bar key : Int) (w : World) (hb : Brs w g n page top bar) (h1 : 1 ≤ n) (h2 : n ≤ 300) (h3 : 1 ≤ page) (h4 : page ≤ 25) (hI : bInv n page (top, bar)) :
    Calls Tryz.prog 27 #[.pointer (some ⟨g, 0, none⟩), .int .i64 key] w (BrsEnd w g n page (bKey n page (top, bar) key)) := by
  obtain ⟨i1, i2, i3, i4⟩ := hI
  simp only at i1 i2 i3 i4
  have c0 := hb.cell 0 (by simp)
  have c1 := hb.cell 1 (by simp)
  have c2 := hb.cell 2 (by simp)
  have c3 := hb.cell 3 (by simp)
  have z2 := hb.frozen 2 (by simp)
  have z3 := hb.frozen 3 (by simp)
  have HB := Aside0.mk hb
  clear hb
  unfold bKey
  dsimp only
  by_cases k3 : key = 3
  · subst k3
    have HT := Lib.hid (to_call g n page top bar (bar + 1) w HB.out h1 h2 h3 h4 i1 (by omega) (by omega) (by omega))
    rw [if_pos rfl]
    go_enter Tryz.func27, Tryz.ntmps27
    go_wp2_with (go_at_call 48; refine HT.out.mono ?_; rintro e w1 ⟨rfl, hq, hbl⟩; have HQ := Aside0.mk (And.intro hq hbl); clear hq hbl)
    go_end0
    exact ⟨rfl, HQ.out.1, HQ.out.2⟩
  · have t3 : (key == 3) = false := by simpa using k3
    rw [if_neg k3]
    by_cases k2 : key = 2
    · subst k2
      have HT := Lib.hid (to_call g n page top bar (bar - 1) w HB.out h1 h2 h3 h4 i1 (by omega) (by omega) (by omega))
      rw [if_pos rfl]
      go_enter Tryz.func27, Tryz.ntmps27
      go_wp2_with (go_at_call 48; refine HT.out.mono ?_; rintro e w1 ⟨rfl, hq, hbl⟩; have HQ := Aside0.mk (And.intro hq hbl); clear hq hbl)
      go_end0
      exact ⟨rfl, HQ.out.1, HQ.out.2⟩
    · have t2 : (key == 2) = false := by simpa using k2
      rw [if_neg k2]
      by_cases k9 : key = 9
      · subst k9
        have HT := Lib.hid (to_call g n page top bar 0 w HB.out h1 h2 h3 h4 i1 (by omega) (by omega) (by omega))
        rw [if_pos rfl]
        go_enter Tryz.func27, Tryz.ntmps27
        go_wp2_with (go_at_call 48; refine HT.out.mono ?_; rintro e w1 ⟨rfl, hq, hbl⟩; have HQ := Aside0.mk (And.intro hq hbl); clear hq hbl)
        go_end0
        exact ⟨rfl, HQ.out.1, HQ.out.2⟩
      · have t9 : (key == 9) = false := by simpa using k9
        rw [if_neg k9]
        by_cases k10 : key = 10
        · subst k10
          have HT := Lib.hid (to_call g n page top bar (n - 1) w HB.out h1 h2 h3 h4 i1 (by omega) (by omega) (by omega))
          rw [if_pos rfl]
          go_enter Tryz.func27, Tryz.ntmps27
          go_wp2_with (go_at_call 48; refine HT.out.mono ?_; rintro e w1 ⟨rfl, hq, hbl⟩; have HQ := Aside0.mk (And.intro hq hbl); clear hq hbl)
          go_end0
          exact ⟨rfl, HQ.out.1, HQ.out.2⟩
        · have t10 : (key == 10) = false := by simpa using k10
          rw [if_neg k10]
          by_cases k5 : key = 5
          · subst k5
            rw [if_pos rfl]
            by_cases hr : top + page ≥ n
            · rw [if_pos hr]
              go_enter Tryz.func27, Tryz.ntmps27
              go_wp2
              go_quiet (fail)
              go_wp2
              go_end0
              exact ⟨rfl, Buf.set (Buf.drewN HB.out _) 3 _, (pw_below_drewN (Below.refl g w) _).setCell (p := ⟨g, 3, none⟩) (Nat.le_refl _) _⟩
            · rw [if_neg hr]
              go_enter Tryz.func27, Tryz.ntmps27
              go_wp2
              go_quiet (fail)
              go_wp2
              go_region
              all_goals
                go_wp2
                go_region
                all_goals
                  go_wp2
                  go_end0
                  exact ⟨rfl, (Buf.set (Buf.set (Buf.drewN HB.out _) 2 _) 3 _).drew, (((pw_below_drewN (Below.refl g w) _).setCell (p := ⟨g, 2, none⟩) (Nat.le_refl _) _).setCell (p := ⟨g, 3, none⟩) (Nat.le_refl _) _).drew⟩
          · have t5 : (key == 5) = false := by simpa using k5
            rw [if_neg k5]
            by_cases k4 : key = 4
            · subst k4
              rw [if_pos rfl]
              go_enter Tryz.func27, Tryz.ntmps27
              go_wp2
              go_region
              all_goals
                go_wp2
                go_region
                all_goals
                  go_wp2
                  go_end0
                  exact ⟨rfl, (Buf.set (Buf.set HB.out 2 _).drew 3 _).drew, (((Below.refl g w).setCell (p := ⟨g, 2, none⟩) (Nat.le_refl _) _).drew.setCell (p := ⟨g, 3, none⟩) (Nat.le_refl _) _).drew⟩
            · have t4 : (key == 4) = false := by simpa using k4
              rw [if_neg k4]
              go_enter Tryz.func27, Tryz.ntmps27
              go_wp2
              go_end0
              exact ⟨rfl, HB.out, Below.refl _ _⟩
end Go.Proofs.YtnkkccafdbaoeaaGreatDoor.H
