/-
  A menu: what moves the bar, walked.
-/
import Derived.Test.YtnkkccafdbaoeaaGreatDoorSHand
import Derived.Test.YtnkkccafdbaoeaaGreatDoorSMenuQ
import Derived.Test.YtnkkccafdbaoeaaGreatDoorSBrowseY
namespace Go.Proofs.YtnkkccafdbaoeaaGreatDoor.H
open Go.RowKit Go.Proofs.YtnkkccafdbaoeaaGreatDoorW.PrintWords Go.Proofs.YtnkkccafdbaoeaaGreatDoorW.PrintLast Go.Proofs.YtnkkccafdbaoeaaGreatDoorW.PrintMore
set_option linter.unusedVariables false
set_option linter.unusedSimpArgs false

set_option maxHeartbeats 1000000 in
theorem small_call (c : Nat) (hc : c < 256) (w : World) : Calls Tryz.prog 52 #[.int .u8 c] w fun e w' => e = .returned (.int .u8 (lowC c)) ∧ w' = w := by
  by_cases h : 65 ≤ c ∧ c ≤ 90
  · have h1 : (65 : Int) ≤ c := by omega
    have h2 : (c : Int) ≤ 90 := by omega
    have e : lowC c = c + 32 := by unfold lowC; rw [if_pos ⟨h1, h2⟩]
    rw [e]
    go_enter Tryz.func52, Tryz.ntmps52
    go_wp2
    go_ret
    exact ⟨by show Ending.returned (.int .u8 ((c : Int) + 97 - 65)) = _; rw [show (c : Int) + 97 - 65 = c + 32 by omega], rfl⟩
  · have e : lowC c = c := by unfold lowC; rw [if_neg (by omega)]
    rw [e]
    by_cases h1 : 65 ≤ c
    · have h1i : (65 : Int) ≤ c := by omega
      have h2 : ¬ (c : Int) ≤ 90 := by omega
      go_enter Tryz.func52, Tryz.ntmps52
      go_wp2
      go_ret
      exact ⟨rfl, rfl⟩
    · have h1i : ¬ (65 : Int) ≤ c := by omega
      go_enter Tryz.func52, Tryz.ntmps52
      go_wp2
      go_ret
      exact ⟨rfl, rfl⟩
theorem any_call (k : Int) (w : World) : Calls Tryz.prog 33 #[.int .i64 k] w fun e w' => e = .returned (.bool true) ∧ w' = w := by
  go_enter Tryz.func33, Tryz.ntmps33
  go_wp2
  go_ret
  exact ⟨rfl, rfl⟩
/-- The block of a menu. -/
def Mnu (w : World) (g : Nat) (I : Value) (O : Option Addr) (n co : Nat) (a : Int) : Prop := Buf w g 64 [I, .slice O n co, .int .i64 a]
def onB (os : List Bool) (x : Int) : Bool := decide (0 ≤ x) && os.getD x.toNat false
def MEnd (w : World) (g : Nat) (I : Value) (O : Option Addr) (n co : Nat) (a : Int) (e : Ending) (w' : World) : Prop := e = .returned (.tuple #[]) ∧ Mnu w' g I O n co a ∧ Below g w w'
theorem tmod_el (n a s : Int) (j : Nat) (hn : 0 < n) : ((a + ((j : Int) + 1) * s).tmod n + n).tmod n = el n a s 1 j := by
  unfold el
  have h1 : (a + ((j : Int) + 1) * s).tmod n + n ≥ 0 := by
    have := Int.lt_tmod_of_pos (a + ((j : Int) + 1) * s) hn
    omega
  rw [Int.tmod_eq_emod_of_nonneg h1, Int.add_emod_right]
  rw [Int.tmod_eq_emod]
  split
  · simp
  · rw [Int.natAbs_of_nonneg (by omega)]; simp [Int.sub_emod]
theorem step_el {n : Nat} {a step : Int} {j : Nat} (h1 : 1 ≤ n) (h2 : n ≤ 200) (ha : 0 ≤ a) (ha2 : a < n) (hs : step = 1 ∨ step = -1) (hj : j < n) : ∃ X : Nat, X < n ∧ el n a step 1 j = X ∧
    (wrap64 ((wrap64 (a + wrap64 (((j : Int) + 1) * step))).tmod n + n)).tmod n = X := by
  have hn : (0 : Int) < n := by omega
  obtain ⟨X, hX⟩ : ∃ X : Nat, el n a step 1 j = X := Int.eq_ofNat_of_zero_le (Int.emod_nonneg _ (by omega))
  refine ⟨X, ?_, hX, ?_⟩
  · have := Int.emod_lt_of_pos (a + ((j : Int) + 1) * step) hn
    unfold el at hX
    omega
  · rw [← hX, ← tmod_el n a step j hn]
    have hm : -200 ≤ ((j : Int) + 1) * step ∧ ((j : Int) + 1) * step ≤ 200 := by
      rcases hs with rfl | rfl <;> omega
    have b1 := Int.lt_tmod_of_pos (a + ((j : Int) + 1) * step) hn
    have b2 := Int.tmod_lt_of_pos (a + ((j : Int) + 1) * step) hn
    have e1 : wrap64 (((j : Int) + 1) * step) = ((j : Int) + 1) * step := by unfold wrap64; omega
    have e2 : wrap64 (a + ((j : Int) + 1) * step) = a + ((j : Int) + 1) * step := by unfold wrap64; omega
    rw [e1, e2]
    have e3 : wrap64 ((a + ((j : Int) + 1) * step).tmod n + n) = (a + ((j : Int) + 1) * step).tmod n + n := by unfold wrap64; omega
    rw [e3]
theorem onB_at {os : List Bool} (X : Nat) : onB os (X : Int) = os.getD X false := by
  unfold onB
  simp
set_option maxHeartbeats 2000000 in
set_option maxRecDepth 100000 in
theorem mto_any (g : Nat) (A : Option Addr) (O : Option Addr) (n ci co : Nat) (a step : Int) (os : List Bool) (w : World) (hM : Mnu w g (.slice A n ci) O n co a) (hO : Rows w O (boolsV os)) (hos : os.length = n) (h1 : 1 ≤ n) (h2 : n ≤ 200) (ha : 0 ≤ a) (ha2 : a < n) (hs : step = 1 ∨ step = -1) :
    Calls Tryz.prog 32 #[.pointer (some ⟨g, 0, none⟩), .int .i64 step, .func (.func 33) #[] #[]] w (MEnd w g (.slice A n ci) O n co (mTo n (onB os) a step)) := by
  have c0 := hM.cell 0 (by simp)
  have c1 := hM.cell 1 (by simp)
  have c2 := hM.cell 2 (by simp)
  have z2 := hM.frozen 2 (by simp)
  have HM := Aside0.mk hM
  have HA := Lib.hid any_call
  have HR := Aside0.mk hO
  clear hM hO
  go_enter Tryz.func32, Tryz.ntmps32
  go_wp2
  go_loopw [7] (fun i wr => ∃ j : Nat, i = .int .i64 ((j : Int) + 1) ∧ Aside0 (j ≤ n) ∧ Aside0 (∀ j', j' < j → onB os (el n a step 1 j') = false) ∧ Aside0 (wr = w)) (fun i _ => n + 1 - (intOf i).toNat)
  case atStart => exact ⟨0, rfl, ⟨Nat.zero_le _⟩, ⟨fun j' h => by omega⟩, ⟨rfl⟩⟩
  case round =>
    obtain ⟨j, rfl, HJ, HF, HW⟩ := hrel
    have hj := HJ.out
    have hwr := HW.out
    subst hwr
    by_cases hlt : j < n
    · have hji : (j : Int) + 1 ≤ n := by omega
      obtain ⟨X, hXn, hE, hX⟩ := step_el h1 h2 ha ha2 hs hlt
      obtain ⟨b, o, e1, cb⟩ := HR.out.bool X (by rw [hos]; exact hXn)
      subst e1
      have HE : Aside0 (onB os (el n a step 1 j) = os.getD X false) := ⟨by rw [hE, onB_at]⟩
      have hXi : (X : Int) < n := by omega
      have hEl := Aside0.mk hE
      generalize os.getD X false = q at cb HE
      clear hE
      cases q
      · go_wp2
        go_roundw
        case rel => exact ⟨j + 1, by go_num, ⟨by omega⟩, ⟨fun j' h => by
          rcases Nat.lt_or_ge j' j with h' | h'
          · exact HF.out j' h'
          · rw [show j' = j by omega]; exact HE.out⟩, ⟨by first | rfl | trivial⟩⟩
        case measure => simp [intOf]; omega
      · have HT : Aside0 (mTo n (onB os) a step = X) := ⟨by
          unfold mTo
          rw [ring_hit HF.out (show j < ((n : Int)).toNat by omega) HE.out, hEl.out]; rfl⟩
        go_wp2_with (go_at_call 33; refine (HA.out _ _).mono ?_; rintro e w1 ⟨rfl, rfl⟩)
        go_end0
        exact ⟨rfl, by rw [HT.out]; exact Buf.set HM.out 2 _, (Below.refl g _).setCell (p := ⟨g, 2, none⟩) (Nat.le_refl _) _⟩
    · obtain rfl : j = n := by omega
      have HT : Aside0 (mTo j (onB os) a step = a) := ⟨by
        unfold mTo
        rw [ring_none (fun j' h => HF.out j' (by omega))]; rfl⟩
      have hji : ¬ (j : Int) + 1 ≤ j := by omega
      go_wp2
      go_end0
      exact ⟨rfl, by rw [HT.out]; exact HM.out, Below.refl _ _⟩
end Go.Proofs.YtnkkccafdbaoeaaGreatDoor.H
