/-
  A menu: the reference's next item, walked.
-/
import Derived.Test.YtnkkccafdbaoeaaGreatDoorSMenuA
namespace Go.Proofs.YtnkkccafdbaoeaaGreatDoor.H
open Go.RowKit Go.Proofs.YtnkkccafdbaoeaaGreatDoorW.PrintWords Go.Proofs.YtnkkccafdbaoeaaGreatDoorW.PrintLast Go.Proofs.YtnkkccafdbaoeaaGreatDoorW.PrintMore
set_option linter.unusedVariables false
set_option linter.unusedSimpArgs false

set_option maxHeartbeats 1000000 in
theorem rcap_call (c : Nat) (hc : c < 256) (w : World) : Calls Tryz.prog 53 #[.int .u8 c] w fun e w' => e = .returned (.int .u8 (capC c)) ∧ w' = w := by
  by_cases h : 97 ≤ c ∧ c ≤ 122
  · have h1 : (97 : Int) ≤ c := by omega
    have h2 : (c : Int) ≤ 122 := by omega
    have e : capC c = (c : Int) - 32 := by unfold capC; rw [if_pos ⟨h1, h2⟩]
    rw [e]
    go_enter Tryz.func53, Tryz.ntmps53
    go_wp2
    go_ret
    exact ⟨rfl, rfl⟩
  · have e : capC c = c := by unfold capC; rw [if_neg (by omega)]
    rw [e]
    by_cases h1 : 97 ≤ c
    · have h1i : (97 : Int) ≤ c := by omega
      have h2 : ¬ (c : Int) ≤ 122 := by omega
      go_enter Tryz.func53, Tryz.ntmps53
      go_wp2
      go_ret
      exact ⟨rfl, rfl⟩
    · have h1i : ¬ (97 : Int) ≤ c := by omega
      go_enter Tryz.func53, Tryz.ntmps53
      go_wp2
      go_ret
      exact ⟨rfl, rfl⟩
theorem tmod_mod (x n : Int) (hn : 0 < n) : (x.tmod n + n).tmod n = x % n := by
  have h1 : x.tmod n + n ≥ 0 := by
    have := Int.lt_tmod_of_pos x hn
    omega
  rw [Int.tmod_eq_emod_of_nonneg h1, Int.add_emod_right]
  rw [Int.tmod_eq_emod]
  split
  · simp
  · rw [Int.natAbs_of_nonneg (by omega)]; simp [Int.sub_emod]
theorem step_el0 {n : Nat} {a step : Int} {j : Nat} (h1 : 1 ≤ n) (h2 : n ≤ 200) (ha : -1 ≤ a) (ha2 : a ≤ n) (hs : step = 1 ∨ step = -1) (hj : j < n) : ∃ X : Nat, X < n ∧ el n a step 0 j = X ∧
    (wrap64 ((wrap64 (a + wrap64 ((j : Int) * step))).tmod n + n)).tmod n = X := by
  have hn : (0 : Int) < n := by omega
  obtain ⟨X, hX⟩ : ∃ X : Nat, el n a step 0 j = X := Int.eq_ofNat_of_zero_le (Int.emod_nonneg _ (by omega))
  have hel : el n a step 0 j = (a + (j : Int) * step) % n := by unfold el; rw [Int.add_zero]
  refine ⟨X, ?_, hX, ?_⟩
  · have := Int.emod_lt_of_pos (a + (j : Int) * step) hn
    rw [hel] at hX
    omega
  · rw [← hX, hel, ← tmod_mod _ _ hn]
    have hm : -200 ≤ (j : Int) * step ∧ (j : Int) * step ≤ 200 := by
      rcases hs with rfl | rfl <;> omega
    have b1 := Int.lt_tmod_of_pos (a + (j : Int) * step) hn
    have b2 := Int.tmod_lt_of_pos (a + (j : Int) * step) hn
    have e1 : wrap64 ((j : Int) * step) = (j : Int) * step := by unfold wrap64; omega
    have e2 : wrap64 (a + (j : Int) * step) = a + (j : Int) * step := by unfold wrap64; omega
    rw [e1, e2]
    have e3 : wrap64 ((a + (j : Int) * step).tmod n + n) = (a + (j : Int) * step).tmod n + n := by unfold wrap64; omega
    rw [e3]
/-- What a call gives that hands back a number. -/
def RetI (w : World) (x : Int) (e : Ending) (w' : World) : Prop := e = .returned (.int .i64 x) ∧ Below w.heap.size w w'
set_option maxHeartbeats 2000000 in
set_option maxRecDepth 100000 in
theorem rnext_any (A : Option Addr) (O : Option Addr) (n ci co : Nat) (a step : Int) (os : List Bool) (w : World) (hO : Rows w O (boolsV os)) (hos : os.length = n) (h1 : 1 ≤ n) (h2 : n ≤ 200) (ha : -1 ≤ a) (ha2 : a ≤ n) (hs : step = 1 ∨ step = -1) :
    Calls Tryz.prog 35 #[.agg #[.slice A n ci, .slice O n co], .int .i64 a, .int .i64 step, .int .u8 0] w (RetI w (rNext n (onB os) a step)) := by
  have HB := Aside0.mk (below_alloc (Below.refl _ w) (.cells #[.slice A n ci, .slice O n co] 67))
  have HR := Aside0.mk (hO.below HB.out)
  have hM := buf_new w #[.slice A n ci, .slice O n co] 67
  have c0 := hM.cell 0 (by simp)
  have c1 := hM.cell 1 (by simp)
  clear hO hM
  go_enter Tryz.func35, Tryz.ntmps35
  go_wp2
  generalize w.alloc (.cells #[.slice A n ci, .slice O n co] 67) = w1 at *
  go_loopw [10] (fun i wr => ∃ j : Nat, i = .int .i64 j ∧ Aside0 (j ≤ n) ∧ Aside0 (∀ j', j' < j → onB os (el n a step 0 j') = false) ∧ Aside0 (wr = w1)) (fun i _ => n - (intOf i).toNat)
  case atStart => exact ⟨0, rfl, ⟨Nat.zero_le _⟩, ⟨fun j' h => by omega⟩, ⟨rfl⟩⟩
  case round =>
    obtain ⟨j, rfl, HJ, HF, HW⟩ := hrel
    have hj := HJ.out
    have hwr := HW.out
    subst hwr
    by_cases hlt : j < n
    · have hji : (j : Int) < n := by omega
      obtain ⟨X, hXn, hE, hX⟩ := step_el0 h1 h2 ha ha2 hs hlt
      obtain ⟨b, o, e1, cb⟩ := HR.out.bool X (by rw [hos]; exact hXn)
      subst e1
      have HE : Aside0 (onB os (el n a step 0 j) = os.getD X false) := ⟨by rw [hE, onB_at]⟩
      have hXi : (X : Int) < n := by omega
      have hEl := Aside0.mk hE
      generalize os.getD X false = q at cb HE
      clear hE
      cases q
      · go_wp2
        go_roundw
        case rel => exact ⟨j + 1, by go_num, ⟨by omega⟩, ⟨fun j' h => by
          rcases Nat.lt_or_ge j' j with h' | h'
          · exact HF.out j' h'
          · rw [show j' = j by omega]; exact HE.out⟩, ⟨by first | rfl | trivial⟩⟩
        case measure => simp [intOf]; omega
      · have HT : Aside0 (rNext n (onB os) a step = X) := ⟨by
          unfold rNext
          rw [ring_hit HF.out (show j < ((n : Int)).toNat by omega) HE.out, hEl.out]; rfl⟩
        go_wp2
        go_ret
        exact ⟨by rw [HT.out]; rfl, HB.out⟩
    · obtain rfl : j = n := by omega
      have HT : Aside0 (rNext j (onB os) a step = -1) := ⟨by
        unfold rNext
        rw [ring_none (fun j' h => HF.out j' (by omega))]; rfl⟩
      have hji : ¬ (j : Int) < j := by omega
      go_wp2
      go_ret
      exact ⟨by rw [HT.out]; rfl, HB.out⟩
set_option maxHeartbeats 2000000 in
set_option maxRecDepth 100000 in
theorem rnext_b (A : Option Addr) (O : Option Addr) (n ci co : Nat) (a step : Int) (os : List Bool) (its : List ByteArray) (key : Nat) (w : World) (hO : Rows w O (boolsV os)) (hA : Rows w A (strsV its)) (hos : os.length = n) (hit : its.length = n) (hz : ∀ s ∈ its, 1 ≤ s.size) (h1 : 1 ≤ n) (h2 : n ≤ 200) (ha : -1 ≤ a) (ha2 : a ≤ n) (hs : step = 1 ∨ step = -1) (hk1 : 32 ≤ key) (hk2 : key ≤ 126) :
    Calls Tryz.prog 35 #[.agg #[.slice A n ci, .slice O n co], .int .i64 a, .int .i64 step, .int .u8 key] w (RetI w (rNext n (fun x => onB os x && sameB its x key) a step)) := by
  have HB := Aside0.mk (below_alloc (Below.refl _ w) (.cells #[.slice A n ci, .slice O n co] 67))
  have HR := Aside0.mk (hO.below HB.out)
  have HA := Aside0.mk (hA.below HB.out)
  have hM := buf_new w #[.slice A n ci, .slice O n co] 67
  have c0 := hM.cell 0 (by simp)
  have c1 := hM.cell 1 (by simp)
  have HC := Lib.hid rcap_call
  have hk3 : key < 256 := by omega
  have hk0 : ((key : Int) == 0) = false := by simp; omega
  clear hO hM hA
  go_enter Tryz.func35, Tryz.ntmps35
  go_wp2
  generalize w.alloc (.cells #[.slice A n ci, .slice O n co] 67) = w1 at *
  go_loopw [10] (fun i wr => ∃ j : Nat, i = .int .i64 j ∧ Aside0 (j ≤ n) ∧ Aside0 (∀ j', j' < j → (onB os (el n a step 0 j') && sameB its (el n a step 0 j') key) = false) ∧ Aside0 (wr = w1)) (fun i _ => n - (intOf i).toNat)
  case atStart => exact ⟨0, rfl, ⟨Nat.zero_le _⟩, ⟨fun j' h => by omega⟩, ⟨rfl⟩⟩
  case round =>
    obtain ⟨j, rfl, HJ, HF, HW⟩ := hrel
    have hj := HJ.out
    have hwr := HW.out
    subst hwr
    by_cases hlt : j < n
    · have hji : (j : Int) < n := by omega
      obtain ⟨X, hXn, hE, hX⟩ := step_el0 h1 h2 ha ha2 hs hlt
      obtain ⟨b, o, e1, cb⟩ := HR.out.bool X (by rw [hos]; exact hXn)
      obtain ⟨b2, o2, e2, cs⟩ := HA.out.str X (by rw [hit]; exact hXn)
      subst e1
      subst e2
      have HE : Aside0 (onB os (el n a step 0 j) = os.getD X false) := ⟨by rw [hE, onB_at]⟩
      have hXi : (X : Int) < n := by omega
      have hEl := Aside0.mk hE
      have hsz : 1 ≤ (its.getD X ⟨#[]⟩).size := hz _ (by rw [List.getD_eq_getElem?_getD, List.getElem?_eq_getElem (by omega)]; simp)
      have HSm : Aside0 (sameB its (el n a step 0 j) key = (capC ((bytesOf (its.getD X ⟨#[]⟩)).getD 0 0) == capC key)) := ⟨by rw [hE]; unfold sameB; rw [Int.toNat_natCast]; rfl⟩
      generalize os.getD X false = q at cb HE
      generalize its.getD X ⟨#[]⟩ = s at cs hsz HSm
      obtain ⟨B, hB, hB2⟩ := byte_nat s 0 (by omega)
      have hbt := getElem_bt s 0 (by omega)
      rw [hB] at hbt HSm
      have h0s : 0 < s.size := by omega
      clear hE hB
      cases q
      · go_wp2
        go_roundw
        case rel => exact ⟨j + 1, by go_num, ⟨by omega⟩, ⟨fun j' h => by
          rcases Nat.lt_or_ge j' j with h' | h'
          · exact HF.out j' h'
          · rw [show j' = j by omega, HE.out]; rfl⟩, ⟨by first | rfl | trivial⟩⟩
        case measure => simp [intOf]; omega
      · by_cases hsm : capC (B : Int) = capC key
        · have t1 : (capC (B : Int) == capC key) = true := by simpa using hsm
          have HT : Aside0 (rNext n (fun x => onB os x && sameB its x key) a step = X) := ⟨by
            unfold rNext
            rw [ring_hit (pass := fun x => onB os x && sameB its x key) HF.out (show j < ((n : Int)).toNat by omega) (by show (onB os _ && sameB its _ key) = true; rw [HE.out, HSm.out, t1]; rfl), hEl.out]; rfl⟩
          go_wp2_with (go_at_call 53; refine (HC.out _ (by assumption) _).mono ?_; rintro e w3 ⟨rfl, hw⟩; have hw := hw.symm; subst hw)
          go_ret
          exact ⟨by rw [HT.out]; rfl, HB.out⟩
        · have t1 : (capC (B : Int) == capC key) = false := by simpa using hsm
          go_wp2_with (go_at_call 53; refine (HC.out _ (by assumption) _).mono ?_; rintro e w3 ⟨rfl, hw⟩; have hw := hw.symm; subst hw)
          go_roundw
          case rel => exact ⟨j + 1, by go_num, ⟨by omega⟩, ⟨fun j' h => by
            rcases Nat.lt_or_ge j' j with h' | h'
            · exact HF.out j' h'
            · rw [show j' = j by omega, HE.out, HSm.out, t1]; rfl⟩, ⟨by first | rfl | trivial⟩⟩
          case measure => simp [intOf]; omega
    · obtain rfl : j = n := by omega
      have HT : Aside0 (rNext j (fun x => onB os x && sameB its x key) a step = -1) := ⟨by
        unfold rNext
        rw [ring_none (pass := fun x => onB os x && sameB its x key) (fun j' h => HF.out j' (by omega))]; rfl⟩
      have hji : ¬ (j : Int) < j := by omega
      go_wp2
      go_ret
      exact ⟨by rw [HT.out]; rfl, HB.out⟩
end Go.Proofs.YtnkkccafdbaoeaaGreatDoor.H
