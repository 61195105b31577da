/-
  A menu: the item that begins with a letter; what a key does, walked.
-/
import Derived.Test.YtnkkccafdbaoeaaGreatDoorSMenuW
import Derived.Test.YtnkkccafdbaoeaaGreatDoorSRFilled
import Derived.Deep.QuietTactic
import Derived.BigQuiet
namespace Go.Proofs.YtnkkccafdbaoeaaGreatDoor.H
open Go.RowKit Go.Proofs.YtnkkccafdbaoeaaGreatDoorW.PrintWords Go.Proofs.YtnkkccafdbaoeaaGreatDoorW.PrintLast Go.Proofs.YtnkkccafdbaoeaaGreatDoorW.PrintMore
set_option linter.unusedVariables false
set_option linter.unusedSimpArgs false

/-- Whether an item begins with a letter. -/
def sameB (its : List ByteArray) (x key : Int) : Bool := decide (capC ((bytesOf (its.getD x.toNat ⟨#[]⟩)).getD 0 0) = capC key)
/-- What the closure sees. -/
structure Sees (w : World) (g B2 B3 : Nat) (A O : Option Addr) (n ci co : Nat) (a : Int) (its : List ByteArray) (key : Nat) : Prop where
  m : Mnu w g (.slice A n ci) O n co a
  b2 : w.cell? ⟨B2, 0, none⟩ = some (.pointer (some ⟨g, 0, none⟩))
  b3 : w.cell? ⟨B3, 0, none⟩ = some (.int .i64 key)
  its : Rows w A (strsV its)
theorem Sees.drawn {w w' : World} {g B2 B3 : Nat} {A O : Option Addr} {n ci co : Nat} {a : Int} {its : List ByteArray} {key : Nat} (h : Sees w g B2 B3 A O n ci co a its key) (hd : Drawn0 w w') : Sees w' g B2 B3 A O n ci co a its key :=
  ⟨Buf.drawn h.m hd, cell_later (drawn_below hd) h.b2, cell_later (drawn_below hd) h.b3, h.its.below (drawn_below hd)⟩
set_option maxHeartbeats 2000000 in
set_option maxRecDepth 100000 in
theorem same_call (g B2 B3 : Nat) (A O : Option Addr) (n ci co : Nat) (a : Int) (its : List ByteArray) (key k : Nat) (w : World) (h : Sees w g B2 B3 A O n ci co a its key) (hn : its.length = n) (hz : ∀ s ∈ its, 1 ≤ s.size) (hk : k < n) (hk1 : 32 ≤ key) (hk2 : key ≤ 126) :
    Calls Tryz.prog 51 #[.int .i64 k, .pointer (some ⟨B2, 0, none⟩), .pointer (some ⟨B3, 0, none⟩)] w fun e w' => e = .returned (.bool (sameB its k key)) ∧ Drawn0 w w' := by
  have c0 := h.m.cell 0 (by simp)
  have b2 := h.b2
  have b3 := h.b3
  obtain ⟨b, o, e1, ck⟩ := h.its.str k (by rw [hn]; exact hk)
  subst e1
  have hsz : 1 ≤ (its.getD k ⟨#[]⟩).size := hz _ (by rw [List.getD_eq_getElem?_getD, List.getElem?_eq_getElem (by omega)]; simp)
  have HE : Aside0 (sameB its k key = (lowC ((bytesOf (its.getD k ⟨#[]⟩)).getD 0 0) == lowC key)) := ⟨by
    unfold sameB
    rw [Int.toNat_natCast]
    exact (decide_eq_decide.2 (low_cap _ _).symm : _ = decide _)⟩
  generalize its.getD k ⟨#[]⟩ = s at ck hsz HE
  obtain ⟨B, hB, hB2⟩ := byte_nat s 0 (by omega)
  have hbt := getElem_bt s 0 (by omega)
  rw [hB] at hbt HE
  have hki : (k : Int) < n := by omega
  have h0s : 0 < s.size := by omega
  have HS := Lib.hid small_call
  have hk3 : key < 256 := by omega
  have hkm : (key : Int) % 256 = key := by omega
  have hku : IntKind.u8.wrap (key : Int) = key := by rw [IntKind.wrap_u8]; exact hkm
  clear h hB
  go_enter Tryz.func51, Tryz.ntmps51
  go_wp2
  go_quiet ((go_at_call 52; exact Calls.quiet_of_same (HS.out _ (by assumption) _)))
  go_wp2
  go_ret
  exact ⟨by rw [HE.out]; rfl, ⟨⟨_, rfl⟩⟩⟩
set_option maxHeartbeats 2000000 in
set_option maxRecDepth 100000 in
theorem mto_same (g B2 B3 : Nat) (A : Option Addr) (O : Option Addr) (n ci co : Nat) (a step : Int) (os : List Bool) (its : List ByteArray) (key : Nat) (w : World) (hM : Sees w g B2 B3 A O n ci co a its key) (hO : Rows w O (boolsV os)) (hos : os.length = n) (hit : its.length = n) (hz : ∀ s ∈ its, 1 ≤ s.size) (h1 : 1 ≤ n) (h2 : n ≤ 200) (ha : 0 ≤ a) (ha2 : a < n) (hs : step = 1 ∨ step = -1) (hk1 : 32 ≤ key) (hk2 : key ≤ 126) :
    Calls Tryz.prog 32 #[.pointer (some ⟨g, 0, none⟩), .int .i64 step, .func (.func 51) #[] #[.pointer (some ⟨B2, 0, none⟩), .pointer (some ⟨B3, 0, none⟩)]] w (MEnd w g (.slice A n ci) O n co (mTo n (fun x => onB os x && sameB its x key) a step)) := by
  have c0 := hM.m.cell 0 (by simp)
  have HM := Aside0.mk hM
  have HA := Lib.hid (fun k hk W hs => same_call g B2 B3 A O n ci co a its key k W hs hit hz hk hk1 hk2)
  have HR := Aside0.mk hO
  clear hM hO
  go_enter Tryz.func32, Tryz.ntmps32
  go_wp2
  go_loopw [7] (fun i wr => ∃ j : Nat, i = .int .i64 ((j : Int) + 1) ∧ Aside0 (j ≤ n) ∧ Aside0 (∀ j', j' < j → (onB os (el n a step 1 j') && sameB its (el n a step 1 j') key) = false) ∧ Aside0 (Drawn0 w wr)) (fun i _ => n + 1 - (intOf i).toNat)
  case atStart => exact ⟨0, rfl, ⟨Nat.zero_le _⟩, ⟨fun j' h => by omega⟩, ⟨Drawn0.refl _⟩⟩
  case round =>
    obtain ⟨j, rfl, HJ, HF, HD⟩ := hrel
    have hj := HJ.out
    have HMr := Aside0.mk (HM.out.drawn HD.out)
    have c1 := HMr.out.m.cell 1 (by simp)
    have c2 := HMr.out.m.cell 2 (by simp)
    have z2 := HMr.out.m.frozen 2 (by simp)
    by_cases hlt : j < n
    · have hji : (j : Int) + 1 ≤ n := by omega
      obtain ⟨X, hXn, hE, hX⟩ := step_el h1 h2 ha ha2 hs hlt
      obtain ⟨b, o, e1, cb⟩ := (HR.out.below (drawn_below HD.out)).bool X (by rw [hos]; exact hXn)
      subst e1
      have HE : Aside0 (onB os (el n a step 1 j) = os.getD X false) := ⟨by rw [hE, onB_at]⟩
      have hXi : (X : Int) < n := by omega
      have hEl := Aside0.mk hE
      have HC := Lib.hid (HA.out X hXn _ HMr.out)
      have HSm : Aside0 (sameB its (el n a step 1 j) key = sameB its X key) := ⟨by rw [hE]⟩
      generalize os.getD X false = q at cb HE
      generalize sameB its X key = sm at HC HSm
      clear hE
      cases q
      · go_wp2
        go_roundw
        case rel => exact ⟨j + 1, by go_num, ⟨by omega⟩, ⟨fun j' h => by
          rcases Nat.lt_or_ge j' j with h' | h'
          · exact HF.out j' h'
          · rw [show j' = j by omega, HE.out]; rfl⟩, HD⟩
        case measure => simp [intOf]; omega
      · cases sm
        · go_wp2_with (go_at_call 51; refine HC.out.mono ?_; rintro e w1 ⟨rfl, hd⟩; have HD1 := Aside0.mk hd; clear hd)
          go_roundw
          case rel => exact ⟨j + 1, by go_num, ⟨by omega⟩, ⟨fun j' h => by
            rcases Nat.lt_or_ge j' j with h' | h'
            · exact HF.out j' h'
            · rw [show j' = j by omega, HE.out, HSm.out]; rfl⟩, ⟨drawn_trans HD.out HD1.out⟩⟩
          case measure => simp [intOf]; omega
        · have HT : Aside0 (mTo n (fun x => onB os x && sameB its x key) a step = X) := ⟨by
            unfold mTo
            rw [ring_hit (pass := fun x => onB os x && sameB its x key) HF.out (show j < ((n : Int)).toNat by omega) (by show (onB os _ && sameB its _ key) = true; rw [HE.out, HSm.out]; rfl), hEl.out]; rfl⟩
          go_wp2_with (go_at_call 51; refine HC.out.mono ?_; rintro e w1 ⟨rfl, hd⟩; have HD1 := Aside0.mk hd; have HM1 := Aside0.mk (HMr.out.drawn hd); have d2 := HM1.out.m.cell 2 (by simp); have y2 := HM1.out.m.frozen 2 (by simp); clear hd)
          go_end0
          exact ⟨rfl, by rw [HT.out]; exact Buf.set HM1.out.m 2 _, ((drawn_below (drawn_trans HD.out HD1.out)).mono (Nat.le_of_lt HM.out.m.lt)).setCell (p := ⟨g, 2, none⟩) (Nat.le_refl _) _⟩
    · obtain rfl : j = n := by omega
      have HT : Aside0 (mTo j (fun x => onB os x && sameB its x key) a step = a) := ⟨by
        unfold mTo
        rw [ring_none (pass := fun x => onB os x && sameB its x key) (fun j' h => HF.out j' (by omega))]; rfl⟩
      have hji : ¬ (j : Int) + 1 ≤ j := by omega
      go_wp2
      go_end0
      exact ⟨rfl, by rw [HT.out]; exact HMr.out.m, (drawn_below HD.out).mono (Nat.le_of_lt HM.out.m.lt)⟩
end Go.Proofs.YtnkkccafdbaoeaaGreatDoor.H
