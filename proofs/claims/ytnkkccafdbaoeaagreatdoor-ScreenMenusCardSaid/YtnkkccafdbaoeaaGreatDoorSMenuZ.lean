/-
  A menu, whole: the program's.
-/
import Derived.Test.YtnkkccafdbaoeaaGreatDoorSMenuY
namespace Go.Proofs.YtnkkccafdbaoeaaGreatDoor.H
open Go.RowKit Go.Proofs.YtnkkccafdbaoeaaGreatDoorW.PrintWords Go.Proofs.YtnkkccafdbaoeaaGreatDoorW.PrintLast Go.Proofs.YtnkkccafdbaoeaaGreatDoorW.PrintMore
set_option linter.unusedVariables false
set_option linter.unusedSimpArgs false

/-- Whether an item has a wrong length. -/
def wrongS (s : ByteArray) : Bool := decide (s.size < 1) || decide (200 < s.size)
theorem wrong_call (s : ByteArray) (w : World) : Calls Tryz.prog 29 #[.string s] w fun e w' => e = .returned (.bool (wrongS s)) ∧ w' = w := by
  by_cases h : s.size < 1
  · have hi : (s.size : Int) < 1 := by omega
    have e : wrongS s = true := by simp [wrongS, h]
    rw [e]
    go_enter Tryz.func29, Tryz.ntmps29
    go_wp2
    go_ret
    exact ⟨rfl, rfl⟩
  · have hi : ¬ (s.size : Int) < 1 := by omega
    by_cases h2 : 200 < s.size
    · have hi2 : (200 : Int) < s.size := by omega
      have e : wrongS s = true := by simp [wrongS, h2]
      rw [e]
      go_enter Tryz.func29, Tryz.ntmps29
      go_wp2
      go_ret
      exact ⟨by first | rfl | (simp; done) | (simp; omega), rfl⟩
    · have hi2 : ¬ (200 : Int) < s.size := by omega
      have e : wrongS s = false := by unfold wrongS; rw [decide_eq_false h, decide_eq_false h2]; rfl
      rw [e]
      go_enter Tryz.func29, Tryz.ntmps29
      go_wp2
      go_ret
      exact ⟨by first | rfl | (simp; done) | (simp; omega), rfl⟩
/-- What a search tells: whether something was found. -/
def Found (w : World) (b : Bool) (e : Ending) (w' : World) : Prop := ∃ i : Int, e = .returned (.int .i64 i) ∧ decide (0 ≤ i) = b ∧ w' = w
theorem any_true {α : Type} {p : α → Bool} {l : List α} {k : Nat} {x : α} (hx : l[k]? = some x) (hp : p x = true) : l.any p = true :=
  List.any_eq_true.2 ⟨x, List.mem_of_getElem? hx, hp⟩
theorem any_false {α : Type} {p : α → Bool} {l : List α} (h : ∀ (k : Nat) (x : α), l[k]? = some x → p x = false) : l.any p = false := by
  rw [List.any_eq_false]
  intro x hx
  obtain ⟨k, hk⟩ := List.getElem?_of_mem hx
  rw [h k x hk]; simp
set_option maxHeartbeats 1000000 in
theorem idxw_call (A : Option Addr) (n c : Nat) (its : List ByteArray) (w : World) (hn : n ≤ 9223372036854775807) (hx : its.length = n) (h1 : Rows w A (strsV its)) :
    Calls Tryz.prog 49 #[.slice A n c, .func (.func 29) #[] #[]] w (Found w (its.any wrongS)) := by
  have HW := Lib.hid wrong_call
  have H1 := Aside0.mk h1
  have HX := Aside0.mk hx
  clear h1 hx
  go_enter Tryz.func49, Tryz.ntmps49
  go_wp2
  go_loopw [8] (fun i wr => ∃ k : Nat, i = .int .i64 k ∧ Aside0 (k ≤ n) ∧ Aside0 (∀ (j : Nat) x, j < k → its[j]? = some x → wrongS x = false) ∧ Aside0 (wr = w)) (fun i _ => n - (intOf i).toNat)
  case atStart => exact ⟨0, rfl, ⟨Nat.zero_le _⟩, ⟨fun (j : Nat) x h => by omega⟩, ⟨rfl⟩⟩
  case round =>
    obtain ⟨k, rfl, HK, HF, HW'⟩ := hrel
    have hk := HK.out
    have hwr := HW'.out
    subst hwr
    by_cases hlt : k < n
    · have hki : (k : Int) < n := by omega
      obtain ⟨b, o, e1, ck⟩ := H1.out.str k (by rw [HX.out]; exact hlt)
      subst e1
      have hgd : Aside0 (its[k]? = some (its.getD k ⟨#[]⟩)) := ⟨by rw [List.getD_eq_getElem?_getD, List.getElem?_eq_getElem (by rw [HX.out]; exact hlt)]; rfl⟩
      generalize its.getD k ⟨#[]⟩ = s at ck hgd
      have HC := Lib.hid (HW.out s)
      have HE : Aside0 (wrongS s = wrongS s) := ⟨rfl⟩
      generalize hq : wrongS s = q at HC
      have HQ := Aside0.mk hq
      clear hq HE
      cases q
      · go_wp2_with (go_at_call 29; refine (HC.out _).mono ?_; rintro e w1 ⟨rfl, rfl⟩)
        go_roundw
        case rel => exact ⟨k + 1, by go_num, ⟨by omega⟩, ⟨fun j x hj hx => by
          rcases Nat.lt_or_ge j k with h' | h'
          · exact HF.out j x h' hx
          · have : j = k := by omega
            subst this
            rw [hgd.out] at hx
            rw [← Option.some.inj hx]; exact HQ.out⟩, ⟨by first | rfl | trivial⟩⟩
        case measure => simp [intOf]; omega
      · go_wp2_with (go_at_call 29; refine (HC.out _).mono ?_; rintro e w1 ⟨rfl, rfl⟩)
        go_ret
        exact ⟨_, rfl, by rw [any_true hgd.out HQ.out]; simp, rfl⟩
    · have hki : ¬ (k : Int) < n := by omega
      go_wp2
      go_ret
      refine ⟨_, rfl, ?_, rfl⟩
      rw [any_false (fun j x hx => HF.out j x (by have := (List.getElem?_eq_some_iff.1 hx).1; rw [HX.out] at this; omega) hx)]
      rfl
theorem hasw_call (A : Option Addr) (n c : Nat) (its : List ByteArray) (w : World) (hn : n ≤ 9223372036854775807) (hx : its.length = n) (h1 : Rows w A (strsV its)) :
    Calls Tryz.prog 30 #[.slice A n c, .func (.func 29) #[] #[]] w fun e w' => e = .returned (.bool (its.any wrongS)) ∧ w' = w := by
  have H := Lib.hid (idxw_call A n c its w hn hx h1)
  clear h1 hx
  go_enter Tryz.func30, Tryz.ntmps30
  go_wp2_with (go_at_call 49; refine H.out.mono ?_; rintro e w1 ⟨i, rfl, hi, rfl⟩; have HI := Aside0.mk hi; clear hi)
  go_ret
  exact ⟨by rw [← HI.out]; rfl, rfl⟩
set_option maxHeartbeats 1000000 in
theorem idxb_call (A : Option Addr) (n c : Nat) (os : List Bool) (w : World) (hn : n ≤ 9223372036854775807) (hx : os.length = n) (h1 : Rows w A (boolsV os)) :
    Calls Tryz.prog 50 #[.slice A n c, .bool true] w (Found w (os.any id)) := by
  have H1 := Aside0.mk h1
  have HX := Aside0.mk hx
  clear h1 hx
  go_enter Tryz.func50, Tryz.ntmps50
  go_wp2
  go_loopw [8] (fun i wr => ∃ k : Nat, i = .int .i64 k ∧ Aside0 (k ≤ n) ∧ Aside0 (∀ (j : Nat) x, j < k → os[j]? = some x → x = false) ∧ Aside0 (wr = w)) (fun i _ => n - (intOf i).toNat)
  case atStart => exact ⟨0, rfl, ⟨Nat.zero_le _⟩, ⟨fun (j : Nat) x h => by omega⟩, ⟨rfl⟩⟩
  case round =>
    obtain ⟨k, rfl, HK, HF, HW'⟩ := hrel
    have hk := HK.out
    have hwr := HW'.out
    subst hwr
    by_cases hlt : k < n
    · have hki : (k : Int) < n := by omega
      obtain ⟨b, o, e1, ck⟩ := H1.out.bool k (by rw [HX.out]; exact hlt)
      subst e1
      have hgd : Aside0 (os[k]? = some (os.getD k false)) := ⟨by rw [List.getD_eq_getElem?_getD, List.getElem?_eq_getElem (by rw [HX.out]; exact hlt)]; rfl⟩
      generalize os.getD k false = q at ck hgd
      cases q
      · go_wp2
        go_roundw
        case rel => exact ⟨k + 1, by go_num, ⟨by omega⟩, ⟨fun j x hj hx => by
          rcases Nat.lt_or_ge j k with h' | h'
          · exact HF.out j x h' hx
          · have : j = k := by omega
            subst this
            rw [hgd.out] at hx
            exact (Option.some.inj hx).symm⟩, ⟨by first | rfl | trivial⟩⟩
        case measure => simp [intOf]; omega
      · go_wp2
        go_ret
        exact ⟨_, rfl, by rw [any_true (p := id) hgd.out rfl]; simp, rfl⟩
    · have hki : ¬ (k : Int) < n := by omega
      go_wp2
      go_ret
      refine ⟨_, rfl, ?_, rfl⟩
      rw [any_false (p := id) (fun j x hx => HF.out j x (by have := (List.getElem?_eq_some_iff.1 hx).1; rw [HX.out] at this; omega) hx)]
      rfl
theorem hasb_call (A : Option Addr) (n c : Nat) (os : List Bool) (w : World) (hn : n ≤ 9223372036854775807) (hx : os.length = n) (h1 : Rows w A (boolsV os)) :
    Calls Tryz.prog 31 #[.slice A n c, .bool true] w fun e w' => e = .returned (.bool (os.any id)) ∧ w' = w := by
  have H := Lib.hid (idxb_call A n c os w hn hx h1)
  clear h1 hx
  go_enter Tryz.func31, Tryz.ntmps31
  go_wp2_with (go_at_call 50; refine H.out.mono ?_; rintro e w1 ⟨i, rfl, hi, rfl⟩; have HI := Aside0.mk hi; clear hi)
  go_ret
  exact ⟨by rw [← HI.out]; rfl, rfl⟩
end Go.Proofs.YtnkkccafdbaoeaaGreatDoor.H
