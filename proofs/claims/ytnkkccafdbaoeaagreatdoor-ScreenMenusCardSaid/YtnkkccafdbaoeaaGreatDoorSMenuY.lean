/-
  A menu: what a key does, walked.
-/
import Derived.Test.YtnkkccafdbaoeaaGreatDoorSMenuX
import Derived.Test.YtnkkccafdbaoeaaGreatDoorSClone
namespace Go.Proofs.YtnkkccafdbaoeaaGreatDoor.H
open Go.RowKit Go.Proofs.YtnkkccafdbaoeaaGreatDoorW.PrintWords Go.Proofs.YtnkkccafdbaoeaaGreatDoorW.PrintLast Go.Proofs.YtnkkccafdbaoeaaGreatDoorW.PrintMore
set_option linter.unusedVariables false
set_option linter.unusedSimpArgs false

set_option maxHeartbeats 4000000 in
set_option maxRecDepth 100000 in
theorem mkey_call (g : Nat) (A : Option Addr) (O : Option Addr) (n ci co : Nat) (a : Int) (os : List Bool) (its : List ByteArray) (key : Int) (w : World) (hM : Mnu w g (.slice A n ci) O n co a) (hO : ∀ W, Below g w W → Rows W O (boolsV os)) (hA : ∀ W, Below g w W → Rows W A (strsV its)) (hos : os.length = n) (hit : its.length = n) (hz : ∀ s ∈ its, 1 ≤ s.size) (h1 : 1 ≤ n) (h2 : n ≤ 200) (ha : 0 ≤ a) (ha2 : a < n) :
    Calls Tryz.prog 34 #[.pointer (some ⟨g, 0, none⟩), .int .i64 key] w (MEnd w g (.slice A n ci) O n co (mKey n (onB os) (sameB its) a key)) := by
  have hgl := hM.lt
  have HM0 := Aside0.mk hM
  have HM := Aside0.mk (Buf.alloc (Buf.alloc hM (.cells #[.pointer (some ⟨g, 0, none⟩)] 62)) (.cells #[.int .i64 key] 3))
  have HB := Aside0.mk ((below_alloc (below_alloc (Below.refl w.heap.size w) (.cells #[.pointer (some ⟨g, 0, none⟩)] 62)) (.cells #[.int .i64 key] 3)).mono (Nat.le_of_lt hgl))
  have HO := Aside0.mk hO
  have HA := Aside0.mk hA
  have HT := Lib.hid (fun a step W hm ho => mto_any g A O n ci co a step os W hm ho hos h1 h2)
  have HS := Lib.hid (fun a step k W hm ho => mto_same g w.heap.size (w.heap.size + 1) A O n ci co a step os its k W hm ho hos hit hz h1 h2)
  clear hM hO hA hz
  unfold mKey
  by_cases k1 : key = 3 ∨ key = 5
  · rw [if_pos k1]
    have HC := Lib.hid (HT.out a 1 _ HM.out (HO.out _ HB.out) ha ha2 (.inl rfl))
    rcases k1 with rfl | rfl
    · go_enter Tryz.func34, Tryz.ntmps34
      go_wp2_with (go_at_call 32; refine HC.out.mono ?_; rintro e w1 ⟨rfl, hm, hb⟩; have HQ := Aside0.mk (And.intro hm hb); clear hm hb)
      go_end0
      exact ⟨rfl, HQ.out.1, HB.out.trans HQ.out.2⟩
    · go_enter Tryz.func34, Tryz.ntmps34
      go_wp2_with (go_at_call 32; refine HC.out.mono ?_; rintro e w1 ⟨rfl, hm, hb⟩; have HQ := Aside0.mk (And.intro hm hb); clear hm hb)
      go_end0
      exact ⟨rfl, HQ.out.1, HB.out.trans HQ.out.2⟩
  · rw [if_neg k1]
    have t3 : (key == 3) = false := by simp; omega
    have t5 : (key == 5) = false := by simp; omega
    by_cases k2 : key = 2 ∨ key = 4
    · rw [if_pos k2]
      have HC := Lib.hid (HT.out a (-1) _ HM.out (HO.out _ HB.out) ha ha2 (.inr rfl))
      rcases k2 with rfl | rfl
      · go_enter Tryz.func34, Tryz.ntmps34
        go_wp2_with (go_at_call 32; refine HC.out.mono ?_; rintro e w1 ⟨rfl, hm, hb⟩; have HQ := Aside0.mk (And.intro hm hb); clear hm hb)
        go_end0
        exact ⟨rfl, HQ.out.1, HB.out.trans HQ.out.2⟩
      · go_enter Tryz.func34, Tryz.ntmps34
        go_wp2_with (go_at_call 32; refine HC.out.mono ?_; rintro e w1 ⟨rfl, hm, hb⟩; have HQ := Aside0.mk (And.intro hm hb); clear hm hb)
        go_end0
        exact ⟨rfl, HQ.out.1, HB.out.trans HQ.out.2⟩
    · rw [if_neg k2]
      have t2 : (key == 2) = false := by simp; omega
      have t4 : (key == 4) = false := by simp; omega
      have c0 := HM.out.cell 0 (by simp)
      have c2 := HM.out.cell 2 (by simp)
      have z2 := HM.out.frozen 2 (by simp)
      by_cases k9 : key = 9
      · rw [if_pos k9]
        subst k9
        have HM9 := Aside0.mk ((((Buf.set HM0.out 2 (.int .i64 ((n : Int) - 1))).alloc (.cells #[.pointer (some ⟨g, 0, none⟩)] 62)).alloc (.cells #[.int .i64 9] 3)).drew)
        have HB9 := Aside0.mk (((((Below.refl g w).setCell (p := ⟨g, 2, none⟩) (Nat.le_refl _) (.int .i64 ((n : Int) - 1))).alloc (by simp; omega) (.cells #[.pointer (some ⟨g, 0, none⟩)] 62)).alloc (by simp; omega) (.cells #[.int .i64 9] 3)).drew)
        have HC := Lib.hid (HT.out ((n : Int) - 1) 1 _ HM9.out (HO.out _ HB9.out) (by omega) (by omega) (.inl rfl))
        go_enter Tryz.func34, Tryz.ntmps34
        go_wp2
        go_region
        all_goals
          go_wp2_with (go_at_call 32; refine HC.out.mono ?_; rintro e w1 ⟨rfl, hm, hb⟩; have HQ := Aside0.mk (And.intro hm hb); clear hm hb)
          go_end0
          exact ⟨rfl, HQ.out.1, HB9.out.trans HQ.out.2⟩
      · rw [if_neg k9]
        have t9 : (key == 9) = false := by simp; omega
        by_cases k10 : key = 10
        · rw [if_pos k10]
          subst k10
          have HM9 := Aside0.mk (((Buf.set HM0.out 2 (.int .i64 0)).alloc (.cells #[.pointer (some ⟨g, 0, none⟩)] 62)).alloc (.cells #[.int .i64 10] 3))
          have HB9 := Aside0.mk ((((Below.refl g w).setCell (p := ⟨g, 2, none⟩) (Nat.le_refl _) (.int .i64 0)).alloc (by simp; omega) (.cells #[.pointer (some ⟨g, 0, none⟩)] 62)).alloc (by simp; omega) (.cells #[.int .i64 10] 3))
          have HC := Lib.hid (HT.out 0 (-1) _ HM9.out (HO.out _ HB9.out) (by omega) (by omega) (.inr rfl))
          go_enter Tryz.func34, Tryz.ntmps34
          go_wp2_with (go_at_call 32; refine HC.out.mono ?_; rintro e w1 ⟨rfl, hm, hb⟩; have HQ := Aside0.mk (And.intro hm hb); clear hm hb)
          go_end0
          exact ⟨rfl, HQ.out.1, HB9.out.trans HQ.out.2⟩
        · rw [if_neg k10]
          have t10 : (key == 10) = false := by simp; omega
          have HCh := Lib.hid (isChar_call key)
          by_cases kc : 32 ≤ key ∧ key ≤ 126
          · rw [if_pos kc]
            have hch : chB key = true := by simp [chB, kc]
            rw [hch] at HCh
            obtain ⟨kn, rfl⟩ : ∃ kn : Nat, key = kn := Int.eq_ofNat_of_zero_le (by omega)
            have hmf : ∀ (fn : Fn) (first cap : Array Value) (w : World), (Instr.makeFunc fn first cap).run Tryz.prog w = .ok (.func fn first cap) w := fun _ _ _ _ => rfl
            have HSe : Aside0 (Sees ((w.alloc (.cells #[.pointer (some ⟨g, 0, none⟩)] 62)).alloc (.cells #[.int .i64 kn] 3)) g w.heap.size (w.heap.size + 1) A O n ci co a its kn) := ⟨⟨HM.out, by simp, by simp, HA.out _ HB.out⟩⟩
            go_enter Tryz.func34, Tryz.ntmps34
            go_wp2_with (first
              | (go_at_call 17; refine (HCh.out _).mono ?_; rintro e w1 ⟨rfl, hd⟩; have HSe1 := Aside0.mk (HSe.out.drawn hd); have HBd := Aside0.mk (HB.out.trans ((drawn_below hd).mono (by simp; omega))); have e2 := HSe1.out.b2; have e3 := HSe1.out.b3; clear hd)
              | (go_at_call 32; refine (HS.out a 1 kn _ HSe1.out (HO.out _ HBd.out) ha ha2 (.inl rfl) (by omega) (by omega)).mono ?_; rintro e w3 ⟨rfl, hm, hb⟩; have HQ := Aside0.mk (And.intro hm hb); clear hm hb))
            go_end0
            exact ⟨rfl, HQ.out.1, HBd.out.trans HQ.out.2⟩
          · rw [if_neg kc]
            have hch : chB key = false := by simp [chB]; omega
            rw [hch] at HCh
            go_enter Tryz.func34, Tryz.ntmps34
            go_wp2_with (go_at_call 17; refine (HCh.out _).mono ?_; rintro e w1 ⟨rfl, hd⟩; have HMd := Aside0.mk (Buf.drawn HM.out hd); have HBd := Aside0.mk (HB.out.trans ((drawn_below hd).mono (by simp; omega))); clear hd)
            go_end0
            exact ⟨rfl, HMd.out, HBd.out⟩
end Go.Proofs.YtnkkccafdbaoeaaGreatDoor.H
