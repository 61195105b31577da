/-
  Convert with its errors, and the walk of the law PageConverts.
-/
import Derived.Test.YtmjldihmcbjfhaaHConvR
import Derived.Test.YtmjldihmcbjfhaaHArrs
namespace Go.Proofs.Ytmjldihmcbjfhaa.H
open Go.RowKit Go.Proofs.YtmjldihmcbjfhaaW.PrintWords Go.Proofs.YtmjldihmcbjfhaaW.PrintLast Go.Proofs.YtmjldihmcbjfhaaW.PrintMore Go.Proofs.Ytmjldihmcbjfhaa.PPageCases
set_option linter.unusedVariables false
set_option linter.unusedSimpArgs false

set_option maxHeartbeats 1000000 in
theorem convert_call (s : ByteArray) (F T by_ : Int) (w : World) : Calls Try.prog 28 #[.string s, .int .i64 F, .int .i64 T, .int .u8 by_] w fun e w' =>
    e = .returned (.tuple #[.string (convF s F T by_).1, .int .i64 (convF s F T by_).2.1, .int .i64 (convF s F T by_).2.2]) ∧ Below w.heap.size w w' := by
  unfold convF
  by_cases h : askV s.size F T = 0
  · rw [if_pos h]
    obtain ⟨h1, h2⟩ := askV_zero h
    obtain ⟨h3, h4, h5⟩ := askP_zero h1
    obtain ⟨_, h6, h7⟩ := askP_zero h2
    obtain ⟨F, rfl⟩ : ∃ B : Nat, F = B := Int.eq_ofNat_of_zero_le h4
    obtain ⟨T, rfl⟩ : ∃ B : Nat, T = B := Int.eq_ofNat_of_zero_le h6
    exact convert_ok s F T by_ w (by omega) (by omega) (by omega) h1 h2
  · rw [if_neg h]
    have HA := Lib.hid (fun w => asked_one s F w)
    have HA2 := Lib.hid (fun w => asked_none T w)
    by_cases h1 : askP s.size F = 0
    · rw [h1] at HA
      have e : askV s.size F T = askP 0 T := by unfold askV; rw [if_neg (by simpa using h1)]
      have hb : (askP 0 T != 0) = true := bne_iff_ne.2 (by rw [← e]; exact h)
      rw [e]
      clear h h1 e
      generalize askP 0 T = q at HA2 hb ⊢
      have tok1 : True := trivial
      go_enter Try.func28, Try.ntmps28
      go_wp2_with (first
        | (have _t := tok1; go_at_call 30; refine (HA.out _).mono ?_; rintro e w1 ⟨rfl, ⟨⟨n1, rfl⟩⟩⟩; clear _t tok1)
        | (go_at_call 30; refine (HA2.out _).mono ?_; rintro e w2 ⟨rfl, ⟨⟨n2, rfl⟩⟩⟩))
      go_ret3
      exact ⟨rfl, pw_below_drewN (below_alloc (Below.refl _ _) _) _⟩
    · have e : askV s.size F T = askP s.size F := by unfold askV; rw [if_pos h1]
      have hb : (askP s.size F != 0) = true := bne_iff_ne.2 h1
      rw [e]
      clear h h1 e HA2
      generalize askP s.size F = q at HA hb ⊢
      go_enter Try.func28, Try.ntmps28
      go_wp2_with (go_at_call 30; refine (HA.out _).mono ?_; rintro e w1 ⟨rfl, ⟨⟨n1, rfl⟩⟩⟩)
      go_ret3
      exact ⟨rfl, pw_below_drewN (below_alloc (Below.refl _ _) _) _⟩

set_option maxHeartbeats 2000000 in
theorem law_converts (s : ByteArray) (F T : Int) (by_ : Int) (w : World) (hs : s.size ≤ maxLen) (_hb : (Lit.int .u8 by_).wf = true) :
    Calls Try.prog 9 #[.string s, .agg #[.int .i64 F, .int .i64 T], .int .u8 by_] w fun e w' => e = .returned (.bool true) ∧ Below w.heap.size w w' := by
  have HO := Lib.hid (fun w => over_call s w)
  have HK := Lib.hid (fun w => known_call w)
  have H1 := Lib.hid (fun w => convert_call s F T by_ w)
  have H2 := Lib.hid (fun w => rconvert_call s F T by_ w)
  generalize convF s F T by_ = r1 at H1 H2
  obtain ⟨a1, a2, a3⟩ := r1
  generalize decide ((s.size : Int) > 16384) = o1 at HO
  clear hs _hb
  cases o1
  · go_enter Try.func9, Try.ntmps9
    go_wp2_with (first | (go_at_call 10; with_reducible refine (HO.out _).mono ?_; rintro e w0 ⟨rfl, ⟨⟨n1, rfl⟩⟩⟩) | (go_at_call 28; refine (H1.out _).mono ?_; rintro e w1 ⟨rfl, hb1⟩; have hx1 := boxed (w := w) (g := w.heap.size) hb1 (heap_alloc_new w _); have c1_0 := (blk_cell hx1 0).trans rfl; have c1_1 := (blk_cell hx1 1).trans rfl; have HX1 := Aside0.mk hx1; clear hx1; have HB1 := Aside0.mk hb1; clear hb1) | (go_at_call 29; refine (H2.out _).mono ?_; rintro e w2 ⟨rfl, hb2⟩; have HB2 := Aside0.mk hb2; clear hb2) | (go_at_call 11; refine (HK.out _).mono ?_; rintro e w9 ⟨rfl, hb9⟩; have HB9 := Aside0.mk hb9; clear hb9))
    go_ret
    exact ⟨by simp, nx (nx ((pw_below_drewN (below_alloc (Below.refl _ _) _) _).trans (HB1.out.mono (by simp))) HB2.out) HB9.out⟩
  · go_enter Try.func9, Try.ntmps9
    go_wp2_with (first | (go_at_call 10; with_reducible refine (HO.out _).mono ?_; rintro e w0 ⟨rfl, ⟨⟨n1, rfl⟩⟩⟩) | (go_at_call 11; refine (HK.out _).mono ?_; rintro e w9 ⟨rfl, hb9⟩; have HB9 := Aside0.mk hb9; clear hb9))
    go_ret
    exact ⟨rfl, ((pw_below_drewN (below_alloc (Below.refl _ _) _) _).trans (HB9.out.mono (by simp)))⟩
end Go.Proofs.Ytmjldihmcbjfhaa.H
