/-
  The walks of weights, Weights, Count and of Proper with its function that remembers.
-/
import Derived.Test.YtmjldihmcbjfhaaDoorHPageW
namespace Go.Proofs.YtmjldihmcbjfhaaDoor.H
open Go.RowKit Go.Proofs.YtmjldihmcbjfhaaDoorW.PrintWords Go.Proofs.YtmjldihmcbjfhaaDoorW.PrintLast Go.Proofs.YtmjldihmcbjfhaaDoorW.PrintMore Go.Proofs.YtmjldihmcbjfhaaDoor.PPageEncodes
set_option linter.unusedVariables false
set_option linter.unusedSimpArgs false

theorem weight_j0_some (k : Nat) (b p : Int) (x : Bool) : (page_weight.j0 (k + 2) b p x).isSome = true := by
  unfold page_weight.j0 page_upper.f page_plain.f
  repeat first | exact rfl | exact within_some _ _ _ | exact capital_some _ _ _ | refine isSome_ite ?_ ?_ | refine isSome_bind ?_ (fun _ => ?_)
theorem wt_eq (b p c : Int) : page_weight.f 6 b p c = some (wt b p c) := some_of_isSome _ (by
  unfold page_weight.f page_isLetter.f
  repeat first | exact rfl | exact capital_some _ _ _ | exact isCapital_some _ _ | exact weight_j0_some _ _ _ _ | refine isSome_ite ?_ ?_ | refine isSome_bind ?_ (fun _ => ?_))
theorem wt_call (b p c : Int) (w : World) : Calls Tryd.prog 35 #[.int .u8 b, .int .i64 p, .int .i64 c] w fun e w' => e = .returned (.int .u8 (wt b p c)) ∧ Drawn0 w w' :=
  page_weight.calls 6 b p c _ w (wt_eq b p c)

set_option maxHeartbeats 1000000 in
theorem weights_call (s : ByteArray) (p c : Int) (w : World) (hs : s.size ≤ 9223372036854775807) :
    Calls Tryd.prog 28 #[.string s, .int .i64 p, .int .i64 c] w fun e w' =>
      e = .returned (.string (strOfNums ((bytesOf s).map (wt · p c)))) ∧ Below w.heap.size w w' := by
  have HN := Lib.hid (fun b W => wt_call b p c W)
  have HL := Lib.hid (bytesOf_length s)
  obtain ⟨g, hg⟩ : ∃ g : Int → Int, g = fun b => wt b p c := ⟨_, rfl⟩
  have HN' : Hid (∀ (b : Int) (W : World), Calls Tryd.prog 35 #[.int .u8 b, .int .i64 p, .int .i64 c] W fun e w' => e = .returned (.int .u8 (g b)) ∧ Drawn0 W w') := by rw [hg]; exact HN
  rw [← hg]
  clear hg HN
  have hcv := fun W => print_bytes (P := Tryd.prog) 9 36 5 Tryd.underlying9 Tryd.underlying36 Tryd.underlying5 s W
  go_enter Tryd.func28, Tryd.ntmps28
  go_wp2_with fail
  go_loopw [14] (fun i wr => ∃ k : Nat, i = .int .i64 k ∧ Aside0 (k ≤ s.size) ∧ Aside0 (Buf wr w.heap.size 5 (nums .u8 (part g (bytesOf s) k))) ∧ Aside0 (Below w.heap.size w wr)) (fun i _ => s.size - (intOf i).toNat)
  case atStart =>
    refine ⟨0, rfl, ⟨by omega⟩, ⟨?_⟩, ⟨?_⟩⟩
    · rw [part_zero]; exact buf_bytesWorld _ _ _
    · exact bytes_below (Below.refl _ _) (Nat.le_refl _) _ _
  case round =>
    obtain ⟨k, rfl, HK, HBuf, HB⟩ := hrel
    have hk := HK.out
    by_cases hlt : k < s.size
    · have hc := HBuf.out.int k (by rw [part_length, HL.out]; exact hlt)
      have hf := HBuf.out.frozen k (by simpa [nums, part_length, HL.out] using hlt)
      rw [part_get _ _ _ (by rw [HL.out]; exact hlt)] at hc
      go_wp2_with (go_at_call 35; refine (HN'.out _ _).mono ?_; rintro e w2 ⟨rfl, ⟨⟨n2, rfl⟩⟩⟩)
      go_roundw
      case rel =>
        refine ⟨k + 1, by go_num, ⟨by omega⟩, ⟨?_⟩, ⟨?_⟩⟩
        · have h := HBuf.out.set_int k (g ((bytesOf s).getD k 0))
          rw [part_succ _ _ _ (by rw [HL.out]; exact hlt)] at h
          first | exact h | exact h.drewN _
        · first | exact (HB.out.setCell (Nat.le_refl _) _).drewN _ | exact pw_below_drewN (HB.out.setCell (Nat.le_refl _) _) _
      case measure => simp [intOf]; omega
    · have hke : k = s.size := by omega
      have hstr := HBuf.out.string (src := 36) (dst := 9) (cap := grownCap w s.size 0 5) (n := s.size) Tryd.underlying36 Tryd.underlying5 Tryd.underlying9 (by rw [part_length, HL.out])
      rw [hke, ← HL.out, part_all, HL.out] at hstr
      subst hke
      go_wp2
      go_ret
      exact ⟨rfl, HB.out⟩

/-! ### the errors of collations -/
def askC (n p c : Int) : Int := if askP n p ≠ 0 then askP n p else if c < 0 then 1 else if c > 1 then 1 else 0
theorem askedColl_f (s : ByteArray) (p c : Int) : page_askedColl.f 5 p c [s] = some (askC s.size p c) := by
  have h : page_asked.f 5 p [s] = some (askP s.size p) := page_asked.mono _ _ _ _ (asked_f s p)
  unfold page_askedColl.f askC
  rw [h]
  simp only [Option.bind_some]
  by_cases e : askP s.size p = 0
  · rw [if_pos e, if_neg (show ¬ askP s.size p ≠ 0 by simpa using e)]
    split
    · rfl
    · split <;> rfl
  · rw [if_neg e, if_pos (show askP s.size p ≠ 0 from e)]
theorem askedColl_one (s : ByteArray) (p c : Int) (w : World) :
    Calls Tryd.prog 27 #[.int .i64 p, .int .i64 c, .slice (some ⟨w.heap.size, 0, none⟩) 1 1] (w.alloc (.cells #[.string s] 9)) fun e w' => e = .returned (.int .i64 (askC s.size p c)) ∧ Drawn0 (w.alloc (.cells #[.string s] 9)) w' :=
  page_askedColl.calls 5 p c _ 1 [s] _ _ (C_str1 w s) (Nat.le_refl _) (askedColl_f s p c)
theorem askC_le {n p c : Int} (h : askC n p c = 0) : n ≤ 2048 := by
  unfold askC at h
  split at h
  · exact absurd h ‹_›
  · rename_i h1
    exact askP_le (by simpa using h1)

def weightsF (s : ByteArray) (p c : Int) : ByteArray × Int :=
  if askC s.size p c = 0 then (strOfNums ((bytesOf s).map (wt · p c)), 0) else (⟨#[]⟩, askC s.size p c)
set_option maxHeartbeats 400000 in
theorem Weights_call (s : ByteArray) (p c : Int) (w : World) : Calls Tryd.prog 14 #[.string s, .int .i64 p, .int .i64 c] w fun e w' =>
    e = .returned (.tuple #[.string (weightsF s p c).1, .int .i64 (weightsF s p c).2]) ∧ Below w.heap.size w w' := by
  have HA := Lib.hid (fun w => askedColl_one s p c w)
  unfold weightsF
  by_cases h : askC s.size p c = 0
  · have HW := Lib.hid (fun w => weights_call s p c w (by have := askC_le h; omega))
    rw [if_pos h]
    rw [h] at HA
    generalize strOfNums ((bytesOf s).map (wt · p c)) = r at HW ⊢
    clear h
    go_enter Tryd.func14, Tryd.ntmps14
    go_wp2_with (first | (go_at_call 27; refine (HA.out _).mono ?_; rintro e w1 ⟨rfl, ⟨⟨n1, rfl⟩⟩⟩) | (go_at_call 28; refine (HW.out _).mono ?_; rintro e w2 ⟨rfl, hb⟩; have HB := Aside0.mk hb; clear hb))
    go_ret2
    exact ⟨rfl, (pw_below_drewN (below_alloc (Below.refl _ _) _) _).trans (HB.out.mono (by simp))⟩
  · rw [if_neg h]
    have hb : (askC s.size p c != 0) = true := bne_iff_ne.2 h
    clear h
    generalize askC s.size p c = q at HA hb ⊢
    go_enter Tryd.func14, Tryd.ntmps14
    go_wp2_with (first | (go_at_call 27; refine (HA.out _).mono ?_; rintro e w1 ⟨rfl, ⟨⟨n1, rfl⟩⟩⟩))
    go_ret2
    exact ⟨rfl, (pw_below_drewN (below_alloc (Below.refl _ _) _) _)⟩
end Go.Proofs.YtmjldihmcbjfhaaDoor.H
