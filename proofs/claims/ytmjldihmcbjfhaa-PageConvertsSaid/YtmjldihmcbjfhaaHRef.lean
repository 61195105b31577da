/-
  The walks of the reference's functions that replace the bytes of a text one by one.
-/
import Derived.Test.YtmjldihmcbjfhaaHProper
import Derived.Test.YtmjldihmcbjfhaaPPageCasesx4
import Derived.Test.YtmjldihmcbjfhaaPPageCasesx5
namespace Go.Proofs.Ytmjldihmcbjfhaa.H
open Go.RowKit Go.Proofs.YtmjldihmcbjfhaaW.PrintWords Go.Proofs.YtmjldihmcbjfhaaW.PrintLast Go.Proofs.YtmjldihmcbjfhaaW.PrintMore Go.Proofs.Ytmjldihmcbjfhaa.PPageCases
set_option linter.unusedVariables false
set_option linter.unusedSimpArgs false

/-! ### literals of texts and of numbers, as they are read -/
theorem C_strs (w : World) (ss : List ByteArray) (hn : ss.length ≤ 9223372036854775807) : Kd.C Kd.string (w.alloc (.cells (ss.map Value.string).toArray 9)) (some ⟨w.heap.size, 0, none⟩) ss.length ss := by
  refine Kd.C_of_reads (d := ByteArray.empty) ⟨rfl, hn, fun _ => ⟨_, rfl, fun j hj => ?_⟩⟩
  rw [add_plain, cell_of_row _ _ _ _ _ _ (heap_alloc_new w _)]
  simp [List.getElem?_eq_getElem hj, List.getD_eq_getElem?_getD]
theorem C_ints (w : World) (xs : List Int) (hn : xs.length ≤ 9223372036854775807) : Kd.C (Kd.int .i64) (w.alloc (.cells (xs.map (Value.int .i64)).toArray 3)) (some ⟨w.heap.size, 0, none⟩) xs.length xs := by
  refine Kd.C_of_reads (d := 0) ⟨rfl, hn, fun _ => ⟨_, rfl, fun j hj => ?_⟩⟩
  rw [add_plain, cell_of_row _ _ _ _ _ _ (heap_alloc_new w _)]
  simp [List.getElem?_eq_getElem hj, List.getD_eq_getElem?_getD]
theorem rasked_f (s : ByteArray) (p c : Int) : cabinetryref02_asked.f 6 2048 [s] c [p] = some (askC s.size p c) := by
  unfold cabinetryref02_asked.f
  simp only [cabinetryref02_asked.l0, cabinetryref02_asked.l1, rdOf, rd, wrap64]
  unfold askC askP
  simp
  by_cases h1 : (2048 : Int) < s.size
  · simp [h1]
  · by_cases h2 : p < 0
    · simp [h1, h2]
    · by_cases h3 : 2 < p
      · simp [h1, h2, h3]
      · simp [h1, h2, h3]
        by_cases h4 : c = 0
        · simp [h4]
        · by_cases h5 : c = 1
          · simp [h5]
          · simp [h4, h5]; omega
theorem rasked_one (s : ByteArray) (p c : Int) (w : World) :
    Calls Try.prog 39 #[.int .i64 2048, .slice (some ⟨w.heap.size, 0, none⟩) 1 1, .int .i64 c, .slice (some ⟨w.heap.size + 1, 0, none⟩) 1 1] ((w.alloc (.cells #[.string s] 9)).alloc (.cells #[.int .i64 p] 3))
      fun e w' => e = .returned (.int .i64 (askC s.size p c)) ∧ Drawn0 ((w.alloc (.cells #[.string s] 9)).alloc (.cells #[.int .i64 p] 3)) w' := by
  have h1 := Kd.C_below (C_strs w [s] (by simp)) (below_alloc (Below.refl _ _) (.cells #[.int .i64 p] 3))
  have h2 := C_ints (w.alloc (.cells #[.string s] 9)) [p] (by simp)
  have e : (w.alloc (.cells #[.string s] 9)).heap.size = w.heap.size + 1 := by simp
  rw [e] at h2
  exact cabinetryref02_asked.calls 6 2048 _ 1 [s] c _ 1 [p] _ _ h1 (Nat.le_refl _) h2 (Nat.le_refl _) (rasked_f s p c)
theorem askC_zero (n p : Int) : askC n p 0 = askP n p := by
  unfold askC
  split
  · rfl
  · rename_i h
    have : askP n p = 0 := by simpa using h
    rw [this]; simp
theorem bt_getD (s : ByteArray) (k : Nat) : bt s (k : Int) = (bytesOf s).getD k 0 := by
  rw [← rd_bytesOf]; simp [rd]
theorem getElem_bt (s : ByteArray) (k : Nat) (h : k < s.size) : ((s[k]'h).toNat : Int) = (bytesOf s).getD k 0 := by
  rw [← bt_getD, ← bt_at s k (by simpa using h)]
  simp
def rup (b p : Int) : Int := ((cabinetryref02_upper.f 20 b p).getD 0)
def rlo (b p : Int) : Int := ((cabinetryref02_lower.f 20 b p).getD 0)
def risL (b p : Int) : Bool := ((cabinetryref02_IsLetter.f 20 b p).getD false)
theorem pair_some (k : Nat) (b p : Int) : (cabinetryref02_pair.f (k + 8) b p).isSome = true := by
  unfold cabinetryref02_pair.f
  unfold cabinetryref02_pair.j0 cabinetryref02_pair.j1 cabinetryref02_pair.j2 cabinetryref02_pair.j3 cabinetryref02_pair.j4 cabinetryref02_pair.j5 cabinetryref02_pair.j6
  repeat first | exact rfl | refine isSome_ite ?_ ?_ | refine isSome_bind ?_ (fun _ => ?_)
theorem rup_eq (b p : Int) : cabinetryref02_upper.f 20 b p = some (rup b p) := some_of_isSome _ (by
  unfold cabinetryref02_upper.f
  repeat first | exact rfl | exact pair_some _ _ _ | refine isSome_ite ?_ ?_ | refine isSome_bind ?_ (fun _ => ?_))
theorem rlo_eq (b p : Int) : cabinetryref02_lower.f 20 b p = some (rlo b p) := some_of_isSome _ (by
  unfold cabinetryref02_lower.f
  repeat first | exact rfl | exact pair_some _ _ _ | refine isSome_ite ?_ ?_ | refine isSome_bind ?_ (fun _ => ?_))
theorem risL_eq (b p : Int) : cabinetryref02_IsLetter.f 20 b p = some (risL b p) := some_of_isSome _ (by
  unfold cabinetryref02_IsLetter.f
  repeat first | exact rfl | exact pair_some _ _ _ | refine isSome_ite ?_ ?_ | refine isSome_bind ?_ (fun _ => ?_))
theorem rup_call (b p : Int) (w : World) : Calls Try.prog 35 #[.int .u8 b, .int .i64 p] w fun e w' => e = .returned (.int .u8 (rup b p)) ∧ Drawn0 w w' :=
  cabinetryref02_upper.calls 20 b p _ w (rup_eq b p)
theorem rlo_call (b p : Int) (w : World) : Calls Try.prog 46 #[.int .u8 b, .int .i64 p] w fun e w' => e = .returned (.int .u8 (rlo b p)) ∧ Drawn0 w w' :=
  cabinetryref02_lower.calls 20 b p _ w (rlo_eq b p)
theorem risL_call (b p : Int) (w : World) : Calls Try.prog 34 #[.int .u8 b, .int .i64 p] w fun e w' => e = .returned (.bool (risL b p)) ∧ Drawn0 w w' :=
  cabinetryref02_IsLetter.calls 20 b p _ w (risL_eq b p)

set_option maxHeartbeats 1000000 in
theorem rUpper_bad (s : ByteArray) (p : Int) (w : World) (q : Int) (hq : askC s.size p 0 = q) (h0 : (q != 0) = true) :
    Calls Try.prog 23 #[.string s, .int .i64 p] w fun e w' => e = .returned (.tuple #[.string ⟨#[]⟩, .int .i64 q]) ∧ Below w.heap.size w w' := by
  have HA := Lib.hid (fun w => hq ▸ rasked_one s p 0 w)
  clear hq
  go_enter Try.func23, Try.ntmps23
  go_wp2_with (go_at_call 39; refine (HA.out _).mono ?_; rintro e w1 ⟨rfl, ⟨⟨n1, rfl⟩⟩⟩)
  go_ret2
  exact ⟨rfl, pw_below_drewN (below_alloc (below_alloc (Below.refl _ _) _) _) _⟩

set_option maxHeartbeats 2000000 in
theorem rUpper_ok (s : ByteArray) (p : Int) (w : World) (hs : s.size ≤ 2048) (hq : askC s.size p 0 = 0) :
    Calls Try.prog 23 #[.string s, .int .i64 p] w fun e w' =>
      e = .returned (.tuple #[.string (strOfNums ((bytesOf s).map (rup · p))), .int .i64 0]) ∧ Below w.heap.size w w' := by
  have HA := Lib.hid (fun w => hq ▸ rasked_one s p 0 w)
  have HN := Lib.hid (fun b W => rup_call b p W)
  have HL := Lib.hid (bytesOf_length s)
  clear hq
  have hcv := fun W => print_bytes (P := Try.prog) 9 44 5 Try.underlying9 Try.underlying44 Try.underlying5 s W
  go_enter Try.func23, Try.ntmps23
  go_wp2_with (go_at_call 39; refine (HA.out _).mono ?_; rintro e w1 ⟨rfl, hd⟩; have HD := Aside0.mk hd; clear hd)
  have hw1 : w.heap.size ≤ w1.heap.size := by obtain ⟨n1, rfl⟩ := HD.out.out; simp; omega
  have HB1 : Aside0 (Below w.heap.size w (Lib.bytesWorld w1 5 s)) := ⟨by
    obtain ⟨n1, rfl⟩ := HD.out.out
    exact bytes_below (pw_below_drewN (below_alloc (below_alloc (Below.refl _ _) _) _) _) (by simp; omega) _ _⟩
  clear HD
  go_loopw [8] (fun i wr => ∃ k : Nat, i = .int .i64 k ∧ Aside0 (k ≤ s.size) ∧ Aside0 (Buf wr w1.heap.size 5 (nums .u8 (part (rup · p) (bytesOf s) k))) ∧ Aside0 (Below w.heap.size w wr)) (fun i _ => s.size - (intOf i).toNat)
  case atStart =>
    refine ⟨0, rfl, ⟨by omega⟩, ⟨?_⟩, HB1⟩
    rw [part_zero]; exact buf_bytesWorld _ _ _
  case round =>
    obtain ⟨k, rfl, HK, HBuf, HB⟩ := hrel
    have hk := HK.out
    by_cases hlt : k < s.size
    · have hc := HBuf.out.int k (by rw [part_length, HL.out]; exact hlt)
      have hf := HBuf.out.frozen k (by simpa [nums, part_length, HL.out] using hlt)
      rw [part_get _ _ _ (by rw [HL.out]; exact hlt)] at hc
      have hbt := getElem_bt s k hlt
      go_wp2_with (go_at_call 35; refine (HN.out _ _).mono ?_; rintro e w2 ⟨rfl, ⟨⟨n2, rfl⟩⟩⟩)
      go_roundw
      case rel =>
        refine ⟨k + 1, by go_num, ⟨by omega⟩, ⟨?_⟩, ⟨?_⟩⟩
        · have h := HBuf.out.set_int k (rup ((bytesOf s).getD k 0) p)
          rw [part_succ (rup · p) _ _ (by rw [HL.out]; exact hlt)] at h
          first | exact h | exact h.drewN _
        · first | exact (HB.out.setCell hw1 _).drewN _ | exact pw_below_drewN (HB.out.setCell hw1 _) _
      case measure => simp [intOf]; omega
    · have hke : k = s.size := by omega
      have hstr := HBuf.out.string (src := 44) (dst := 9) (cap := grownCap w1 s.size 0 5) (n := s.size) Try.underlying44 Try.underlying5 Try.underlying9 (by rw [part_length, HL.out])
      rw [hke, ← HL.out, part_all, HL.out] at hstr
      subst hke
      go_wp2
      go_ret2
      exact ⟨rfl, HB.out⟩
theorem rUpper_call (s : ByteArray) (p : Int) (w : World) : Calls Try.prog 23 #[.string s, .int .i64 p] w fun e w' =>
    e = .returned (.tuple #[.string (mapF rup s p).1, .int .i64 (mapF rup s p).2]) ∧ Below w.heap.size w w' := by
  unfold mapF
  rw [← askC_zero]
  by_cases h : askC s.size p 0 = 0
  · rw [if_pos h]
    exact rUpper_ok s p w (by have := askC_le h; omega) h
  · rw [if_neg h]
    exact rUpper_bad s p w _ rfl (bne_iff_ne.2 h)

set_option maxHeartbeats 1000000 in
theorem rLower_bad (s : ByteArray) (p : Int) (w : World) (q : Int) (hq : askC s.size p 0 = q) (h0 : (q != 0) = true) :
    Calls Try.prog 24 #[.string s, .int .i64 p] w fun e w' => e = .returned (.tuple #[.string ⟨#[]⟩, .int .i64 q]) ∧ Below w.heap.size w w' := by
  have HA := Lib.hid (fun w => hq ▸ rasked_one s p 0 w)
  clear hq
  go_enter Try.func24, Try.ntmps24
  go_wp2_with (go_at_call 39; refine (HA.out _).mono ?_; rintro e w1 ⟨rfl, ⟨⟨n1, rfl⟩⟩⟩)
  go_ret2
  exact ⟨rfl, pw_below_drewN (below_alloc (below_alloc (Below.refl _ _) _) _) _⟩

set_option maxHeartbeats 2000000 in
theorem rLower_ok (s : ByteArray) (p : Int) (w : World) (hs : s.size ≤ 2048) (hq : askC s.size p 0 = 0) :
    Calls Try.prog 24 #[.string s, .int .i64 p] w fun e w' =>
      e = .returned (.tuple #[.string (strOfNums ((bytesOf s).map (rlo · p))), .int .i64 0]) ∧ Below w.heap.size w w' := by
  have HA := Lib.hid (fun w => hq ▸ rasked_one s p 0 w)
  have HN := Lib.hid (fun b W => rlo_call b p W)
  have HL := Lib.hid (bytesOf_length s)
  clear hq
  have hcv := fun W => print_bytes (P := Try.prog) 9 44 5 Try.underlying9 Try.underlying44 Try.underlying5 s W
  go_enter Try.func24, Try.ntmps24
  go_wp2_with (go_at_call 39; refine (HA.out _).mono ?_; rintro e w1 ⟨rfl, hd⟩; have HD := Aside0.mk hd; clear hd)
  have hw1 : w.heap.size ≤ w1.heap.size := by obtain ⟨n1, rfl⟩ := HD.out.out; simp; omega
  have HB1 : Aside0 (Below w.heap.size w (Lib.bytesWorld w1 5 s)) := ⟨by
    obtain ⟨n1, rfl⟩ := HD.out.out
    exact bytes_below (pw_below_drewN (below_alloc (below_alloc (Below.refl _ _) _) _) _) (by simp; omega) _ _⟩
  clear HD
  go_loopw [8] (fun i wr => ∃ k : Nat, i = .int .i64 k ∧ Aside0 (k ≤ s.size) ∧ Aside0 (Buf wr w1.heap.size 5 (nums .u8 (part (rlo · p) (bytesOf s) k))) ∧ Aside0 (Below w.heap.size w wr)) (fun i _ => s.size - (intOf i).toNat)
  case atStart =>
    refine ⟨0, rfl, ⟨by omega⟩, ⟨?_⟩, HB1⟩
    rw [part_zero]; exact buf_bytesWorld _ _ _
  case round =>
    obtain ⟨k, rfl, HK, HBuf, HB⟩ := hrel
    have hk := HK.out
    by_cases hlt : k < s.size
    · have hc := HBuf.out.int k (by rw [part_length, HL.out]; exact hlt)
      have hf := HBuf.out.frozen k (by simpa [nums, part_length, HL.out] using hlt)
      rw [part_get _ _ _ (by rw [HL.out]; exact hlt)] at hc
      have hbt := getElem_bt s k hlt
      go_wp2_with (go_at_call 46; refine (HN.out _ _).mono ?_; rintro e w2 ⟨rfl, ⟨⟨n2, rfl⟩⟩⟩)
      go_roundw
      case rel =>
        refine ⟨k + 1, by go_num, ⟨by omega⟩, ⟨?_⟩, ⟨?_⟩⟩
        · have h := HBuf.out.set_int k (rlo ((bytesOf s).getD k 0) p)
          rw [part_succ (rlo · p) _ _ (by rw [HL.out]; exact hlt)] at h
          first | exact h | exact h.drewN _
        · first | exact (HB.out.setCell hw1 _).drewN _ | exact pw_below_drewN (HB.out.setCell hw1 _) _
      case measure => simp [intOf]; omega
    · have hke : k = s.size := by omega
      have hstr := HBuf.out.string (src := 44) (dst := 9) (cap := grownCap w1 s.size 0 5) (n := s.size) Try.underlying44 Try.underlying5 Try.underlying9 (by rw [part_length, HL.out])
      rw [hke, ← HL.out, part_all, HL.out] at hstr
      subst hke
      go_wp2
      go_ret2
      exact ⟨rfl, HB.out⟩
theorem rLower_call (s : ByteArray) (p : Int) (w : World) : Calls Try.prog 24 #[.string s, .int .i64 p] w fun e w' =>
    e = .returned (.tuple #[.string (mapF rlo s p).1, .int .i64 (mapF rlo s p).2]) ∧ Below w.heap.size w w' := by
  unfold mapF
  rw [← askC_zero]
  by_cases h : askC s.size p 0 = 0
  · rw [if_pos h]
    exact rLower_ok s p w (by have := askC_le h; omega) h
  · rw [if_neg h]
    exact rLower_bad s p w _ rfl (bne_iff_ne.2 h)

set_option maxHeartbeats 1000000 in
theorem rProper_bad (s : ByteArray) (p : Int) (w : World) (q : Int) (hq : askC s.size p 0 = q) (h0 : (q != 0) = true) :
    Calls Try.prog 25 #[.string s, .int .i64 p] w fun e w' => e = .returned (.tuple #[.string ⟨#[]⟩, .int .i64 q]) ∧ Below w.heap.size w w' := by
  have HA := Lib.hid (fun w => hq ▸ rasked_one s p 0 w)
  clear hq
  go_enter Try.func25, Try.ntmps25
  go_wp2_with (go_at_call 39; refine (HA.out _).mono ?_; rintro e w1 ⟨rfl, ⟨⟨n1, rfl⟩⟩⟩)
  go_ret2
  exact ⟨rfl, pw_below_drewN (below_alloc (below_alloc (Below.refl _ _) _) _) _⟩
end Go.Proofs.Ytmjldihmcbjfhaa.H
