/-
  The reference's errors, and both Valid with their errors.
-/
import Derived.Test.YtmjldihmcbjfhaaDoorDValid
import Derived.Test.YtmjldihmcbjfhaaDoorHSounds
namespace Go.Proofs.YtmjldihmcbjfhaaDoor.H
open Go.RowKit Go.Proofs.YtmjldihmcbjfhaaDoorW.PrintWords Go.Proofs.YtmjldihmcbjfhaaDoorW.PrintLast Go.Proofs.YtmjldihmcbjfhaaDoorW.PrintMore Go.Proofs.YtmjldihmcbjfhaaDoor.PPageEncodes
set_option linter.unusedVariables false
set_option linter.unusedSimpArgs false

theorem C_strs (w : World) (ss : List ByteArray) (hn : ss.length ≤ 9223372036854775807) : Kd.C Kd.string (w.alloc (.cells (ss.map Value.string).toArray 9)) (some ⟨w.heap.size, 0, none⟩) ss.length ss := by
  refine Kd.C_of_reads (d := ByteArray.empty) ⟨rfl, hn, fun _ => ⟨_, rfl, fun j hj => ?_⟩⟩
  rw [add_plain, cell_of_row _ _ _ _ _ _ (heap_alloc_new w _)]
  simp [List.getElem?_eq_getElem hj, List.getD_eq_getElem?_getD]
theorem C_ints (w : World) (xs : List Int) (hn : xs.length ≤ 9223372036854775807) : Kd.C (Kd.int .i64) (w.alloc (.cells (xs.map (Value.int .i64)).toArray 3)) (some ⟨w.heap.size, 0, none⟩) xs.length xs := by
  refine Kd.C_of_reads (d := 0) ⟨rfl, hn, fun _ => ⟨_, rfl, fun j hj => ?_⟩⟩
  rw [add_plain, cell_of_row _ _ _ _ _ _ (heap_alloc_new w _)]
  simp [List.getElem?_eq_getElem hj, List.getD_eq_getElem?_getD]
/-- The first error for a text of at most so many bytes and a page. -/
def askQ (most n p : Int) : Int := if n > most then 3 else if p < 0 then 1 else if p > 2 then 1 else 0
theorem askQ_P (n p : Int) : askQ 2048 n p = askP n p := rfl
theorem askQ_zero {most n p : Int} (h : askQ most n p = 0) : n ≤ most ∧ 0 ≤ p ∧ p ≤ 2 := by
  unfold askQ at h
  by_cases h1 : n > most
  · rw [if_pos h1] at h; omega
  · rw [if_neg h1] at h
    by_cases h2 : p < 0
    · rw [if_pos h2] at h; omega
    · rw [if_neg h2] at h
      by_cases h3 : p > 2
      · rw [if_pos h3] at h; omega
      · omega
theorem raskedQ_f (most : Int) (s : ByteArray) (p : Int) : cabinetryref02_asked.f 6 most [s] 0 [p] = some (askQ most s.size p) := by
  unfold cabinetryref02_asked.f
  simp only [cabinetryref02_asked.l0, cabinetryref02_asked.l1, rdOf, rd, wrap64]
  unfold askQ
  simp
  by_cases h1 : most < s.size
  · simp [h1]
  · by_cases h2 : p < 0
    · simp [h1, h2]
    · by_cases h3 : 2 < p
      · simp [h1, h2, h3]
      · simp [h1, h2, h3]
theorem raskedQ (most : Int) (s : ByteArray) (p : Int) (w : World) :
    Calls Tryd.prog 19 #[.int .i64 most, .slice (some ⟨w.heap.size, 0, none⟩) 1 1, .int .i64 0, .slice (some ⟨w.heap.size + 1, 0, none⟩) 1 1] ((w.alloc (.cells #[.string s] 9)).alloc (.cells #[.int .i64 p] 3))
      fun e w' => e = .returned (.int .i64 (askQ most s.size p)) ∧ Drawn0 ((w.alloc (.cells #[.string s] 9)).alloc (.cells #[.int .i64 p] 3)) w' := by
  have h1 := Kd.C_below (C_strs w [s] (by simp)) (below_alloc (Below.refl _ _) (.cells #[.int .i64 p] 3))
  have h2 := C_ints (w.alloc (.cells #[.string s] 9)) [p] (by simp)
  have e : (w.alloc (.cells #[.string s] 9)).heap.size = w.heap.size + 1 := by simp
  rw [e] at h2
  exact cabinetryref02_asked.calls 6 most _ 1 [s] 0 _ 1 [p] _ _ h1 (Nat.le_refl _) h2 (Nat.le_refl _) (raskedQ_f most s p)
theorem bt_getD (s : ByteArray) (k : Nat) : bt s (k : Int) = (bytesOf s).getD k 0 := by
  rw [← rd_bytesOf]; simp [rd]
theorem getElem_bt (s : ByteArray) (k : Nat) (h : k < s.size) : ((s[k]'h).toNat : Int) = (bytesOf s).getD k 0 := by
  rw [← bt_getD, ← bt_at s k (by simpa using h)]
  simp
theorem char_call (P b : Nat) (hP : P < 3) (hb : b < 256) (w : World) : Calls Tryd.prog 24 #[.int .u8 b, .int .i64 P] w fun e w' => e = .returned (.tuple #[.int .i64 (chP P b).1, .bool (chP P b).2]) ∧ Drawn0 w w' :=
  PPageEncodes.cabinetryref02_char.calls 3 b P _ _ w (char_eq 0 P b hP hb)

def validF (s : ByteArray) (p : Int) : Bool × Int := if askP s.size p = 0 then (validL p.toNat (bytesOf s), 0) else (false, askP s.size p)
set_option maxHeartbeats 1000000 in
theorem valid_call (s : ByteArray) (p : Int) (w : World) : Calls Tryd.prog 11 #[.string s, .int .i64 p] w fun e w' =>
    e = .returned (.tuple #[.bool (validF s p).1, .int .i64 (validF s p).2]) ∧ Below w.heap.size w w' := by
  unfold validF
  by_cases h : askP s.size p = 0
  · rw [if_pos h]
    obtain ⟨h3, h4, h5⟩ := askQ_zero (most := 2048) h
    obtain ⟨T, rfl⟩ : ∃ B : Nat, p = B := Int.eq_ofNat_of_zero_le h4
    exact valid_ok s T w (by omega) (by omega) h
  · rw [if_neg h]
    have HA := Lib.hid (fun w => asked_one s p w)
    have hb : (askP s.size p != 0) = true := bne_iff_ne.2 h
    clear h
    generalize askP s.size p = q at HA hb ⊢
    go_enter Tryd.func11, Tryd.ntmps11
    go_wp2_with (go_at_call 21; refine (HA.out _).mono ?_; rintro e w1 ⟨rfl, ⟨⟨n1, rfl⟩⟩⟩)
    go_ret2
    exact ⟨rfl, pw_below_drewN (below_alloc (Below.refl _ _) _) _⟩

theorem bytes_take (s : ByteArray) (k : Nat) (hk : k < s.size) : (bytesOf s).take (k + 1) = (bytesOf s).take k ++ [(bytesOf s).getD k 0] := by
  have h : k < (bytesOf s).length := by rw [bytesOf_length]; exact hk
  rw [List.take_succ_eq_append_getElem h, List.getD_eq_getElem?_getD, List.getElem?_eq_getElem h]; rfl
theorem bytes_split (s : ByteArray) (k : Nat) (hk : k < s.size) : bytesOf s = (bytesOf s).take k ++ (bytesOf s).getD k 0 :: (bytesOf s).drop (k + 1) := by
  have h : k < (bytesOf s).length := by rw [bytesOf_length]; exact hk
  rw [List.getD_eq_getElem?_getD, List.getElem?_eq_getElem h, Option.getD_some, ← List.drop_eq_getElem_cons h, List.take_append_drop]
theorem bytes_all (s : ByteArray) : (bytesOf s).take s.size = bytesOf s := List.take_of_length_le (by rw [bytesOf_length]; exact Nat.le_refl _)
theorem byte_nat (s : ByteArray) (k : Nat) (hk : k < s.size) : ∃ B : Nat, (bytesOf s).getD k 0 = B ∧ B < 256 := by
  have h : k < (bytesOf s).length := by rw [bytesOf_length]; exact hk
  have hbr := bytesOf_range s ((bytesOf s).getD k 0) (by rw [List.getD_eq_getElem?_getD, List.getElem?_eq_getElem h]; simp)
  obtain ⟨B, hB⟩ : ∃ B : Nat, (bytesOf s).getD k 0 = B := Int.eq_ofNat_of_zero_le hbr.1
  exact ⟨B, hB, by omega⟩
theorem okP_chP (T B : Nat) : okP T (B : Int) = (chP T B).2 := by
  unfold okP chP
  by_cases h : 0 ≤ pg3 240 (T * 256 + B)
  · simp [h]
  · simp [h]
set_option maxHeartbeats 1000000 in
theorem rvalid_call (s : ByteArray) (p : Int) (w : World) : Calls Tryd.prog 12 #[.string s, .int .i64 p] w fun e w' =>
    e = .returned (.tuple #[.bool (validF s p).1, .int .i64 (validF s p).2]) ∧ Below w.heap.size w w' := by
  unfold validF
  have HA := Lib.hid (fun w => raskedQ 2048 s p w)
  simp only [askQ_P] at HA
  by_cases h : askP s.size p = 0
  · rw [if_pos h]
    rw [h] at HA
    obtain ⟨h3, h4, h5⟩ := askQ_zero (most := 2048) h
    clear h
    obtain ⟨T, rfl⟩ : ∃ B : Nat, p = B := Int.eq_ofNat_of_zero_le h4
    have hT : T < 3 := by omega
    have hs : s.size ≤ 2048 := by omega
    have HCH := Lib.hid (fun B hB w => char_call T B hT hB w)
    rw [Int.toNat_natCast]
    clear h3 h4 h5
    go_enter Tryd.func12, Tryd.ntmps12
    go_wp2_with (go_at_call 19; refine (HA.out _).mono ?_; rintro e w1 ⟨rfl, hd⟩; have HD := Aside0.mk hd; clear hd)
    have HB1 : Aside0 (Below w.heap.size w w1) := ⟨by
      obtain ⟨n1, rfl⟩ := HD.out.out
      exact pw_below_drewN (below_alloc (below_alloc (Below.refl _ _) _) _) _⟩
    clear HD HA
    go_loopw [7] (fun i wr => ∃ k : Nat, i = .int .i64 k ∧ Aside0 (k ≤ s.size) ∧ Aside0 (validL T ((bytesOf s).take k) = true) ∧ Aside0 (Below w.heap.size w wr)) (fun i _ => s.size - (intOf i).toNat)
    case atStart => exact ⟨0, rfl, ⟨by omega⟩, ⟨rfl⟩, HB1⟩
    case round =>
      clear HB1
      obtain ⟨k, rfl, HK, HV, HB⟩ := hrel
      have hk := HK.out
      by_cases hlt : k < s.size
      · obtain ⟨B, hB, hB2⟩ := byte_nat s k hlt
        have HTK := Aside0.mk (bytes_take s k hlt)
        have HIN := Aside0.mk (bytes_split s k hlt)
        have hbt := getElem_bt s k hlt
        rw [hB] at hbt HTK HIN
        have HC := Lib.hid (HCH.out B hB2)
        have HOK := Aside0.mk (okP_chP T B)
        clear hB HCH
        generalize chP T B = r at HC HOK
        obtain ⟨y, ok⟩ := r
        cases ok
        · have HVF : Aside0 (validL T (bytesOf s) = false) := ⟨by rw [HIN.out]; unfold validL; rw [List.all_append, List.all_cons, HOK.out]; simp⟩
          go_wp2_with (go_at_call 24; refine (HC.out _).mono ?_; rintro e w2 ⟨rfl, ⟨⟨n2, rfl⟩⟩⟩)
          go_ret2
          exact ⟨by rw [HVF.out]; rfl, pw_below_drewN HB.out _⟩
        · go_wp2_with (go_at_call 24; refine (HC.out _).mono ?_; rintro e w2 ⟨rfl, ⟨⟨n2, rfl⟩⟩⟩)
          go_roundw
          case rel => exact ⟨k + 1, by go_num, ⟨by omega⟩, ⟨by rw [HTK.out]; unfold validL; rw [List.all_append]; unfold validL at HV; rw [HV.out]; simp [HOK.out]⟩, ⟨pw_below_drewN HB.out _⟩⟩
          case measure => simp [intOf]; omega
      · have hke : k = s.size := by omega
        subst hke
        have HVT : Aside0 (validL T (bytesOf s) = true) := ⟨by
          have := HV.out
          rwa [bytes_all] at this⟩
        go_wp2
        go_ret2
        exact ⟨by rw [HVT.out]; rfl, HB.out⟩
  · rw [if_neg h]
    have hb : (askP s.size p != 0) = true := bne_iff_ne.2 h
    clear h
    generalize askP s.size p = q at HA hb ⊢
    go_enter Tryd.func12, Tryd.ntmps12
    go_wp2_with (go_at_call 19; refine (HA.out _).mono ?_; rintro e w1 ⟨rfl, ⟨⟨n1, rfl⟩⟩⟩)
    go_ret2
    exact ⟨rfl, pw_below_drewN (below_alloc (below_alloc (Below.refl _ _) _) _) _⟩
end Go.Proofs.YtmjldihmcbjfhaaDoor.H
