/-
  The reference's Convert computes what the program's does.
-/
import Derived.Test.YtmjldihmcbjfhaaHConvC
import Derived.Test.YtmjldihmcbjfhaaHRef
import Derived.Test.YtmjldihmcbjfhaaPPageConvertsx4
namespace Go.Proofs.Ytmjldihmcbjfhaa.H
open Go.RowKit Go.Proofs.YtmjldihmcbjfhaaW.PrintWords Go.Proofs.YtmjldihmcbjfhaaW.PrintLast Go.Proofs.YtmjldihmcbjfhaaW.PrintMore Go.Proofs.Ytmjldihmcbjfhaa.PPageCases
set_option linter.unusedVariables false
set_option linter.unusedSimpArgs false

theorem pageL_get (P b : Nat) (hP : P < 3) (hb : b < 256) : (pageL P).getD b 0 = pg3 240 (P * 256 + b) := by
  unfold pageL
  rw [List.getD_eq_getElem?_getD, List.getElem?_take_of_lt hb, List.getElem?_drop]
  have h := tab_get (pg3 240) (P * 256 + b) (by omega)
  rwa [List.getD_eq_getElem?_getD] at h
/-- The character of a byte, as the reference tells it. -/
def chP (P b : Nat) : Int × Bool := if 0 ≤ pg3 240 (P * 256 + b) then (pg3 240 (P * 256 + b), true) else (0, false)
theorem char_rounds (k : Nat) (b P : Int) : PPageConverts.cabinetryref02_char.f (k + 3) b P = PPageConverts.cabinetryref02_char.f 3 b P := by
  simp only [PPageConverts.cabinetryref02_char.f, PPageConverts.cabinetryref02_char.j0, PPageConverts.cabinetryref02_char.j1]
theorem char_fin : ∀ (P : Fin 3) (b : Fin 256), PPageConverts.cabinetryref02_char.f 3 (b.val : Int) (P.val : Int) = some (chP P.val b.val) := by
  decide +kernel
theorem char_eq (k P b : Nat) (hP : P < 3) (hb : b < 256) : PPageConverts.cabinetryref02_char.f (k + 3) (b : Int) (P : Int) = some (chP P b) := by
  rw [char_rounds]; exact char_fin ⟨P, hP⟩ ⟨b, hb⟩

theorem byteOf_loop (P : Nat) (hP : P < 3) (c : Int) (hc : 0 ≤ c) : ∀ (d n k : Nat), n + d = 256 → d + 4 ≤ k → noneIn (pageL P) c n → PPageConverts.cabinetryref02_byteOf.l0 k c P n = some (bo (pageL P) c)
  | 0, n, k, hn, hk, hno => by
    obtain ⟨k, rfl⟩ : ∃ m, k = m + 1 := ⟨k - 1, by omega⟩
    obtain rfl : n = 256 := by omega
    simp only [PPageConverts.cabinetryref02_byteOf.l0]
    rw [if_neg (by omega), bo_none (by rw [pageL_len P hP]; exact hno)]
  | d + 1, n, k, hn, hk, hno => by
    obtain ⟨k, rfl⟩ : ∃ m, k = m + 1 := ⟨k - 1, by omega⟩
    have hn2 : n < 256 := by omega
    simp only [PPageConverts.cabinetryref02_byteOf.l0]
    obtain ⟨j, rfl⟩ : ∃ m, k = m + 3 := ⟨k - 3, by omega⟩
    rw [if_pos (by omega), show ((n : Int) % 256) = (n : Int) by omega, char_eq _ _ _ hP hn2]
    simp only [Option.bind_some]
    have hg := pageL_get P n hP hn2
    have hw : wrap64 ((n : Int) + 1) = ((n + 1 : Nat) : Int) := by unfold wrap64; omega
    by_cases h0 : 0 ≤ pg3 240 (P * 256 + n)
    · rw [show chP P n = (pg3 240 (P * 256 + n), true) from if_pos h0]
      simp only [if_true]
      by_cases he : pg3 240 (P * 256 + n) = c
      · rw [if_pos he, bo_some hno (by rw [pageL_len P hP]; exact hn2) (hg.trans he) hc]
      · rw [if_neg he, hw]
        refine byteOf_loop P hP c hc d (n + 1) _ (by omega) (by omega) fun j hj => ?_
        by_cases e : j = n
        · subst e; rw [hg]; exact fun h => he h.1
        · exact hno j (by omega)
    · rw [show chP P n = (0, false) from if_neg h0]
      simp only [Bool.false_eq_true, if_false]
      rw [hw]
      refine byteOf_loop P hP c hc d (n + 1) _ (by omega) (by omega) fun j hj => ?_
      by_cases e : j = n
      · subst e; rw [hg]; exact fun h => by omega
      · exact hno j (by omega)
theorem rbyteOf_eq (P k : Nat) (hP : P < 3) (c : Int) (hc : 0 ≤ c) (hk : 260 ≤ k) : PPageConverts.cabinetryref02_byteOf.f k c P = some (bo (pageL P) c) :=
  byteOf_loop P hP c hc 256 0 k (by omega) (by omega) fun j hj => absurd hj (by omega)
theorem bo_neg (xs : List Int) (c : Int) (hc : ¬ 0 ≤ c) : bo xs c = (0, false) := bo_none fun j hj h => hc h.2

theorem wrap_in (x : Int) (h1 : -9223372036854775808 ≤ x) (h2 : x ≤ 9223372036854775807) : wrap64 x = x := by
  unfold wrap64; omega
theorem rconvert_loop (s : ByteArray) (F T : Nat) (by_ : Int) (hF : F < 3) (hT : T < 3) (hs : s.size ≤ 2048) :
    ∀ (d i k m : Nat), i + d = s.size → d + m ≤ k → 300 ≤ m → PPageConverts.cabinetryref02_Convert.l0 k s F T by_ (((bytesOf s).take i).map (cvB F T by_)) (cvN F T ((bytesOf s).take i)) i =
      some (strOfNums ((bytesOf s).map (cvB F T by_)), cvN F T (bytesOf s), 0) := by
  intro d
  induction d with
  | zero =>
    intro i k m hi hk hm
    obtain ⟨k, rfl⟩ : ∃ m, k = m + 1 := ⟨k - 1, by omega⟩
    simp only [PPageConverts.cabinetryref02_Convert.l0]
    rw [if_neg (by omega), List.take_of_length_le (by rw [bytesOf_length]; omega)]
  | succ d ih0 =>
    intro i k m hi hk hm
    obtain ⟨k, rfl⟩ : ∃ m, k = m + 1 := ⟨k - 1, by omega⟩
    have hlt : i < s.size := by omega
    have hlt2 : i < (bytesOf s).length := by rw [bytesOf_length]; exact hlt
    have ih := ih0 (i + 1) k m (by omega) (by omega) hm
    have hN := cvN_succ F T s i hlt
    have hNl := cvN_le F T s i
    have hM : ((bytesOf s).take (i + 1)).map (cvB F T by_) = ((bytesOf s).take i).map (cvB F T by_) ++ [cvB F T by_ ((bytesOf s).getD i 0)] := by
      rw [List.take_succ_eq_append_getElem hlt2, List.map_append, List.getD_eq_getElem?_getD, List.getElem?_eq_getElem hlt2]
      rfl
    have hbr : 0 ≤ (bytesOf s).getD i 0 ∧ (bytesOf s).getD i 0 ≤ 255 :=
      bytesOf_range s _ (by rw [List.getD_eq_getElem?_getD, List.getElem?_eq_getElem hlt2]; simp)
    have hll : (((bytesOf s).take i).map (cvB F T by_)).length < 140737488355328 := by
      refine Nat.lt_of_le_of_lt (m := 2048) ?_ (by decide)
      rw [List.length_map]
      exact Nat.le_trans (List.length_take_le _ _) (by omega)
    simp only [PPageConverts.cabinetryref02_Convert.l0]
    rw [if_pos (by omega), if_pos (by omega), bt_getD]
    rw [hN, hM] at ih
    generalize (bytesOf s).getD i 0 = b at *
    obtain ⟨B, rfl⟩ : ∃ B : Nat, b = B := Int.eq_ofNat_of_zero_le hbr.1
    obtain ⟨j, rfl⟩ : ∃ m, k = m + 3 := ⟨k - 3, by omega⟩
    have hB3 : B < 256 := by omega
    have hk3 : 260 ≤ j + 3 := by omega
    have hw2 : wrap64 (cvN F T ((bytesOf s).take i) + 1) = cvN F T ((bytesOf s).take i) + 1 := wrap_in _ (by omega) (by omega)
    have hw : wrap64 ((i : Int) + 1) = ((i + 1 : Nat) : Int) := wrap_in _ (by clear hw2; omega) (by clear hw2; omega)
    rw [char_eq _ _ _ hF hB3]
    simp only [Option.bind_some]
    have hcv : cvP F T (B : Int) = bo (pageL T) (pg3 240 (F * 256 + B)) := by
      unfold cvP
      rw [Int.toNat_natCast, pageL_get F B hF hB3]
    unfold cvB at ih
    by_cases h0 : 0 ≤ pg3 240 (F * 256 + B)
    · rw [show chP F B = (pg3 240 (F * 256 + B), true) from if_pos h0]
      simp only [if_true]
      rw [rbyteOf_eq T _ hT _ h0 hk3, ← hcv]
      simp only [Option.bind_some]
      by_cases hok : (cvP F T (B : Int)).2 = true
      · rw [if_pos hok, if_pos hll, hw]
        rw [if_pos hok, if_pos hok, Int.add_zero] at ih
        exact ih
      · rw [if_neg hok, if_pos hll, hw, hw2]
        rw [if_neg hok, if_neg hok] at ih
        exact ih
    · rw [show chP F B = (0, false) from if_neg h0]
      simp only [Bool.false_eq_true, if_false]
      have hok : ¬ (cvP F T (B : Int)).2 = true := by rw [hcv, bo_neg _ _ h0]; simp
      rw [if_pos hll, hw, hw2]
      rw [if_neg hok, if_neg hok] at ih
      exact ih

/-- The first error of Convert. -/
def askV (n F T : Int) : Int := if askP n F ≠ 0 then askP n F else askP 0 T
theorem rasked_two (s : ByteArray) (F T : Int) (k : Nat) : PPageConverts.cabinetryref02_asked.f (k + 8) 2048 [s] 0 [F, T] = some (askV s.size F T) := by
  unfold PPageConverts.cabinetryref02_asked.f
  simp only [PPageConverts.cabinetryref02_asked.l0, PPageConverts.cabinetryref02_asked.l1, rdOf, rd, wrap64]
  unfold askV askP
  simp
  by_cases h1 : (2048 : Int) < s.size
  · simp [h1]
  · by_cases h2 : F < 0
    · simp [h1, h2]
    · by_cases h3 : 2 < F
      · simp [h1, h2, h3]
      · by_cases h4 : T < 0
        · simp [h1, h2, h3, h4]
        · by_cases h5 : 2 < T
          · simp [h1, h2, h3, h4, h5]
          · simp [h1, h2, h3, h4, h5]
theorem askP_zero {n p : Int} (h : askP n p = 0) : n ≤ 2048 ∧ 0 ≤ p ∧ p ≤ 2 := by
  unfold askP at h
  by_cases h1 : n > 2048
  · rw [if_pos h1] at h; omega
  · rw [if_neg h1] at h
    by_cases h2 : p < 0
    · rw [if_pos h2] at h; omega
    · rw [if_neg h2] at h
      by_cases h3 : p > 2
      · rw [if_pos h3] at h; omega
      · omega
theorem askV_zero {n F T : Int} (h : askV n F T = 0) : askP n F = 0 ∧ askP 0 T = 0 := by
  unfold askV at h
  by_cases h1 : askP n F ≠ 0
  · rw [if_pos h1] at h; exact absurd h h1
  · rw [if_neg h1] at h; exact ⟨by simpa using h1, h⟩
/-- What Convert gives. -/
def convF (s : ByteArray) (F T by_ : Int) : ByteArray × Int × Int :=
  if askV s.size F T = 0 then (strOfNums ((bytesOf s).map (cvB F.toNat T.toNat by_)), cvN F.toNat T.toNat (bytesOf s), 0) else (⟨#[]⟩, 0, askV s.size F T)
theorem rconvert_eq (s : ByteArray) (F T by_ : Int) : PPageConverts.cabinetryref02_Convert.f 2400 s F T by_ = some (convF s F T by_) := by
  unfold PPageConverts.cabinetryref02_Convert.f convF
  rw [rasked_two s F T 2392]
  simp only [Option.bind_some]
  by_cases h : askV s.size F T = 0
  · rw [if_pos h, if_pos h]
    obtain ⟨h1, h2⟩ := askV_zero h
    obtain ⟨h3, h4, h5⟩ := askP_zero h1
    obtain ⟨_, h6, h7⟩ := askP_zero h2
    obtain ⟨F, rfl⟩ : ∃ B : Nat, F = B := Int.eq_ofNat_of_zero_le h4
    obtain ⟨T, rfl⟩ : ∃ B : Nat, T = B := Int.eq_ofNat_of_zero_le h6
    exact rconvert_loop s F T by_ (by omega) (by omega) (by omega) s.size 0 2400 300 (by omega) (by omega) (by omega)
  · rw [if_neg h, if_neg h]
theorem rconvert_call (s : ByteArray) (F T by_ : Int) (w : World) : Calls Try.prog 29 #[.string s, .int .i64 F, .int .i64 T, .int .u8 by_] w fun e w' =>
    e = .returned (.tuple #[.string (convF s F T by_).1, .int .i64 (convF s F T by_).2.1, .int .i64 (convF s F T by_).2.2]) ∧ Below w.heap.size w w' :=
  PPageConverts.cabinetryref02_Convert.calls 2400 s F T by_ _ _ _ w (rconvert_eq s F T by_)
end Go.Proofs.Ytmjldihmcbjfhaa.H
