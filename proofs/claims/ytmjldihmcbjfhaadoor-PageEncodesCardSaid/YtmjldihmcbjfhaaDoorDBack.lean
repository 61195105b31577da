/-
  What Decode gives, Encode takes back: plain Lean.
-/
import Derived.Test.YtmjldihmcbjfhaaDoorDRDecode
import Derived.Test.YtmjldihmcbjfhaaDoorDREncode
import Derived.Lib.TrimUEq
import Derived.Lib.TrimAscii
import Derived.Lib.ValidLaws
namespace Go.Proofs.YtmjldihmcbjfhaaDoor.H
open Go.RowKit Go.Proofs.YtmjldihmcbjfhaaDoorW.PrintWords Go.Proofs.YtmjldihmcbjfhaaDoorW.PrintLast Go.Proofs.YtmjldihmcbjfhaaDoorW.PrintMore Go.Proofs.YtmjldihmcbjfhaaDoor.PPageEncodes
set_option linter.unusedVariables false
set_option linter.unusedSimpArgs false

def encB (c : Nat) : List UInt8 := (Lib.encodeRuneZ (c : Int)).map fun n => UInt8.ofNat n.toNat
theorem encB_one {c : Nat} (h : c < 128) : encB c = [UInt8.ofNat c] := by
  unfold encB
  rw [Lib.encodeRuneZ_one (by omega) (by omega)]
  simp
theorem encB_two {c : Nat} (h0 : ¬ c < 128) (h : c ≤ 1103) : encB c = [UInt8.ofNat (192 + c / 64), UInt8.ofNat (128 + c % 64)] := by
  unfold encB
  rw [Lib.encodeRuneZ_two (by omega) (by omega)]
  have e1 : (192 + (c : Int) / 64).toNat = 192 + c / 64 := by omega
  have e2 : (128 + (c : Int) % 64).toNat = 128 + c % 64 := by omega
  simp [e1, e2]
theorem dec_enc (c : Nat) (h : c ≤ 1103) (t : List UInt8) : Lib.decodeL (encB c ++ t) = (c, (encB c).length) := by
  by_cases h0 : c < 128
  · rw [encB_one h0]
    have hc : (UInt8.ofNat c).toNat = c := by simp; omega
    rw [List.singleton_append, Lib.decodeL_ascii _ _ (by omega), hc]
    rfl
  · rw [encB_two h0 h]
    have h1 : (UInt8.ofNat (192 + c / 64)).toNat = 192 + c / 64 := by simp; omega
    have h2 : (UInt8.ofNat (128 + c % 64)).toNat = 128 + c % 64 := by simp; omega
    rw [Lib.decodeL_N]
    simp only [List.cons_append, List.nil_append, List.length_cons, List.getD_cons_zero, List.getD_cons_succ, h1, h2]
    unfold Lib.decodeN
    rw [if_neg (by omega), if_pos (by omega), if_pos (by omega)]
    exact Prod.ext (by show _ = c; omega) rfl
theorem encB_pos (c : Nat) (h : c ≤ 1103) : 1 ≤ (encB c).length ∧ (encB c).length ≤ 2 := by
  by_cases h0 : c < 128
  · rw [encB_one h0]; simp
  · rw [encB_two h0 h]; simp
def encAll (cs : List Nat) : List UInt8 := cs.flatMap encB
theorem valid_all : ∀ cs : List Nat, (∀ c ∈ cs, c ≤ 1103) → Lib.validD (encAll cs) = true
  | [], _ => rfl
  | c :: cs, h => by
    have hc := h c (by simp)
    have hp := encB_pos c hc
    have e : encAll (c :: cs) = encB c ++ encAll cs := by simp [encAll]
    rw [e, Lib.validD_step _ (by intro h0; have := congrArg List.length h0; rw [List.length_append] at this; simp only [List.length_nil] at this; omega), dec_enc c hc, if_neg (fun h => by have h1 : c = 65533 := h.1; omega)]
    simp only [List.drop_left]
    exact valid_all cs fun x hx => h x (by simp [hx])
theorem len_all : ∀ cs : List Nat, (∀ c ∈ cs, c ≤ 1103) → (encAll cs).length ≤ 2 * cs.length
  | [], _ => by simp [encAll]
  | c :: cs, h => by
    have hp := encB_pos c (h c (by simp))
    have e : encAll (c :: cs) = encB c ++ encAll cs := by simp [encAll]
    have ih := len_all cs fun x hx => h x (by simp [hx])
    rw [e, List.length_append, List.length_cons]
    omega
theorem rs_all (s : ByteArray) : ∀ (cs : List Nat) (f pos : Nat), (∀ c ∈ cs, c ≤ 1103) → s.data.toList.drop pos = encAll cs → s.size ≤ pos + f → rsF s f pos = cs.map fun c : Nat => (c : Int)
  | [], f, pos, _, hd, hf => by
    have hl := congrArg List.length hd
    simp [encAll] at hl
    rw [rsF_end s f pos (by have : s.size = s.data.size := rfl; omega)]
    rfl
  | c :: cs, f, pos, h, hd, hf => by
    have hc := h c (by simp)
    have hp := encB_pos c hc
    have e : encAll (c :: cs) = encB c ++ encAll cs := by simp [encAll]
    rw [e] at hd
    have hl := congrArg List.length hd
    rw [List.length_drop, List.length_append] at hl
    have hsz : s.data.toList.length = s.size := Array.length_toList
    rw [hsz] at hl
    have hlt : pos < s.size := by omega
    obtain ⟨f, rfl⟩ : ∃ m, f = m + 1 := ⟨f - 1, by omega⟩
    have hdec : Utf8.decode s pos = (c, (encB c).length) := by rw [← Lib.decodeL_drop, hd, dec_enc c hc]
    have ih := rs_all s cs f (pos + (encB c).length) (fun x hx => h x (by simp [hx])) (by rw [← List.drop_drop, hd, List.drop_left]) (by omega)
    unfold rsF
    rw [if_pos hlt, hdec, ih]
    rfl

theorem pg3_inj (T j b : Nat) (hT : T < 3) (hj : j < b) (hb : b < 256) (h0 : 0 ≤ pg3 240 (T * 256 + b)) : pg3 240 (T * 256 + j) ≠ pg3 240 (T * 256 + b) := by
  intro h
  unfold pg3 pg2 pg1 at h h0
  have : T = 0 ∨ T = 1 ∨ T = 2 := by omega
  rcases this with rfl | rfl | rfl
  all_goals
    repeat' split at h0
    all_goals repeat' split at h
    all_goals omega
theorem bo_back (T b : Nat) (hT : T < 3) (hb : b < 256) (h0 : 0 ≤ pg3 240 (T * 256 + b)) : bo (pageL T) (pg3 240 (T * 256 + b)) = ((b : Int), true) := by
  refine bo_some (fun j hj h => ?_) (by rw [pageL_len T hT]; exact hb) (pageL_get T b hT hb) h0
  rw [pageL_get T j hT (by omega)] at h
  exact pg3_inj T j b hT hj hb h0 h.1
/-- The characters of bytes. -/
def chL (T : Nat) (xs : List Int) : List Nat := xs.map fun b => (pg3 240 (T * 256 + b.toNat)).toNat
theorem okP_pos {T : Nat} {xs : List Int} (h : validL T xs = true) : ∀ b ∈ xs, 0 ≤ pg3 240 (T * 256 + b.toNat) := fun b hb => by
  have := List.all_eq_true.1 h b hb
  simpa [okP] using this
theorem chL_le (T : Nat) (hT : T < 3) (xs : List Int) (hx : ∀ b ∈ xs, 0 ≤ b ∧ b ≤ 255) : ∀ c ∈ chL T xs, c ≤ 1103 := by
  intro c hc
  obtain ⟨b, hb, rfl⟩ := List.mem_map.1 hc
  have := (pg3_range T b.toNat hT (by have := hx b hb; omega)).2
  omega
theorem decL_enc (T : Nat) (xs : List Int) (h : validL T xs = true) : ((decL T xs).map fun n => UInt8.ofNat n.toNat) = encAll (chL T xs) := by
  have hp := okP_pos h
  clear h
  induction xs with
  | nil => rfl
  | cons b xs ih =>
    have e1 : decL T (b :: xs) = Lib.encodeRuneZ (pg3 240 (T * 256 + b.toNat)) ++ decL T xs := by simp [decL]
    have e2 : encAll (chL T (b :: xs)) = encB (pg3 240 (T * 256 + b.toNat)).toNat ++ encAll (chL T xs) := by simp [encAll, chL]
    rw [e1, e2, List.map_append, ih fun x hx => hp x (by simp [hx])]
    unfold encB
    rw [Int.toNat_of_nonneg (hp b (by simp))]
theorem encTo_back (T : Nat) (hT : T < 3) : ∀ (xs acc : List Int), (∀ b ∈ xs, 0 ≤ b ∧ b ≤ 255) → validL T xs = true → encTo T acc ((chL T xs).map fun c : Nat => (c : Int)) = some (acc ++ xs)
  | [], acc, _, _ => by simp [chL, encTo]
  | b :: xs, acc, hx, hv => by
    have hb := hx b (by simp)
    have hp := okP_pos hv b (by simp)
    have hv2 : validL T xs = true := by
      unfold validL at hv ⊢
      rw [List.all_cons, Bool.and_eq_true] at hv
      exact hv.2
    have e : (chL T (b :: xs)).map (fun c : Nat => (c : Int)) = pg3 240 (T * 256 + b.toNat) :: (chL T xs).map fun c : Nat => (c : Int) := by
      simp only [chL, List.map_cons]
      rw [Int.toNat_of_nonneg hp]
    have hbo := bo_back T b.toNat hT (by omega) hp
    rw [Int.toNat_of_nonneg hb.1] at hbo
    rw [e, encTo_split, hbo, if_pos rfl, encTo_back T hT xs (acc ++ [b]) (fun x h => hx x (by simp [h])) hv2, List.append_assoc]
    rfl
theorem strOf_bytes (s : ByteArray) : strOfNums (bytesOf s) = s := by
  apply ByteArray.ext
  apply Array.ext'
  rw [strOfNums_data]
  unfold bytesOf
  rw [List.map_map]
  conv => rhs; rw [← List.map_id s.data.toList]
  apply List.map_congr_left
  intro b _
  simp
/-- What Decode gives, Encode takes back. -/
theorem back (s : ByteArray) (p : Int) (h : (decF s p).2 = 0) : encF (decF s p).1 p = (s, 0) := by
  unfold decF at h ⊢
  by_cases hq : askP s.size p = 0
  · rw [if_pos hq] at h ⊢
    obtain ⟨h3, h4, h5⟩ := askQ_zero (most := 2048) hq
    obtain ⟨T, rfl⟩ : ∃ B : Nat, p = B := Int.eq_ofNat_of_zero_le h4
    rw [Int.toNat_natCast] at h ⊢
    have hT : T < 3 := by omega
    by_cases hv : validL T (bytesOf s) = true
    · rw [if_pos hv] at h ⊢
      have hr := bytesOf_range s
      have hc := chL_le T hT (bytesOf s) hr
      have hd := decL_enc T (bytesOf s) hv
      have hl : (decL T (bytesOf s)).length ≤ 2 * s.size := by
        have h1 := len_all _ hc
        rw [← hd, List.length_map, chL, List.length_map, bytesOf_length] at h1
        exact h1
      simp only
      generalize ht : strOfNums (decL T (bytesOf s)) = t
      have htl : t.data.toList = encAll (chL T (bytesOf s)) := by rw [← ht, strOfNums_data, hd]
      have hts : t.size ≤ 4096 := by rw [← ht, strOfNums_size]; omega
      unfold encF
      rw [if_pos (show askQ 6144 t.size T = 0 by unfold askQ; rw [if_neg (by omega), if_neg (by omega), if_neg (by omega)]), htl, valid_all _ hc, if_pos rfl, Int.toNat_natCast,
        rs_all t (chL T (bytesOf s)) t.size 0 hc (by rw [List.drop_zero]; exact htl) (by omega), encTo_back T hT _ _ hr hv, List.nil_append]
      rw [show encP (some (bytesOf s)) = (strOfNums (bytesOf s), 0) from if_neg (by rw [bytesOf_length]; omega), strOf_bytes]
    · rw [if_neg hv] at h
      simp at h
  · rw [if_neg hq] at h
    exact absurd h hq
end Go.Proofs.YtmjldihmcbjfhaaDoor.H
