/-
  The ties of the rows: the package-level variables that a row lists hold what the program's own text lays, each tie out of facts apart.
-/
import Derived.Test.YtnkkccafdbaoeaaGreatDoorRows
import Derived.LaidByTextLater
import Derived.SevenTiedAt
namespace Go.Proofs.YtnkkccafdbaoeaaGreatDoor
open Go
def laidL : List (String × DataW Unit) := [("unicode/utf8.acceptRanges", Rows.laid_unicode_utf8_acceptRanges), ("strconv.ErrSyntax", Rows.laid_strconv_ErrSyntax), ("strconv.ErrRange", Rows.laid_strconv_ErrRange), ("internal/strconv.uint64pow10", Rows.laid_internal_strconv_uint64pow10), ("math/bits.deBruijn32tab", Rows.laid_math_bits_deBruijn32tab), ("math/bits.deBruijn64tab", Rows.laid_math_bits_deBruijn64tab), ("strings.asciiSpace", Rows.laid_strings_asciiSpace), ("unicode.White_Space", Rows.laid_unicode_White_Space), ("errors.errorType", Rows.laid_errors_errorType)]
def kindsL : List LaidKind := [.data, .sentinel, .sentinel, .data, .data, .data, .data, .listed, .handle]
/-- A place as a number; none where it is out of the way. -/
def placeKey : MemPlace → Option Nat
  | .cell b off => if Nat.blt off 4096 = true then some (b * 4096 + off) else none
  | .map _ => none
theorem placeKey_inj {p q : MemPlace} {k : Nat} (hp : placeKey p = some k) (hq : placeKey q = some k) : p = q := by
  cases p with
  | map b => simp [placeKey] at hp
  | cell b off =>
    cases q with
    | map b => simp [placeKey] at hq
    | cell b' off' =>
      simp only [placeKey, Nat.blt_eq] at hp hq
      split at hp
      · split at hq
        · simp only [Option.some.injEq] at hp hq
          have h1 : b = b' := by omega
          have h2 : off = off' := by omega
          rw [h1, h2]
        · cases hq
      · cases hp
/-- No place stands twice: by a mask of bits. -/
def distinctB : Nat → List MemPlace → Bool
  | _, [] => true
  | m, p :: ps => match placeKey p with
    | some k => !(Nat.testBit m k) && distinctB (Nat.lor m (Nat.pow 2 k)) ps
    | none => false
theorem distinctB_sound : ∀ (ps : List MemPlace) (m : Nat), distinctB m ps = true → ps.Nodup ∧ ∀ p ∈ ps, ∀ k, placeKey p = some k → m.testBit k = false
  | [], m, _ => ⟨List.nodup_nil, fun p hp => by cases hp⟩
  | p :: ps, m, h => by
    unfold distinctB at h
    cases hk : placeKey p with
    | none => rw [hk] at h; cases h
    | some k =>
      rw [hk] at h
      simp only [Bool.and_eq_true, Bool.not_eq_true'] at h
      obtain ⟨h1, h2⟩ := distinctB_sound ps _ h.2
      refine ⟨List.nodup_cons.2 ⟨fun hp => ?_, h1⟩, fun q hq k' hk' => ?_⟩
      · have := h2 p hp k hk
        rw [show Nat.lor m (Nat.pow 2 k) = m ||| 2 ^ k from rfl, Nat.testBit_or, Nat.testBit_two_pow_self] at this
        simp at this
      · rcases List.mem_cons.1 hq with rfl | hq
        · rw [hk] at hk'; cases hk'; exact h.1
        · have := h2 q hq k' hk'
          rw [show Nat.lor m (Nat.pow 2 k) = m ||| 2 ^ k from rfl, Nat.testBit_or] at this
          simp only [Bool.or_eq_false_iff] at this
          exact this.1
def laidOkB (P : Program) (w : World) : Option (List (String × DataW Unit) × List MemPlace) → Bool
  | some x => distinctB 0 x.2 && laidRowsB P w x.2
  | none => false
theorem laidOkB_sound {P : Program} {w : World} {o : Option (List (String × DataW Unit) × List MemPlace)} (h : laidOkB P w o = true) : o.map (fun x => decide x.2.Nodup && laidRowsB P w x.2) = some true := by
  cases o with
  | none => cases h
  | some x =>
    simp only [laidOkB, Bool.and_eq_true] at h
    simp only [Option.map_some, Option.some.injEq, Bool.and_eq_true, decide_eq_true_eq]
    exact ⟨(distinctB_sound _ _ h.1).1, h.2⟩
theorem f1 : Tryz.prog.worded (varsWordLater true) = true := by kernel_rfl
theorem f2 : Tryz.prog.worded (varsWordLater !true) = false := by kernel_rfl
theorem f3 : Tryz.prog.worded rootWordLater = true := by kernel_rfl
theorem f4 : laidL.map (fun x => Tryz.prog.kindOfLater x.1) = kindsL.map some := by kernel_rfl
theorem f5 : (Tryz.prog.funcNamed "gosem.cut.vars").isSome = true := by kernel_rfl
theorem f6 : varsNamedLaterB Tryz.prog (varsId Tryz.prog) laidL = true := by kernel_rfl
theorem f7 (os tape) : varsDone Tryz.prog 400 (varsId Tryz.prog) os tape = true := by kernel_rfl
theorem f8 (os tape) : (DataW.laidRun Tryz.prog (varsWorld Tryz.prog 400 (varsId Tryz.prog) os tape).memory 8 ((laidL.filter fun x => x.2.handleName?.isNone).map (·.1))).map (·.1) = some (laidL.filter fun x => x.2.handleName?.isNone) := by kernel_rfl
theorem f9 (os tape) : laidOkB Tryz.prog (varsWorld Tryz.prog 400 (varsId Tryz.prog) os tape).memory (DataW.laidRun Tryz.prog (varsWorld Tryz.prog 400 (varsId Tryz.prog) os tape).memory 8 ((laidL.filter fun x => x.2.handleName?.isNone).map (·.1))) = true := by kernel_rfl
theorem f10 (os tape) : (laidL.filter fun x => x.2.handleName?.isSome).all (handleAtB Tryz.prog (varsWorld Tryz.prog 400 (varsId Tryz.prog) os tape).memory) = true := by kernel_rfl
theorem tie : Tryz.prog.laidByTextLater laidL kindsL true :=
  Program.laidByTextLater_by_run_h 400 8 f1 f2 f3 f4 f5 f6 f7 f8 (fun os tape => laidOkB_sound (f9 os tape)) f10
theorem pin_first : Tryz.pinned.checked.prog.pinnedFits "unicode/utf8.first" = true := by kernel_rfl
theorem pin_case : Tryz.pinned.checked.prog.pinnedFits "unicode.CaseRanges" = true := by kernel_rfl
theorem noOwnUnsafe : Tryz.pinned.checked.prog.headLifts.contains "ownunsafe" = false := by kernel_rfl
theorem fits1 : Tryz.pinned.checked.prog.listedFits [("unicode/utf8.first", Rows.laid_unicode_utf8_first), ("unicode/utf8.acceptRanges", Rows.laid_unicode_utf8_acceptRanges), ("unicode.CaseRanges", Rows.laid_unicode_CaseRanges), ("strconv.ErrSyntax", Rows.laid_strconv_ErrSyntax), ("strconv.ErrRange", Rows.laid_strconv_ErrRange), ("internal/strconv.uint64pow10", Rows.laid_internal_strconv_uint64pow10), ("math/bits.deBruijn32tab", Rows.laid_math_bits_deBruijn32tab), ("math/bits.deBruijn64tab", Rows.laid_math_bits_deBruijn64tab), ("strings.asciiSpace", Rows.laid_strings_asciiSpace), ("unicode.White_Space", Rows.laid_unicode_White_Space), ("errors.errorType", Rows.laid_errors_errorType)] = true := by
  unfold Program.listedFits
  rw [noOwnUnsafe]
  kernel_rfl
theorem screenTakes_row_tie : Rows.screenTakesRow.laidByTextAt .later Tryz.pinned [.pinned, .data, .pinned, .sentinel, .sentinel, .data, .data, .data, .data, .listed, .handle] true :=
  OpenClaim.laidByTextAt_pinned rfl rfl tie rfl rfl rfl rfl (fun y hy _e => by
    simp only [Rows.screenTakesRow, List.zip_cons_cons, List.zip_nil_right, List.mem_cons, List.mem_nil_iff, or_false] at hy
    rcases hy with rfl | rfl | rfl | rfl | rfl | rfl | rfl | rfl | rfl | rfl | rfl
    · exact ⟨pin_first, by kernel_rfl⟩
    · cases _e
    · exact ⟨pin_case, by kernel_rfl⟩
    · cases _e
    · cases _e
    · cases _e
    · cases _e
    · cases _e
    · cases _e
    · cases _e
    · cases _e) fits1
theorem screenTransforms_row_tie : Rows.screenTransformsRow.laidByTextAt .later Tryz.pinned [.pinned, .data, .pinned, .sentinel, .sentinel, .data, .data, .data, .data, .listed, .handle] true :=
  OpenClaim.laidByTextAt_pinned rfl rfl tie rfl rfl rfl rfl (fun y hy _e => by
    simp only [Rows.screenTransformsRow, List.zip_cons_cons, List.zip_nil_right, List.mem_cons, List.mem_nil_iff, or_false] at hy
    rcases hy with rfl | rfl | rfl | rfl | rfl | rfl | rfl | rfl | rfl | rfl | rfl
    · exact ⟨pin_first, by kernel_rfl⟩
    · cases _e
    · exact ⟨pin_case, by kernel_rfl⟩
    · cases _e
    · cases _e
    · cases _e
    · cases _e
    · cases _e
    · cases _e
    · cases _e
    · cases _e) fits1
theorem screenBrowses_row_tie : Rows.screenBrowsesRow.laidByTextAt .later Tryz.pinned [.pinned, .data, .pinned, .sentinel, .sentinel, .data, .data, .data, .data, .listed, .handle] true :=
  OpenClaim.laidByTextAt_pinned rfl rfl tie rfl rfl rfl rfl (fun y hy _e => by
    simp only [Rows.screenBrowsesRow, List.zip_cons_cons, List.zip_nil_right, List.mem_cons, List.mem_nil_iff, or_false] at hy
    rcases hy with rfl | rfl | rfl | rfl | rfl | rfl | rfl | rfl | rfl | rfl | rfl
    · exact ⟨pin_first, by kernel_rfl⟩
    · cases _e
    · exact ⟨pin_case, by kernel_rfl⟩
    · cases _e
    · cases _e
    · cases _e
    · cases _e
    · cases _e
    · cases _e
    · cases _e
    · cases _e) fits1
theorem screenMenus_row_tie : Rows.screenMenusRow.laidByTextAt .later Tryz.pinned [.pinned, .data, .pinned, .sentinel, .sentinel, .data, .data, .data, .data, .listed, .handle] true :=
  OpenClaim.laidByTextAt_pinned rfl rfl tie rfl rfl rfl rfl (fun y hy _e => by
    simp only [Rows.screenMenusRow, List.zip_cons_cons, List.zip_nil_right, List.mem_cons, List.mem_nil_iff, or_false] at hy
    rcases hy with rfl | rfl | rfl | rfl | rfl | rfl | rfl | rfl | rfl | rfl | rfl
    · exact ⟨pin_first, by kernel_rfl⟩
    · cases _e
    · exact ⟨pin_case, by kernel_rfl⟩
    · cases _e
    · cases _e
    · cases _e
    · cases _e
    · cases _e
    · cases _e
    · cases _e
    · cases _e) fits1
end Go.Proofs.YtnkkccafdbaoeaaGreatDoor
