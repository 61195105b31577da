/-
  Several steps of the proof in one text: SShow, SLine, STrue, SIsTrue, SClone.
-/
import Derived.Test.YtnkkccafdbaoeaaGreatDoorSValidate
import Derived.Deep.RegionWith
import Derived.Deep.MidRow
import Derived.Maps.AppendAt
/- The texts of the two gets of the document's example. -/
namespace Go.Proofs.YtnkkccafdbaoeaaGreatDoor.H
open Go.RowKit Go.Proofs.YtnkkccafdbaoeaaGreatDoorW.PrintWords Go.Proofs.YtnkkccafdbaoeaaGreatDoorW.PrintLast Go.Proofs.YtnkkccafdbaoeaaGreatDoorW.PrintMore
set_option linter.unusedVariables false
set_option linter.unusedSimpArgs false

theorem filled_A (w : World) : Calls Tryz.prog 24 #[.string ⟨#[97, 98, 49]⟩, .string ⟨#[33, 33, 45, 57, 57]⟩] w (Ret w (.string ⟨#[65, 66, 45, 49, 32]⟩)) := by
  have h := filled_call ⟨#[97, 98, 49]⟩ ⟨#[33, 33, 45, 57, 57]⟩ w (by decide) (by decide)
  rwa [show strOfNums (filledL ⟨#[97, 98, 49]⟩ ⟨#[33, 33, 45, 57, 57]⟩) = ⟨#[65, 66, 45, 49, 32]⟩ by decide +kernel] at h
theorem filled_N (w : World) : Calls Tryz.prog 24 #[.string ⟨#[32, 32, 48]⟩, .string ⟨#[57, 57, 57]⟩] w (Ret w (.string ⟨#[32, 32, 48]⟩)) := by
  have h := filled_call ⟨#[32, 32, 48]⟩ ⟨#[57, 57, 57]⟩ w (by decide) (by decide)
  rwa [show strOfNums (filledL ⟨#[32, 32, 48]⟩ ⟨#[57, 57, 57]⟩) = ⟨#[32, 32, 48]⟩ by decide +kernel] at h
theorem itoa_zero (w : World) : Calls Tryz.prog 59 #[.int .i64 0] w fun e w' => e = .returned (.string ⟨#[48]⟩) ∧ w' = w := by
  have h := Tryz.strconv_Itoa_small 0 (by decide) w
  rwa [show (⟨(Lib.decDigits 0).toArray⟩ : ByteArray) = ⟨#[48]⟩ by decide +kernel] at h
theorem repeat_two (w : World) : Calls Tryz.prog 60 #[.string ⟨#[32]⟩, .int .i64 2] w (Ret w (.string ⟨#[32, 32]⟩)) := by
  have h := Tryz.strings_Repeat ⟨#[32]⟩ 2 w (by decide) (by decide)
  rwa [show (⟨(Lib.repeatL (⟨#[32]⟩ : ByteArray).data.toList 2).toArray⟩ : ByteArray) = ⟨#[32, 32]⟩ by decide +kernel] at h
set_option maxHeartbeats 1000000 in
theorem shown_A (w : World) : Calls Tryz.prog 39 #[vText ⟨#[97, 98, 49]⟩, .string ⟨#[33, 33, 45, 57, 57]⟩] w (Ret w (.string ⟨#[65, 66, 45, 49, 32]⟩)) := by
  have HF := Lib.hid filled_A
  unfold vText
  go_enter Tryz.func39, Tryz.ntmps39
  go_wp2_with (go_at_call 24; refine (HF.out _).mono ?_; rintro e w1 ⟨rfl, hb⟩; have HB1 := Aside0.mk hb; clear hb)
  go_ret
  exact ⟨rfl, nx (below_alloc (Below.refl _ _) _) HB1.out⟩
set_option maxHeartbeats 1000000 in
theorem shown_N (w : World) : Calls Tryz.prog 39 #[vNum 0, .string ⟨#[57, 57, 57]⟩] w (Ret w (.string ⟨#[32, 32, 48]⟩)) := by
  have HF := Lib.hid filled_N
  have HP := Lib.hid places_N
  have HI := Lib.hid itoa_zero
  have HR := Lib.hid repeat_two
  have HK0 := Aside0.mk (blk_new w #[.int .i64 2, .int .i64 0, .string ⟨#[]⟩] 44 (0, 0))
  unfold vNum
  go_enter Tryz.func39, Tryz.ntmps39
  go_wp2_with (first
    | (go_at_call 46; refine (HP.out _).mono ?_; rintro e w1 ⟨v, rfl, ho, hb⟩; obtain ⟨g, cap, rfl⟩ := own_form ho (by decide); have HB1 := Aside0.mk hb; have HK1 := Aside0.mk (HK0.out.below hb); clear hb ho; have c1 := HK1.out.cell 1)
    | (go_at_call 59; refine (HI.out _).mono ?_; rintro e w2 ⟨rfl, rfl⟩)
    | (go_at_call 60; refine (HR.out _).mono ?_; rintro e w3 ⟨rfl, hb⟩; have HB3 := Aside0.mk hb; clear hb)
    | (go_at_call 24; refine (HF.out _).mono ?_; rintro e w4 ⟨rfl, hb⟩; have HB4 := Aside0.mk hb; clear hb))
  go_ret
  exact ⟨rfl, nx (nx (nx (below_alloc (Below.refl _ _) _) HB1.out) HB3.out) HB4.out⟩
theorem blk_new2 (w : World) (o : Obj) (cs : Array Value) (t : TypeId) (fr : Nat × Nat) : Blk ((w.alloc o).alloc (.cells cs t fr)) (w.heap.size + 1) cs := by
  have h := blk_new (w.alloc o) cs t fr
  rwa [show (w.alloc o).heap.size = w.heap.size + 1 from Array.size_push ..] at h
set_option maxHeartbeats 1000000 in
theorem show_A (w : World) : Calls Tryz.prog 19 #[getA] w (Ret w (.tuple #[.string ⟨#[65, 66, 45, 49, 32]⟩, .int .i64 0])) := by
  have HV := Lib.hid validate_A
  have HS := Lib.hid shown_A
  have HK0 := Aside0.mk (blk_new w cellsA 47 (0, 0))
  unfold vText at HS
  unfold getA
  unfold cellsA at HK0
  go_enter Tryz.func19, Tryz.ntmps19
  go_wp2_with (first
    | (go_at_call 38; refine (HV.out _ _ _ ?hb).mono ?_; (case hb => exact blk_new2 _ _ _ _ _); rintro e w1 ⟨rfl, hb⟩; have HB1 := Aside0.mk hb; have HK1 := Aside0.mk ((HK0.out.alloc _).below hb); clear hb; have c1 := HK1.out.cell 1; have c4 := HK1.out.cell 4; have c5 := HK1.out.cell 5; have c6 := HK1.out.cell 6)
    | (go_at_call 39; refine (HS.out _).mono ?_; rintro e w2 ⟨rfl, hb⟩; have HB2 := Aside0.mk hb; clear hb))
  go_ret2
  exact ⟨rfl, nx (nx (below_alloc (below_alloc (Below.refl _ _) _) _) HB1.out) HB2.out⟩
end Go.Proofs.YtnkkccafdbaoeaaGreatDoor.H

/- The line of the second get of the document's example. -/
namespace Go.Proofs.YtnkkccafdbaoeaaGreatDoor.H
open Go.RowKit Go.Proofs.YtnkkccafdbaoeaaGreatDoorW.PrintWords Go.Proofs.YtnkkccafdbaoeaaGreatDoorW.PrintLast Go.Proofs.YtnkkccafdbaoeaaGreatDoorW.PrintMore
set_option linter.unusedVariables false
set_option linter.unusedSimpArgs false

theorem Buf.range {w : World} {g : Nat} {e : TypeId} {xs : List Value} (h : Buf w g e xs) : w.rangeAt g 0 xs := fun j v hv => by
  rw [Nat.zero_add, h.cell j (List.getElem?_eq_some_iff.1 hv).1, hv]
theorem results_cell_mid {P : Program} {fn : Func} {p : Tmp} {ty : TypeId} (h : fn.results = #[.cell p ty]) (tmps : Array Value) (w : World) (b o : Nat) (cs : List Value) (d : TypeDesc)
    (hp : tmps.getD p undef = .pointer (some ⟨b, o, none⟩)) (hc : w.rangeAt b o cs)
    (hu : P.underlying ty = some d) (hd : d.isRow = true) (hi : (P.info? ty).map (·.size) = some cs.length) :
    (results fn tmps).run P w = .ok (.agg cs.toArray) w := by
  have hp' : tmps[p]?.getD undef = .pointer (some ⟨b, o, none⟩) := by simpa using hp
  simp [results, h, hp', asAddr, run_loadVar_mid w b o ty cs d hc hu hd hi]
theorem buf_new (w : World) (cs : Array Value) (t : TypeId) : Buf (w.alloc (.cells cs t)) w.heap.size t cs.toList :=
  ⟨cs, 0, 0, new_at _ _, fun j hj => by simp, Or.inr (Nat.le_refl _)⟩
theorem size_alloc (w : World) (o : Obj) : (w.alloc o).heap.size = w.heap.size + 1 := Array.size_push ..
theorem below_undrew {w w' : World} (h : Below w.drew.heap.size w.drew w') : Below w.heap.size w w' := ⟨h.os, h.tape, h.output, h.size, h.block⟩
theorem own_ge {w : World} {B n g c : Nat} {e : TypeId} {xs : List Value} (h : w.ownsRow B e 1 (.slice (some ⟨g, 0, none⟩) n c) n xs) (hn : 0 < n) : B ≤ g := by
  obtain ⟨g', e1, h2, hb⟩ := own_buf h hn
  have e2 : g = g' := by injection e1 with h1; injection h1
  rw [e2]; exact h2
/-- A line with a text of three bytes. -/
def NewLine (w : World) (e : Ending) (w' : World) : Prop := ∃ gp cp gt ct, e = .returned (.agg #[.string ⟨#[57, 57, 57]⟩, .slice (some ⟨gp, 0, none⟩) 3 cp, .slice (some ⟨gt, 0, none⟩) 3 ct, .int .i64 0, .bool false]) ∧
  w.heap.size ≤ gp ∧ w.heap.size ≤ gt ∧ Buf w' gp 3 (nums .i64 [0, 1, 2]) ∧ Buf w' gt 5 (nums .u8 [32, 32, 48]) ∧ Below w.heap.size w w'
set_option maxHeartbeats 1000000 in
theorem newLine_N (w : World) : Calls Tryz.prog 62 #[vNum 0, .string ⟨#[57, 57, 57]⟩] w (NewLine w) := by
  have HP := Lib.hid places_N
  have HS := Lib.hid shown_N
  have hcv := fun W => print_bytes (P := Tryz.prog) 9 73 5 Tryz.underlying9 Tryz.underlying73 Tryz.underlying5 ⟨#[32, 32, 48]⟩ W
  unfold vNum at *
  go_enter Tryz.func62, Tryz.ntmps62
  go_wp2
  have HK0 := (blk_new w #[.int .i64 2, .int .i64 0, .string ⟨#[]⟩] 44 (0, 0)).alloc (.cells #[.string ⟨#[]⟩, .slice none 0 0, .slice none 0 0, .int .i64 0, .bool false] 75)
  have HL0 := Aside0.mk (buf_new (w.alloc (.cells #[.int .i64 2, .int .i64 0, .string ⟨#[]⟩] 44)) #[.string ⟨#[]⟩, .slice none 0 0, .slice none 0 0, .int .i64 0, .bool false] 75)
  rw [size_alloc] at HL0
  have HB0 := Aside0.mk (below_alloc (below_alloc (Below.refl w.heap.size w) (.cells #[.int .i64 2, .int .i64 0, .string ⟨#[]⟩] 44)) (.cells #[.string ⟨#[]⟩, .slice none 0 0, .slice none 0 0, .int .i64 0, .bool false] 75))
  generalize (w.alloc (.cells #[.int .i64 2, .int .i64 0, .string ⟨#[]⟩] 44)).alloc (.cells #[.string ⟨#[]⟩, .slice none 0 0, .slice none 0 0, .int .i64 0, .bool false] 75) = w0 at *
  have c0 := HK0.cell 0
  have c1 := HK0.cell 1
  have c2 := HK0.cell 2
  have hBl := HK0.lt
  go_region_with
    (first
      | (go_at_call 46; refine (HP.out _).mono ?_; rintro e w1 ⟨v, rfl, ho, hb⟩; obtain ⟨gp, cp, rfl⟩ := own_form ho (by decide); have HB1 := Aside0.mk hb; have HP1 := Aside0.mk (own_buf' ho (by decide)); have HG1 := Aside0.mk (own_ge ho (by decide)); have d0 := (hb.cell (p := ⟨w.heap.size, 0, none⟩) hBl).trans c0; have d1 := (hb.cell (p := ⟨w.heap.size, 1, none⟩) hBl).trans c1; have d2 := (hb.cell (p := ⟨w.heap.size, 2, none⟩) hBl).trans c2; clear hb ho)
      | (go_at_call 39; refine (HS.out _).mono ?_; rintro e w2 ⟨rfl, hb⟩; have HB2 := Aside0.mk hb; have hB2 : w.heap.size < w1.heap.size := Nat.lt_of_lt_of_le hBl HB1.out.size; have e0 := (hb.cell (p := ⟨w.heap.size, 0, none⟩) hB2).trans d0; have e1 := (hb.cell (p := ⟨w.heap.size, 1, none⟩) hB2).trans d1; have e2 := (hb.cell (p := ⟨w.heap.size, 2, none⟩) hB2).trans d2; have hB3 : w.heap.size < w2.heap.size := Nat.lt_of_lt_of_le hB2 hb.size; have hb3 := bytes_below (Below.refl w2.heap.size w2) (Nat.le_refl _) 5 ⟨#[32, 32, 48]⟩; have f0 := (hb3.cell (p := ⟨w.heap.size, 0, none⟩) hB3).trans e0; have f1 := (hb3.cell (p := ⟨w.heap.size, 1, none⟩) hB3).trans e1; have f2 := (hb3.cell (p := ⟨w.heap.size, 2, none⟩) hB3).trans e2; have HL3 := Aside0.mk (((HL0.out.below (below_undrew HB1.out)).below hb).below hb3); have l0 := HL3.out.cell 0 (by decide); have l1 := HL3.out.cell 1 (by decide); have l2 := HL3.out.cell 2 (by decide); have l3 := HL3.out.cell 3 (by decide); have l4 := HL3.out.cell 4 (by decide); have z0 := HL3.out.frozen 0 (by decide); have z1 := HL3.out.frozen 1 (by decide); have z2 := HL3.out.frozen 2 (by decide); have z3 := HL3.out.frozen 3 (by decide); have z4 := HL3.out.frozen 4 (by decide); clear hb hb3))
  all_goals
    have hPl := HL0.out.lt
    have hs1 : w0.heap.size ≤ w1.heap.size := HB1.out.size
    have hs2 : w1.heap.size ≤ w2.heap.size := HB2.out.size
    have hg1 : w0.heap.size ≤ gp := HG1.out
    have HT3 := Aside0.mk (buf_bytesWorld w2 5 ⟨#[32, 32, 48]⟩)
    have HP3 := Aside0.mk ((HP1.out.below HB2.out).below (bytes_below (Below.refl w2.heap.size w2) (Nat.le_refl _) 5 ⟨#[32, 32, 48]⟩))
    have HB3 := Aside0.mk (nx (nx (nx HB0.out (below_undrew HB1.out)) HB2.out) (bytes_below (Below.refl w2.heap.size w2) (Nat.le_refl _) 5 ⟨#[32, 32, 48]⟩))
    clear l0 l1 l2 l3 l4 z0 z1 z2 z3 z4 f0 f1 f2 e0 e1 e2 d0 d1 d2 hcv
    generalize Lib.bytesWorld w2 5 ⟨#[32, 32, 48]⟩ = w3 at *
    have HL4 := Aside0.mk (((((HL3.out.set 0 (.string ⟨#[57, 57, 57]⟩)).set 1 (.slice (some ⟨gp, 0, none⟩) 3 cp)).set 2 (.slice (some ⟨w2.heap.size, 0, none⟩) 3 (grownCap w2 3 0 5))).set 3 (.int .i64 0)).set 4 (.bool false))
    have HP4 := Aside0.mk (((((HP3.out.set_far (p := ⟨w.heap.size + 1, 0, none⟩) (by simp; omega) (.string ⟨#[57, 57, 57]⟩)).set_far (p := ⟨w.heap.size + 1, 1, none⟩) (by simp; omega) (.slice (some ⟨gp, 0, none⟩) 3 cp)).set_far (p := ⟨w.heap.size + 1, 2, none⟩) (by simp; omega) (.slice (some ⟨w2.heap.size, 0, none⟩) 3 (grownCap w2 3 0 5))).set_far (p := ⟨w.heap.size + 1, 3, none⟩) (by simp; omega) (.int .i64 0)).set_far (p := ⟨w.heap.size + 1, 4, none⟩) (by simp; omega) (.bool false))
    have HT4 := Aside0.mk (((((HT3.out.set_far (p := ⟨w.heap.size + 1, 0, none⟩) (by simp; omega) (.string ⟨#[57, 57, 57]⟩)).set_far (p := ⟨w.heap.size + 1, 1, none⟩) (by simp; omega) (.slice (some ⟨gp, 0, none⟩) 3 cp)).set_far (p := ⟨w.heap.size + 1, 2, none⟩) (by simp; omega) (.slice (some ⟨w2.heap.size, 0, none⟩) 3 (grownCap w2 3 0 5))).set_far (p := ⟨w.heap.size + 1, 3, none⟩) (by simp; omega) (.int .i64 0)).set_far (p := ⟨w.heap.size + 1, 4, none⟩) (by simp; omega) (.bool false))
    have HB4 := Aside0.mk (((((HB3.out.setCell (p := ⟨w.heap.size + 1, 0, none⟩) (by simp) (.string ⟨#[57, 57, 57]⟩)).setCell (p := ⟨w.heap.size + 1, 1, none⟩) (by simp) (.slice (some ⟨gp, 0, none⟩) 3 cp)).setCell (p := ⟨w.heap.size + 1, 2, none⟩) (by simp) (.slice (some ⟨w2.heap.size, 0, none⟩) 3 (grownCap w2 3 0 5))).setCell (p := ⟨w.heap.size + 1, 3, none⟩) (by simp) (.int .i64 0)).setCell (p := ⟨w.heap.size + 1, 4, none⟩) (by simp) (.bool false))
    clear HL3 HP3 HT3 HB3
    try go_wp2
    refine bodyPost_ret (results_cell_mid rfl _ _ (w.heap.size + 1) 0 _ _ rfl HL4.out.range Tryz.underlying75 rfl (by kernel_rfl)) rfl ?_
    have hw0 : w.heap.size ≤ w0.heap.size := HB0.out.size
    exact ⟨gp, cp, w2.heap.size, grownCap w2 3 0 5, rfl, by omega, by omega, HP4.out, HT4.out, HB4.out⟩
end Go.Proofs.YtnkkccafdbaoeaaGreatDoor.H

/- A get without conditions may be entered and left. -/
namespace Go.Proofs.YtnkkccafdbaoeaaGreatDoor.H
open Go.RowKit Go.Proofs.YtnkkccafdbaoeaaGreatDoorW.PrintWords Go.Proofs.YtnkkccafdbaoeaaGreatDoorW.PrintLast Go.Proofs.YtnkkccafdbaoeaaGreatDoorW.PrintMore
set_option linter.unusedVariables false
set_option linter.unusedSimpArgs false

def vTrue : Value := .agg #[.int .i64 1, .int .i64 1, .string ⟨#[]⟩]
def envOf (A : Option Addr) (n c : Nat) (B : Option Addr) (m d : Nat) : Value := .agg #[.slice A n c, .slice B m d, .bool true, .int .i64 0, .int .i64 0, .bool false]
theorem new_at3 (w : World) (a b c : Obj) : (((w.alloc a).alloc b).alloc c).heap[w.heap.size + 1 + 1]? = some c := by
  rw [← size_alloc w a, ← size_alloc (w.alloc a) b]; exact new_at _ _
theorem buf3 (w : World) (a b : Obj) (cs : Array Value) (t : TypeId) : Buf (((w.alloc a).alloc b).alloc (.cells cs t)) (w.heap.size + 1 + 1) t cs.toList := by
  rw [← size_alloc w a, ← size_alloc (w.alloc a) b]; exact buf_new _ _ _
theorem results_mid_tmp {P : Program} {fn : Func} {p u : Tmp} {ty : TypeId} (h : fn.results = #[.cell p ty, .tmp u]) (tmps : Array Value) (w : World) (b o : Nat) (cs : List Value) (d : TypeDesc)
    (hp : tmps.getD p undef = .pointer (some ⟨b, o, none⟩)) (hc : w.rangeAt b o cs)
    (hu : P.underlying ty = some d) (hd : d.isRow = true) (hi : (P.info? ty).map (·.size) = some cs.length) :
    (results fn tmps).run P w = .ok (.tuple #[.agg cs.toArray, tmps.getD u undef]) w := by
  have hp' : tmps[p]?.getD undef = .pointer (some ⟨b, o, none⟩) := by simpa using hp
  simp [results, h, hp', asAddr, run_loadVar_mid w b o ty cs d hc hu hd hi]
theorem blk3_2 (w : World) (a b c : Obj) {cs : Array Value} {t : TypeId} {fr : Nat × Nat} (h : b = .cells cs t fr) : Blk (((w.alloc a).alloc b).alloc c) (w.heap.size + 1) cs := by
  subst h
  exact (blk_new2 w a cs t fr).alloc c
set_option maxHeartbeats 1000000 in
set_option maxRecDepth 100000 in
theorem eval_true (A : Option Addr) (n c : Nat) (B : Option Addr) (m d : Nat) (w : World) : Calls Tryz.prog 108 #[exprTrue, envOf A n c B m d] w (Ret w (.tuple #[vTrue, .nilIface])) := by
  unfold exprTrue envOf
  go_enter Tryz.func108, Tryz.ntmps108
  go_wp2
  refine bodyPost_ret (results_row_tmp rfl _ _ (w.heap.size + 1 + 1) 44 _ (0, 0) _ rfl (new_at3 _ _ _ _) Tryz.underlying44 rfl (by kernel_rfl)) rfl ?_
  exact ⟨rfl, below_alloc (below_alloc (below_alloc (Below.refl _ _) _) _) _⟩
set_option maxHeartbeats 1000000 in
theorem as_nil (g : Value) (w : World) : Calls Tryz.prog 153 #[.nilIface, g] w (Ret w (.bool false)) := by
  go_enter Tryz.func153, Tryz.ntmps153
  go_wp2
  go_ret
  exact ⟨rfl, Below.refl _ _⟩
set_option maxHeartbeats 1000000 in
theorem reason_nil (w : World) : Calls Tryz.prog 109 #[.nilIface] w (Ret w (.int .i64 0)) := by
  have H := Lib.hid as_nil
  go_enter Tryz.func109, Tryz.ntmps109
  go_wp2_with (go_at_call 153; refine (H.out _ _).mono ?_; rintro e w1 ⟨rfl, hb⟩; have HB1 := Aside0.mk hb; clear hb)
  go_ret
  exact ⟨rfl, nx (below_alloc (Below.refl _ _) _) HB1.out⟩
set_option maxHeartbeats 1000000 in
set_option maxRecDepth 100000 in
theorem reval_true (A : Option Addr) (n c : Nat) (B : Option Addr) (m d : Nat) (w : World) : Calls Tryz.prog 83 #[exprTrue, envOf A n c B m d] w (Ret w (.tuple #[vTrue, .int .i64 0])) := by
  have HE := Lib.hid (eval_true A n c B m d)
  have HR := Lib.hid reason_nil
  unfold exprTrue envOf vTrue at *
  go_enter Tryz.func83, Tryz.ntmps83
  go_wp2_with (go_at_call 108; refine (HE.out _).mono ?_; rintro e w1 ⟨rfl, hb⟩; have HB1 := Aside0.mk hb; clear hb)
  have HL0 := Aside0.mk (buf3 w (.cells #[.int .i64 0, .string ⟨#[]⟩, .int .i64 1, .int .i64 1, .string ⟨#[]⟩, .slice none 0 0, .slice none 0 0] 90) (.cells #[.slice A n c, .slice B m d, .bool true, .int .i64 0, .int .i64 0, .bool false] 123) #[.int .i64 0, .int .i64 0, .string ⟨#[]⟩] 44)
  have HL1 := Aside0.mk ((HL0.out.below HB1.out).alloc (.cells #[.int .i64 1, .int .i64 1, .string ⟨#[]⟩] 44))
  have HK1 := Aside0.mk (blk_new w1 #[.int .i64 1, .int .i64 1, .string ⟨#[]⟩] 44 (0, 0))
  have HBa := Aside0.mk (below_alloc (nx (below_alloc (below_alloc (below_alloc (Below.refl w.heap.size w) _) _) _) HB1.out) (.cells #[.int .i64 1, .int .i64 1, .string ⟨#[]⟩] 44))
  clear HL0 HB1 HE
  generalize w1.alloc (.cells #[.int .i64 1, .int .i64 1, .string ⟨#[]⟩] 44) = wa at *
  generalize w1.heap.size = b6 at *
  have c0 := HK1.out.cell 0
  have c1 := HK1.out.cell 1
  have c2 := HK1.out.cell 2
  go_region_with (go_at_call 109; refine (HR.out _).mono ?_; rintro e w2 ⟨rfl, hb⟩; have HB2 := Aside0.mk hb; have HK2 := HK1.out.below (below_undrew hb); have d0 := HK2.cell 0; have d1 := HK2.cell 1; have d2 := HK2.cell 2; have HL2 := Aside0.mk (HL1.out.below (below_undrew hb)); have l0 := HL2.out.cell 0 (by decide); have l1 := HL2.out.cell 1 (by decide); have l2 := HL2.out.cell 2 (by decide); have z0 := HL2.out.frozen 0 (by decide); have z1 := HL2.out.frozen 1 (by decide); have z2 := HL2.out.frozen 2 (by decide); clear HK2 hb)
  all_goals
    have HL4 := Aside0.mk (((HL2.out.set 0 (.int .i64 1)).set 1 (.int .i64 1)).set 2 (.string ⟨#[]⟩))
    have HB3 := nx HBa.out (below_undrew HB2.out)
    have HB4 := Aside0.mk (((HB3.setCell (p := ⟨w.heap.size + 1 + 1, 0, none⟩) (by simp; omega) (.int .i64 1)).setCell (p := ⟨w.heap.size + 1 + 1, 1, none⟩) (by simp; omega) (.int .i64 1)).setCell (p := ⟨w.heap.size + 1 + 1, 2, none⟩) (by simp; omega) (.string ⟨#[]⟩))
    clear l0 l1 l2 z0 z1 z2 d0 d1 d2 c0 c1 c2
    try go_wp2
    refine bodyPost_ret (results_mid_tmp rfl _ _ (w.heap.size + 1 + 1) 0 _ _ rfl HL4.out.range Tryz.underlying44 rfl (by kernel_rfl)) rfl ?_
    exact ⟨rfl, HB4.out⟩
end Go.Proofs.YtnkkccafdbaoeaaGreatDoor.H

/- The empty condition is true over the second get of the document's example. -/
namespace Go.Proofs.YtnkkccafdbaoeaaGreatDoor.H
open Go.RowKit Go.Proofs.YtnkkccafdbaoeaaGreatDoorW.PrintWords Go.Proofs.YtnkkccafdbaoeaaGreatDoorW.PrintLast Go.Proofs.YtnkkccafdbaoeaaGreatDoorW.PrintMore
set_option linter.unusedVariables false
set_option linter.unusedSimpArgs false

theorem info_str : (Tryz.prog.info? 9).map (fun i => (i.zero, i.size, i.bytes)) = some (some (.string ⟨#[]⟩), 1, 16) := by kernel_rfl
theorem buf_new2 (w : World) (a : Obj) (cs : Array Value) (t : TypeId) : Buf ((w.alloc a).alloc (.cells cs t)) (w.heap.size + 1) t cs.toList := by
  rw [← size_alloc w a]; exact buf_new _ _ _
set_option maxHeartbeats 1000000 in
set_option maxRecDepth 100000 in
theorem isTrue_N (gl cl : Nat) (B : Option Addr) (m d : Nat) (w : World) (hb : Blk w gl cellsN) : Calls Tryz.prog 61 #[.string ⟨#[]⟩, .slice (some ⟨gl, 0, none⟩) 1 cl, .slice B m d] w (Ret w (.bool true)) := by
  have HC := Lib.hid condition_call
  have HE := Lib.hid (fun A n c w => reval_true A n c B m d w)
  have HK := Aside0.mk hb
  unfold exprTrue envOf vTrue at *
  clear hb
  go_enter Tryz.func61, Tryz.ntmps61
  go_wp2_with (go_at_call 58; refine (HC.out _).mono ?_; rintro e w1 ⟨rfl, hb⟩; have HB1 := Aside0.mk hb; clear hb)
  have HX0 := Aside0.mk ((blk_new w1 #[.int .i64 0, .string ⟨#[]⟩, .int .i64 1, .int .i64 1, .string ⟨#[]⟩, .slice none 0 0, .slice none 0 0] 90 (0, 0)).alloc (.cells #[.slice none 0 0, .slice B m d, .bool true, .int .i64 0, .int .i64 0, .bool false] 123))
  have HV0 := Aside0.mk (buf_new2 w1 (.cells #[.int .i64 0, .string ⟨#[]⟩, .int .i64 1, .int .i64 1, .string ⟨#[]⟩, .slice none 0 0, .slice none 0 0] 90) #[.slice none 0 0, .slice B m d, .bool true, .int .i64 0, .int .i64 0, .bool false] 123)
  have HB0 := Aside0.mk (below_alloc (below_alloc HB1.out (.cells #[.int .i64 0, .string ⟨#[]⟩, .int .i64 1, .int .i64 1, .string ⟨#[]⟩, .slice none 0 0, .slice none 0 0] 90)) (.cells #[.slice none 0 0, .slice B m d, .bool true, .int .i64 0, .int .i64 0, .bool false] 123))
  have hw1 : w.heap.size ≤ w1.heap.size := HB1.out.size
  clear HB1 HC
  generalize (w1.alloc (.cells #[.int .i64 0, .string ⟨#[]⟩, .int .i64 1, .int .i64 1, .string ⟨#[]⟩, .slice none 0 0, .slice none 0 0] 90)).alloc (.cells #[.slice none 0 0, .slice B m d, .bool true, .int .i64 0, .int .i64 0, .bool false] 123) = w2 at *
  generalize w1.heap.size = b1 at *
  go_loopw [23] (fun i wr => ∃ (k : Nat) (A : Option Addr) (n c : Nat), i = .int .i64 k ∧ Aside0 (k ≤ 1) ∧ Aside0 (k = 0 → A = none ∧ n = 0 ∧ c = 0) ∧ Aside0 (Blk wr b1 #[.int .i64 0, .string ⟨#[]⟩, .int .i64 1, .int .i64 1, .string ⟨#[]⟩, .slice none 0 0, .slice none 0 0]) ∧ Aside0 (Buf wr (b1 + 1) 123 [.slice A n c, .slice B m d, .bool true, .int .i64 0, .int .i64 0, .bool false]) ∧ Aside0 (Below w.heap.size w wr)) (fun i _ => 1 - (intOf i).toNat)
  case atStart => exact ⟨0, none, 0, 0, rfl, ⟨by omega⟩, ⟨fun _ => ⟨rfl, rfl, rfl⟩⟩, HX0, HV0, HB0⟩
  case round =>
    clear HX0 HV0 HB0
    obtain ⟨k, A, n, c, rfl, HL, HN, HX, HV, HB⟩ := hrel
    have hk := HL.out
    by_cases hlt : k < 1
    · obtain rfl : k = 0 := by omega
      obtain ⟨rfl, rfl, rfl⟩ := HN.out rfl
      have HKr := HK.out.below HB.out
      unfold cellsN at HKr
      have c0 := HKr.cell 0
      have c1 := HKr.cell 1
      have c2 := HKr.cell 2
      have c3 := HKr.cell 3
      have c4 := HKr.cell 4
      have c5 := HKr.cell 5
      have c6 := HKr.cell 6
      clear HKr HN
      have HVa := Aside0.mk (HV.out.alloc (.cells #[.string ⟨#[78]⟩, .string ⟨#[57, 57, 57]⟩, .string ⟨#[]⟩, .string ⟨#[]⟩, .int .i64 2, .int .i64 0, .string ⟨#[]⟩] 47))
      have HXa := Aside0.mk (HX.out.alloc (.cells #[.string ⟨#[78]⟩, .string ⟨#[57, 57, 57]⟩, .string ⟨#[]⟩, .string ⟨#[]⟩, .int .i64 2, .int .i64 0, .string ⟨#[]⟩] 47))
      have HBa := Aside0.mk (below_alloc HB.out (.cells #[.string ⟨#[78]⟩, .string ⟨#[57, 57, 57]⟩, .string ⟨#[]⟩, .string ⟨#[]⟩, .int .i64 2, .int .i64 0, .string ⟨#[]⟩] 47))
      have v0 := HVa.out.cell 0 (by simp)
      go_wp2_with (at_builtin; (refine print_append (w0 := wr.alloc (.cells #[.string ⟨#[78]⟩, .string ⟨#[57, 57, 57]⟩, .string ⟨#[]⟩, .string ⟨#[]⟩, .int .i64 2, .int .i64 0, .string ⟨#[]⟩] 47)) (wr.alloc (.cells #[.string ⟨#[78]⟩, .string ⟨#[57, 57, 57]⟩, .string ⟨#[]⟩, .string ⟨#[]⟩, .int .i64 2, .int .i64 0, .string ⟨#[]⟩] 47)).heap.size rfl (.tmp 28) (.tmp 31) 35 9 (.string ⟨#[]⟩) 16 rfl Tryz.underlying35 info_str rfl (by decide) _ [] (.string ⟨#[78]⟩) rfl (by rw [size_alloc]; rfl) rfl ⟨rfl, Or.inl ⟨rfl, rfl⟩⟩ (Below.refl _ _) (Nat.le_refl _) (by decide) ?_); intro v1 w8 ho hb hg hat; obtain ⟨g8, c8, rfl⟩ := own_form ho (by decide); have HB8 := Aside0.mk hb; have HV8 := Aside0.mk (HVa.out.below hb); have HX8 := Aside0.mk (HXa.out.below hb); have v8 := HV8.out.cell 0 (by simp); have z8 := HV8.out.frozen 0 (by simp); clear ho hb hg hat)
      go_roundw
      case rel =>
        have h1 := HV8.out.set 0 (.slice (some ⟨g8, 0, none⟩) 1 c8)
        exact ⟨1, some ⟨g8, 0, none⟩, 1, c8, by go_num, ⟨by omega⟩, ⟨fun h => by omega⟩, ⟨HX8.out.keep (Below.heap_setCell _ _ _ _ (by simp))⟩, ⟨h1⟩, ⟨(nx HBa.out HB8.out).setCell (by simp; omega) _⟩⟩
      case measure => simp [intOf]
    · obtain rfl : k = 1 := by omega
      clear HN
      have x0 := HX.out.cell 0
      have x1 := HX.out.cell 1
      have x2 := HX.out.cell 2
      have x3 := HX.out.cell 3
      have x4 := HX.out.cell 4
      have x5 := HX.out.cell 5
      have x6 := HX.out.cell 6
      have v0 := HV.out.cell 0 (by simp)
      have v1 := HV.out.cell 1 (by simp)
      have v2 := HV.out.cell 2 (by simp)
      have v3 := HV.out.cell 3 (by simp)
      have v4 := HV.out.cell 4 (by simp)
      have v5 := HV.out.cell 5 (by simp)
      have HE2 := Lib.hid (HE.out A n c)
      go_wp2_with (go_at_call 83; refine (HE2.out _).mono ?_; rintro e w9 ⟨rfl, hb⟩; have HB9 := Aside0.mk hb; clear hb)
      go_ret
      exact ⟨rfl, below_alloc (nx HB.out HB9.out) _⟩
end Go.Proofs.YtnkkccafdbaoeaaGreatDoor.H

/- The clone of a list of one value. -/
namespace Go.Proofs.YtnkkccafdbaoeaaGreatDoor.H
open Go.RowKit Go.Proofs.YtnkkccafdbaoeaaGreatDoorW.PrintWords Go.Proofs.YtnkkccafdbaoeaaGreatDoorW.PrintLast Go.Proofs.YtnkkccafdbaoeaaGreatDoorW.PrintMore
set_option linter.unusedVariables false
set_option linter.unusedSimpArgs false

theorem Buf.news {w : World} {g : Nat} {e : TypeId} {xs : List Value} (h : Buf w g e xs) (j : Nat) (u : Value) (hj : xs[j]? = some u) : w.cell? ((⟨g, 0, none⟩ : Addr).add j) = some u := by
  have ha : (⟨g, 0, none⟩ : Addr).add j = ⟨g, j, none⟩ := by unfold Addr.add; split <;> simp_all
  rw [ha, h.cell j (List.getElem?_eq_some_iff.1 hj).1, hj]
/-- append(v, l...), elements of several cells; behind 'at_builtin'. -/
theorem append_rows {P : Program} {ops : Array Oper} {rest : List Oper} {o : Oper} {a : Act} {Q : Exit → Act → World → Prop} {w0 W : World} (base : Nat) (hgd : o.guard = none) (s x : Operand) (t e : TypeId) (z : Value) (size bytes : Nat)
    (ho : o.op = .call { callee := .builtin .append, args := #[s, x], argTypes := #[t, t] })
    (ht : P.underlying t = some (.slice e)) (hinfo : (P.info? e).map (fun i => (i.zero, i.size, i.bytes)) = some (some z, size, bytes)) (hz : z.cells.size = size) (hs0 : 0 < size) (hb0 : 0 < bytes)
    (v : Value) (n : Nat) (xs : List Value) (g m c : Nat) (e' : TypeId) (ys : List Value) (hs : a.eval s = v) (hx : a.eval x = .slice (some ⟨g, 0, none⟩) m c) (hys : ys.length = m * size) (h1 : ∀ u ∈ ys, u.oneCell' = true)
    (HO : W.ownsRow base e size v n xs) (HY : Buf W g e' ys) (HB : Below base w0 W) (hbase : base ≤ W.heap.size) (hl : (n + m) * bytes ≤ 140737488355328)
    (h : ∀ v1 w1, w1.ownsRow base e size v1 (n + m) (xs ++ ys) → Below base w0 w1 → W.grownBy w1 v.ownBlock → wpList P ops Q rest (a.put o.dst v1) w1) :
    wpList P ops Q (o :: rest) a W := by
  obtain ⟨i0, hi, hzz⟩ := Option.map_eq_some_iff.1 hinfo
  simp only [Prod.mk.injEq] at hzz
  obtain ⟨hz0, hz1, hz2⟩ := hzz
  have hlen : n + m ≤ 140737488355328 := Nat.le_trans (Nat.le_mul_of_pos_right _ hb0) hl
  refine wpList_append_own_at W hgd s x t ho base e i0 z size bytes ht hi hz0 hz1 hz2 hz hs0 v n xs hs HO ⟨g, 0, none⟩ m c ys hx hys HY.news h1 (by simp only [maxLen]; omega) hl hbase ?_
  intro v1 w1 hown hg _ _
  exact h v1 w1 hown (HB.grown hg hbase (own_base HO)) hg
theorem info_value : (Tryz.prog.info? 44).map (fun i => (i.zero, i.size, i.bytes)) = some (some (.agg #[.int .i64 0, .int .i64 0, .string ⟨#[]⟩]), 3, 32) := by kernel_rfl
/-- A row of one value of one's own. -/
theorem own_rows_buf {w : World} {B n g c size : Nat} {e : TypeId} {xs : List Value} {v : Value} (h : w.ownsRow B e size v n xs) (hn : 0 < n) : ∃ g c, v = .slice (some ⟨g, 0, none⟩) n c ∧ B ≤ g ∧ Buf w g e xs := by
  obtain ⟨h1, h2⟩ := h
  rcases h2 with ⟨_, h0⟩ | ⟨g, cap, cur, hv, hb, hg, hc1, hc2, hc3, hc4⟩
  · omega
  · refine ⟨g, cap, hv, hb, ⟨cur, 0, 0, hg, fun j hj => ?_, Or.inr (Nat.le_refl _)⟩⟩
    rw [← hc4, List.getElem?_take_of_lt (by rw [← h1]; exact hj), Array.getElem?_toList]
def OneValue (w : World) (xs : List Value) (e : Ending) (w' : World) : Prop := ∃ g c, e = .returned (.slice (some ⟨g, 0, none⟩) 1 c) ∧ w.heap.size ≤ g ∧ Buf w' g 44 xs ∧ Below w.heap.size w w'
theorem own_empty (w : World) (e : TypeId) (size : Nat) : (w.alloc (.cells #[] e)).ownsRow w.heap.size e size (.slice (some ⟨w.heap.size, 0, none⟩) 0 0) 0 [] :=
  ⟨by simp, Or.inr ⟨w.heap.size, 0, #[], rfl, Nat.le_refl _, new_at _ _, Nat.le_refl _, by simp [maxLen], by simp, by simp⟩⟩
theorem slice_not_nil (a : Addr) (n c : Nat) (w : World) : (binOp .eql 48 (.slice (some a) n c) (.slice none 0 0)).run Tryz.prog w = .ok (.bool false) w := by kernel_rfl
set_option maxHeartbeats 1000000 in
set_option maxRecDepth 100000 in
theorem clone_call (gv cv : Nat) (k n : Int) (s : ByteArray) (w : World) (hb : Buf w gv 44 [.int .i64 k, .int .i64 n, .string s]) :
    Calls Tryz.prog 65 #[.slice (some ⟨gv, 0, none⟩) 1 cv] w (OneValue w [.int .i64 k, .int .i64 n, .string s]) := by
  have HB := Aside0.mk (hb.alloc (.cells #[] 44))
  clear hb
  have hnn := slice_not_nil ⟨gv, 0, none⟩ 1 cv
  go_enter Tryz.func65, Tryz.ntmps65
  go_wp2_with (at_builtin; go_loud ((refine append_rows (w0 := w) w.heap.size rfl (.tmp 5) (.tmp 6) 48 44 (.agg #[.int .i64 0, .int .i64 0, .string ⟨#[]⟩]) 3 32 rfl Tryz.underlying48 info_value rfl (by decide) (by decide) _ 0 [] gv 1 cv _ _ rfl rfl ?h1 ?h2 (own_empty _ _ _) HB.out (below_alloc (Below.refl _ _) _) ?h3 (by decide) ?_); (case h1 => rfl); (case h2 => simp [Value.oneCell']); (case h3 => simp); (intro v1 w8 ho hb hg); obtain ⟨g8, c8, rfl, hg8, hbf⟩ := own_rows_buf (g := 0) (c := 0) ho (by decide); have HV := Aside0.mk (And.intro hg8 (And.intro hbf hb)); clear ho hb hg hg8 hbf))
  go_ret
  obtain ⟨h1, h2, h3⟩ := HV.out
  exact ⟨g8, c8, rfl, h1, h2, h3⟩
end Go.Proofs.YtnkkccafdbaoeaaGreatDoor.H
