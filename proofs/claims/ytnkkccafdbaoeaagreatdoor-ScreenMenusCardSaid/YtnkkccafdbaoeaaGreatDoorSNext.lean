/-
  Several steps of the proof in one text: SVal, SValued, SNow, SNext.
-/
import Derived.Test.YtnkkccafdbaoeaaGreatDoorSClone
import Derived.Test.YtnkkccafdbaoeaaGreatDoorSShelf
import Derived.Deep.RegionHeld3
/- The number of the text 120, and the value of that text. -/
namespace Go.Proofs.YtnkkccafdbaoeaaGreatDoor.H
open Go.RowKit Go.Proofs.YtnkkccafdbaoeaaGreatDoorW.PrintWords Go.Proofs.YtnkkccafdbaoeaaGreatDoorW.PrintLast Go.Proofs.YtnkkccafdbaoeaaGreatDoorW.PrintMore
set_option linter.unusedVariables false
set_option linter.unusedSimpArgs false

theorem trimLeft_120 (w : World) : Calls Tryz.prog 121 #[.string ⟨#[49, 50, 48]⟩, .string ⟨#[32]⟩] w fun e w' => e = .returned (.string ⟨#[49, 50, 48]⟩) ∧ w' = w := by
  have h := Tryz.strings_TrimLeft_one ⟨#[49, 50, 48]⟩ 32 (by decide) w
  rwa [show (⟨(Lib.trimLeftB (⟨#[49, 50, 48]⟩ : ByteArray).data.toList 32).toArray⟩ : ByteArray) = ⟨#[49, 50, 48]⟩ by decide +kernel] at h
/-- The number of the first k digits. -/
def digs : Nat → Int | 0 => 0 | 1 => 1 | 2 => 12 | _ => 120
set_option maxHeartbeats 1000000 in
theorem val_120 (w : World) : Calls Tryz.prog 91 #[.string ⟨#[49, 50, 48]⟩] w (Ret w (.int .i64 120)) := by
  have HT := Lib.hid trimLeft_120
  have hb0 : ((((⟨#[49, 50, 48]⟩ : ByteArray)[0]'(by decide)).toNat : Nat) : Int) = 49 := rfl
  have hb1 : ((((⟨#[49, 50, 48]⟩ : ByteArray)[1]'(by decide)).toNat : Nat) : Int) = 50 := rfl
  have hb2 : ((((⟨#[49, 50, 48]⟩ : ByteArray)[2]'(by decide)).toNat : Nat) : Int) = 48 := rfl
  go_enter Tryz.func91, Tryz.ntmps91
  go_wp2_with (go_at_call 121; refine (HT.out _).mono ?_; rintro e w1 ⟨rfl, rfl⟩)
  go_loopw [4, 27] (fun n i wr => ∃ k : Nat, i = .int .i64 k ∧ n = .int .i64 (digs k) ∧ Aside0 (k ≤ 3) ∧ Aside0 (wr = w1)) (fun _ i _ => 3 - (intOf i).toNat)
  case atStart => exact ⟨0, rfl, rfl, ⟨by omega⟩, ⟨rfl⟩⟩
  case round =>
    obtain ⟨k, rfl, rfl, HL, HW⟩ := hrel
    have hk := HL.out
    match k, hk with
    | 0, _ =>
      simp only [digs]
      go_wp2
      go_roundw
      case rel => exact ⟨1, by go_num, rfl, ⟨by omega⟩, HW⟩
      case measure => simp [intOf]
    | 1, _ =>
      simp only [digs]
      go_wp2
      go_roundw
      case rel => exact ⟨2, by go_num, rfl, ⟨by omega⟩, HW⟩
      case measure => simp [intOf]
    | 2, _ =>
      simp only [digs]
      go_wp2
      go_roundw
      case rel => exact ⟨3, by go_num, rfl, ⟨by omega⟩, HW⟩
      case measure => simp [intOf]
    | 3, _ =>
      simp only [digs]
      go_wp2
      go_ret
      exact ⟨rfl, by rw [HW.out]; exact Below.refl _ _⟩
end Go.Proofs.YtnkkccafdbaoeaaGreatDoor.H

/- The value of the text 120 in the picture of the second get of the document's example. -/
namespace Go.Proofs.YtnkkccafdbaoeaaGreatDoor.H
open Go.RowKit Go.Proofs.YtnkkccafdbaoeaaGreatDoorW.PrintWords Go.Proofs.YtnkkccafdbaoeaaGreatDoorW.PrintLast Go.Proofs.YtnkkccafdbaoeaaGreatDoorW.PrintMore
set_option linter.unusedVariables false
set_option linter.unusedSimpArgs false

theorem count_120 (w : World) : Calls Tryz.prog 154 #[.string ⟨#[49, 50, 48]⟩, .string ⟨#[32]⟩] w fun e w' => e = .returned (.int .i64 0) ∧ w' = w := by
  have h := Tryz.strings_Count_one ⟨#[49, 50, 48]⟩ 32 w
  have e : Lib.countByte (⟨#[49, 50, 48]⟩ : ByteArray).data.toList 32 = 0 := by decide +kernel
  rw [e] at h
  exact h
set_option maxHeartbeats 1000000 in
set_option maxRecDepth 100000 in
theorem replace_120 (w : World) : Calls Tryz.prog 122 #[.string ⟨#[49, 50, 48]⟩, .string ⟨#[32]⟩, .string ⟨#[]⟩, .int .i64 (-1)] w fun e w' => e = .returned (.string ⟨#[49, 50, 48]⟩) ∧ w' = w := by
  have H := Lib.hid count_120
  go_enter Tryz.func122, Tryz.ntmps122
  go_wp2_with (go_at_call 154; refine (H.out _).mono ?_; rintro e w1 ⟨rfl, rfl⟩)
  go_ret
  exact ⟨rfl, rfl⟩
set_option maxHeartbeats 1000000 in
theorem replaceAll_120 (w : World) : Calls Tryz.prog 92 #[.string ⟨#[49, 50, 48]⟩, .string ⟨#[32]⟩, .string ⟨#[]⟩] w fun e w' => e = .returned (.string ⟨#[49, 50, 48]⟩) ∧ w' = w := by
  have H := Lib.hid replace_120
  go_enter Tryz.func92, Tryz.ntmps92
  go_wp2_with (go_at_call 122; refine (H.out _).mono ?_; rintro e w1 ⟨rfl, rfl⟩)
  go_ret
  exact ⟨rfl, rfl⟩
theorem Buf.grown {w w' : World} {g : Nat} {e : TypeId} {xs : List Value} {row : Option Nat} (h : Buf w g e xs) (hg : w.grownBy w' row) (hne : row ≠ some g) : Buf w' g e xs :=
  h.keep (hg.block g h.lt (fun e => hne e.symm))
theorem info_u8 : (Tryz.prog.info? 5).map (fun i => (i.zero, i.size, i.bytes)) = some (some (.int .u8 0), 1, 1) := by kernel_rfl
set_option maxHeartbeats 2000000 in
set_option maxRecDepth 100000 in
theorem valued_120 (w : World) : Calls Tryz.prog 66 #[.int .i64 2, .string ⟨#[57, 57, 57]⟩, .string ⟨#[49, 50, 48]⟩] w (Ret w (vNum 120)) := by
  have HPL := Lib.hid places_N
  have HRA := Lib.hid replaceAll_120
  have HVA := Lib.hid val_120
  have hb0 : ((((⟨#[49, 50, 48]⟩ : ByteArray)[0]'(by decide)).toNat : Nat) : Int) = 49 := rfl
  have hb1 : ((((⟨#[49, 50, 48]⟩ : ByteArray)[1]'(by decide)).toNat : Nat) : Int) = 50 := rfl
  have hb2 : ((((⟨#[49, 50, 48]⟩ : ByteArray)[2]'(by decide)).toNat : Nat) : Int) = 48 := rfl
  unfold vNum
  go_enter Tryz.func66, Tryz.ntmps66
  go_wp2_with (go_at_call 46; refine (HPL.out _).mono ?_; rintro e w1 ⟨v, rfl, ho, hb⟩; obtain ⟨gp, cp, rfl⟩ := own_form ho (by decide); have HB1 := Aside0.mk hb; have HP1 := Aside0.mk (own_buf' ho (by decide)); clear hb ho)
  have HR1 := Aside0.mk ((buf_new w #[.int .i64 0, .int .i64 0, .string ⟨#[]⟩] 44).below HB1.out)
  have HB0 := Aside0.mk (nx (below_alloc (Below.refl w.heap.size w) _) HB1.out)
  clear HB1 HPL
  go_loopw [7, 13] (fun v i wr => ∃ k : Nat, i = .int .i64 k ∧ Aside0 (k ≤ 3) ∧ Aside0 (wr.ownsRow w.heap.size 5 1 v (([49, 50, 48] : List Int).take k).length (nums .u8 (([49, 50, 48] : List Int).take k))) ∧ Aside0 (Buf wr gp 3 (nums .i64 [0, 1, 2])) ∧ Aside0 (Buf wr w.heap.size 44 [.int .i64 0, .int .i64 0, .string ⟨#[]⟩]) ∧ Aside0 (Below w.heap.size w wr)) (fun _ i _ => 3 - (intOf i).toNat)
  case atStart => exact ⟨0, rfl, ⟨by omega⟩, ⟨⟨rfl, Or.inl ⟨rfl, rfl⟩⟩⟩, HP1, HR1, HB0⟩
  case round =>
    clear HP1 HR1 HB0
    obtain ⟨k, rfl, HL, HO, HP, HR, HB⟩ := hrel
    obtain ⟨ao, cap, rfl⟩ := own_slice HO.out
    have hk := HL.out
    match k, hk with
    | 0, _ =>
      have hcell := HP.out.int 0 (by decide)
      go_wp2_with (at_builtin; (refine print_append_num (w0 := w) w.heap.size rfl (.tmp 17) (.tmp 21) 73 5 .u8 1 rfl Tryz.underlying73 info_u8 (by decide) _ (([49, 50, 48] : List Int).take 0) 49 rfl rfl ?h1 ?h2 ?h3 ?h4 ?_); (case h1 => exact HO.out); (case h2 => exact HB.out); (case h3 => exact HB.out.size); (case h4 => decide); (intro v1 w8 ho hb hg hat); (have HV := Aside0.mk (And.intro ho (And.intro hb hg))); clear ho hb hg hat)
      go_roundw
      case rel =>
        obtain ⟨ho, hb, hg⟩ := HV.out
        exact ⟨1, by go_num, ⟨by omega⟩, ⟨ho⟩, ⟨HP.out.grown hg (buf_ne HP.out HO.out (by decide))⟩, ⟨HR.out.grown hg (buf_ne HR.out HO.out (by decide))⟩, ⟨hb⟩⟩
      case measure => simp [intOf]
    | 1, _ =>
      have hcell := HP.out.int 1 (by decide)
      go_wp2_with (at_builtin; (refine print_append_num (w0 := w) w.heap.size rfl (.tmp 17) (.tmp 21) 73 5 .u8 1 rfl Tryz.underlying73 info_u8 (by decide) _ (([49, 50, 48] : List Int).take 1) 50 rfl rfl ?h1 ?h2 ?h3 ?h4 ?_); (case h1 => exact HO.out); (case h2 => exact HB.out); (case h3 => exact HB.out.size); (case h4 => decide); (intro v1 w8 ho hb hg hat); (have HV := Aside0.mk (And.intro ho (And.intro hb hg))); clear ho hb hg hat)
      go_roundw
      case rel =>
        obtain ⟨ho, hb, hg⟩ := HV.out
        exact ⟨2, by go_num, ⟨by omega⟩, ⟨ho⟩, ⟨HP.out.grown hg (buf_ne HP.out HO.out (by decide))⟩, ⟨HR.out.grown hg (buf_ne HR.out HO.out (by decide))⟩, ⟨hb⟩⟩
      case measure => simp [intOf]
    | 2, _ =>
      have hcell := HP.out.int 2 (by decide)
      go_wp2_with (at_builtin; (refine print_append_num (w0 := w) w.heap.size rfl (.tmp 17) (.tmp 21) 73 5 .u8 1 rfl Tryz.underlying73 info_u8 (by decide) _ (([49, 50, 48] : List Int).take 2) 48 rfl rfl ?h1 ?h2 ?h3 ?h4 ?_); (case h1 => exact HO.out); (case h2 => exact HB.out); (case h3 => exact HB.out.size); (case h4 => decide); (intro v1 w8 ho hb hg hat); (have HV := Aside0.mk (And.intro ho (And.intro hb hg))); clear ho hb hg hat)
      go_roundw
      case rel =>
        obtain ⟨ho, hb, hg⟩ := HV.out
        exact ⟨3, by go_num, ⟨by omega⟩, ⟨ho⟩, ⟨HP.out.grown hg (buf_ne HP.out HO.out (by decide))⟩, ⟨HR.out.grown hg (buf_ne HR.out HO.out (by decide))⟩, ⟨hb⟩⟩
      case measure => simp [intOf]
    | 3, _ =>
      have hstr := own_string (P := Tryz.prog) (src := 73) (dst := 9) Tryz.underlying73 Tryz.underlying5 Tryz.underlying9 HO.out
      rw [show strOfNums (([49, 50, 48] : List Int).take 3) = ⟨#[49, 50, 48]⟩ by decide +kernel] at hstr
      have hstr2 : (convert 73 9 (.slice ao 3 cap)).run Tryz.prog wr = .ok (.string ⟨#[49, 50, 48]⟩) wr := hstr
      have l0 := HR.out.cell 0 (by decide)
      have l1 := HR.out.cell 1 (by decide)
      have l2 := HR.out.cell 2 (by decide)
      clear hstr
      go_wp2_with (first
        | (go_at_call 92; refine (HRA.out _).mono ?_; rintro e w3 ⟨rfl, rfl⟩)
        | (go_at_call 91; refine (HVA.out _).mono ?_; rintro e w4 ⟨rfl, hb⟩; have HB4 := Aside0.mk hb; have HR4 := Aside0.mk (HR.out.below hb); clear hb l0 l1 l2; have m0 := HR4.out.cell 0 (by decide); have m1 := HR4.out.cell 1 (by decide); have m2 := HR4.out.cell 2 (by decide); have z0 := HR4.out.frozen 0 (by decide); have z1 := HR4.out.frozen 1 (by decide); have z2 := HR4.out.frozen 2 (by decide)))
      have HR5 := Aside0.mk (((HR4.out.set 0 (.int .i64 2)).set 1 (.int .i64 120)).set 2 (.string ⟨#[]⟩))
      refine bodyPost_ret (results_cell_mid rfl _ _ w.heap.size 0 _ _ rfl HR5.out.range Tryz.underlying44 rfl (by kernel_rfl)) rfl ?_
      exact ⟨rfl, (((nx HB.out HB4.out).setCell (p := ⟨w.heap.size, 0, none⟩) (Nat.le_refl _) (.int .i64 2)).setCell (p := ⟨w.heap.size, 1, none⟩) (Nat.le_refl _) (.int .i64 120)).setCell (p := ⟨w.heap.size, 2, none⟩) (Nat.le_refl _) (.string ⟨#[]⟩)⟩
end Go.Proofs.YtnkkccafdbaoeaaGreatDoor.H

/- The values of the gets now: outside and inside the second get of the document's example. -/
namespace Go.Proofs.YtnkkccafdbaoeaaGreatDoor.H
open Go.RowKit Go.Proofs.YtnkkccafdbaoeaaGreatDoorW.PrintWords Go.Proofs.YtnkkccafdbaoeaaGreatDoorW.PrintLast Go.Proofs.YtnkkccafdbaoeaaGreatDoorW.PrintMore
set_option linter.unusedVariables false
set_option linter.unusedSimpArgs false

/-- The cells of a reader. -/
def rdCells (gl cl gv cv : Nat) (at_ : Int) (pic : ByteArray) (pl tx : Value) (la : Int) (ins : Bool) (en : Value) (esc : Bool) : List Value :=
  [.slice (some ⟨gl, 0, none⟩) 1 cl, .slice (some ⟨gv, 0, none⟩) 1 cv, .int .i64 at_, .string pic, pl, tx, .int .i64 la, .bool ins, en, .bool esc]
set_option maxHeartbeats 1000000 in
set_option maxRecDepth 100000 in
theorem now_off (R gl cl gv cv : Nat) (pic : ByteArray) (pl tx : Value) (la : Int) (ins : Bool) (en : Value) (esc : Bool) (k n : Int) (s : ByteArray) (w : World)
    (hR : Buf w R 77 (rdCells gl cl gv cv (-1) pic pl tx la ins en esc)) (hv : Buf w gv 44 [.int .i64 k, .int .i64 n, .string s]) :
    Calls Tryz.prog 43 #[.pointer (some ⟨R, 0, none⟩)] w (OneValue w [.int .i64 k, .int .i64 n, .string s]) := by
  have HC := Lib.hid (clone_call gv cv k n s w hv)
  have HR := Aside0.mk hR
  have c1 := hR.cell 1 (by simp [rdCells])
  simp only [rdCells, List.getElem?_cons_succ, List.getElem?_cons_zero] at c1
  clear hR hv
  go_enter Tryz.func43, Tryz.ntmps43
  go_wp2_with (go_at_call 65; refine HC.out.mono ?_; rintro e w1 ⟨g, c, rfl, hg, hbf, hb⟩; have HV := Aside0.mk (And.intro hg (And.intro hbf hb)); have c2 := (HR.out.below hb).cell 2 (by simp [rdCells]); simp only [rdCells, List.getElem?_cons_succ, List.getElem?_cons_zero] at c2; clear hg hbf hb)
  go_ret
  obtain ⟨h1, h2, h3⟩ := HV.out
  exact ⟨g, c, rfl, h1, h2, h3⟩
set_option maxHeartbeats 4000000 in
set_option maxRecDepth 100000 in
theorem now_on (R gl cl gv cv gp cp gt ct : Nat) (la : Int) (ins : Bool) (en : Value) (esc : Bool) (k n : Int) (s : ByteArray) (w : World)
    (hR : Buf w R 77 (rdCells gl cl gv cv 0 ⟨#[57, 57, 57]⟩ (.slice (some ⟨gp, 0, none⟩) 3 cp) (.slice (some ⟨gt, 0, none⟩) 3 ct) la ins en esc)) (hv : Buf w gv 44 [.int .i64 k, .int .i64 n, .string s])
    (hl : Blk w gl cellsN) (ht : Buf w gt 5 (nums .u8 [49, 50, 48])) :
    Calls Tryz.prog 43 #[.pointer (some ⟨R, 0, none⟩)] w (OneValue w [.int .i64 2, .int .i64 120, .string ⟨#[]⟩]) := by
  have HC := Lib.hid (clone_call gv cv k n s w hv)
  have HVL := Lib.hid valued_120
  have HR := Aside0.mk hR
  have HLc := Aside0.mk hl
  have HTx := Aside0.mk ht
  have c1 := hR.cell 1 (by simp [rdCells])
  simp only [rdCells, List.getElem?_cons_succ, List.getElem?_cons_zero] at c1
  clear hR hv hl ht
  unfold vNum at HVL
  go_enter Tryz.func43, Tryz.ntmps43
  go_wp2_with (go_at_call 65; refine HC.out.mono ?_; rintro e w1 ⟨g, c, rfl, hg, hbf, hb⟩; have HG1 := Aside0.mk hg; have HO1 := Aside0.mk hbf; have HB1 := Aside0.mk hb; have HR1 := Aside0.mk (HR.out.below hb); have HL1 := Aside0.mk (HLc.out.below hb); have HT1 := Aside0.mk (HTx.out.below hb); have c2 := HR1.out.cell 2 (by simp [rdCells]); simp only [rdCells, List.getElem?_cons_succ, List.getElem?_cons_zero] at c2; clear hg hbf hb)
  have hR0 := HR.out.lt
  have hL0 := HLc.out.lt
  have hT0 := HTx.out.lt
  clear HC HR HLc HTx c1
  have d0 := HR1.out.cell 0 (by simp [rdCells])
  have d3 := HR1.out.cell 3 (by simp [rdCells])
  have d5 := HR1.out.cell 5 (by simp [rdCells])
  simp only [rdCells, List.getElem?_cons_succ, List.getElem?_cons_zero] at d0 d3 d5
  have e4 : w1.cell? ⟨gl, 4, none⟩ = some (.int .i64 2) := HL1.out.cell 4
  have hs1 := HT1.out.drew.string (src := 73) (dst := 9) (cap := ct) (n := 3) Tryz.underlying73 Tryz.underlying5 Tryz.underlying9 rfl
  rw [show strOfNums [49, 50, 48] = ⟨#[49, 50, 48]⟩ by decide +kernel] at hs1
  have hRl := HR1.out.lt
  have hLl := HL1.out.lt
  have hg := HG1.out
  have hRg : R ≠ g := fun e => by omega
  have hLg : gl ≠ g := fun e => by omega
  have hTg : gt ≠ g := fun e => by omega
  have hRg' : ¬ g = R := fun e => hRg e.symm
  have hLg' : ¬ g = gl := fun e => hLg e.symm
  clear hg
  go_region_held3 (fun w' => w'.cell? ⟨R, 0, none⟩ = some (.slice (some ⟨gl, 0, none⟩) 1 cl) ∧ w'.cell? ⟨R, 2, none⟩ = some (.int .i64 0) ∧ w'.cell? ⟨R, 3, none⟩ = some (.string ⟨#[57, 57, 57]⟩) ∧ w'.cell? ⟨R, 5, none⟩ = some (.slice (some ⟨gt, 0, none⟩) 3 ct) ∧ w'.cell? ⟨gl, 4, none⟩ = some (.int .i64 2) ∧ (convert 73 9 (.slice (some ⟨gt, 0, none⟩) 3 ct)).run Tryz.prog w' = .ok (.string ⟨#[49, 50, 48]⟩) w') (go_keep)
    (first
      | (go_at_call 66; refine (HVL.out _).mono ?_; rintro e w2 ⟨rfl, hb⟩; have HB2 := Aside0.mk hb; have f0 := (hb.cell (p := ⟨R, 0, none⟩) hRl).trans d0; have f2 := (hb.cell (p := ⟨R, 2, none⟩) hRl).trans c2; have f3 := (hb.cell (p := ⟨R, 3, none⟩) hRl).trans d3; have f5 := (hb.cell (p := ⟨R, 5, none⟩) hRl).trans d5; have f4 := (hb.cell (p := ⟨gl, 4, none⟩) hLl).trans e4; have hs2 := (HT1.out.below (below_undrew hb)).string (src := 73) (dst := 9) (cap := ct) (n := 3) Tryz.underlying73 Tryz.underlying5 Tryz.underlying9 rfl; rw [show strOfNums [49, 50, 48] = ⟨#[49, 50, 48]⟩ by decide +kernel] at hs2; have HO2 := Aside0.mk (HO1.out.below (below_undrew hb)); have m0 := HO2.out.cell 0 (by simp); have m1 := HO2.out.cell 1 (by simp); have m2 := HO2.out.cell 2 (by simp); have z0 := HO2.out.frozen 0 (by simp); have z1 := HO2.out.frozen 1 (by simp); have z2 := HO2.out.frozen 2 (by simp); have hs5 := ((((HT1.out.below (below_undrew hb)).set_far (p := ⟨g, 0, none⟩) hTg (.int .i64 2)).set_far (p := ⟨g, 1, none⟩) hTg (.int .i64 120)).set_far (p := ⟨g, 2, none⟩) hTg (.string ⟨#[]⟩)).string (src := 73) (dst := 9) (cap := ct) (n := 3) Tryz.underlying73 Tryz.underlying5 Tryz.underlying9 rfl; rw [show strOfNums [49, 50, 48] = ⟨#[49, 50, 48]⟩ by decide +kernel] at hs5; clear hb))
  all_goals
    have HO5 := Aside0.mk (((HO2.out.set 0 (.int .i64 2)).set 1 (.int .i64 120)).set 2 (.string ⟨#[]⟩))
    have HB5 := Aside0.mk ((((nx HB1.out (below_undrew HB2.out)).setCell (p := ⟨g, 0, none⟩) HG1.out (.int .i64 2)).setCell (p := ⟨g, 1, none⟩) HG1.out (.int .i64 120)).setCell (p := ⟨g, 2, none⟩) HG1.out (.string ⟨#[]⟩))
    clear m0 m1 m2 z0 z1 z2 hs5 hs2 hs1 f0 f2 f3 f5 f4 d0 d3 d5 e4 c2
    go_wp2
    go_ret
    exact ⟨g, c, rfl, HG1.out, HO5.out, HB5.out⟩
end Go.Proofs.YtnkkccafdbaoeaaGreatDoor.H

/- Which get is next, in the document's example. -/
namespace Go.Proofs.YtnkkccafdbaoeaaGreatDoor.H
open Go.RowKit Go.Proofs.YtnkkccafdbaoeaaGreatDoorW.PrintWords Go.Proofs.YtnkkccafdbaoeaaGreatDoorW.PrintLast Go.Proofs.YtnkkccafdbaoeaaGreatDoorW.PrintMore
set_option linter.unusedVariables false
set_option linter.unusedSimpArgs false

set_option maxHeartbeats 4000000 in
set_option maxRecDepth 100000 in
theorem next_end (R gl cl gv cv : Nat) (at_ : Int) (pic : ByteArray) (pl tx : Value) (la : Int) (ins : Bool) (en : Value) (esc : Bool) (w : World)
    (hR : Buf w R 77 (rdCells gl cl gv cv at_ pic pl tx la ins en esc)) :
    Calls Tryz.prog 40 #[.pointer (some ⟨R, 0, none⟩), .int .i64 1, .int .i64 1] w fun e w' => e = .returned (.int .i64 (-1)) ∧ w' = w := by
  have c0 := hR.cell 0 (by simp [rdCells])
  simp only [rdCells, List.getElem?_cons_succ, List.getElem?_cons_zero] at c0
  clear hR
  go_enter Tryz.func40, Tryz.ntmps40
  go_wp2
  go_loopw [7] (fun i wr => i = .int .i64 1 ∧ Aside0 (wr = w)) (fun _ _ => 0)
  case atStart => exact ⟨rfl, ⟨rfl⟩⟩
  case round =>
    obtain ⟨rfl, HW⟩ := hrel
    have hw := HW.out
    subst hw
    go_wp2
    go_ret
    exact ⟨rfl, rfl⟩
set_option maxHeartbeats 4000000 in
set_option maxRecDepth 100000 in
theorem next_first (R gl cl gv cv : Nat) (pic : ByteArray) (pl tx : Value) (la : Int) (ins : Bool) (en : Value) (esc : Bool) (k n : Int) (s : ByteArray) (w : World)
    (hR : Buf w R 77 (rdCells gl cl gv cv (-1) pic pl tx la ins en esc)) (hv : Buf w gv 44 [.int .i64 k, .int .i64 n, .string s]) (hl : Blk w gl cellsN) :
    Calls Tryz.prog 40 #[.pointer (some ⟨R, 0, none⟩), .int .i64 0, .int .i64 1] w (Ret w (.int .i64 0)) := by
  have HN := Lib.hid (fun w hR hv => now_off R gl cl gv cv pic pl tx la ins en esc k n s w hR hv)
  have HT := Lib.hid (fun B c w h => isTrue_N gl cl B 1 c w h)
  have HR := Aside0.mk hR
  have HV := Aside0.mk hv
  have HLc := Aside0.mk hl
  have c0 := hR.cell 0 (by simp [rdCells])
  simp only [rdCells, List.getElem?_cons_succ, List.getElem?_cons_zero] at c0
  have e2 : w.cell? ⟨gl, 2, none⟩ = some (.string ⟨#[]⟩) := hl.cell 2
  have hRl := hR.lt
  have hLl := hl.lt
  clear hR hv hl
  go_enter Tryz.func40, Tryz.ntmps40
  go_wp2
  go_loopw [7] (fun i wr => i = .int .i64 0 ∧ Aside0 (wr = w)) (fun _ _ => 0)
  case atStart => exact ⟨rfl, ⟨rfl⟩⟩
  case round =>
    obtain ⟨rfl, HW⟩ := hrel
    have hw := HW.out
    subst hw
    go_wp2
    go_region_held3 (fun w' => w'.cell? ⟨R, 0, none⟩ = some (.slice (some ⟨gl, 0, none⟩) 1 cl) ∧ w'.cell? ⟨gl, 2, none⟩ = some (.string ⟨#[]⟩)) (go_keep)
      (first
        | (go_at_call 43; refine (HN.out _ HR.out.drew HV.out.drew).mono ?_; rintro e w1 ⟨g1, c1, rfl, hg, hbf, hb⟩; have HB1 := Aside0.mk hb; have HL1 := Aside0.mk (HLc.out.below (below_undrew hb)); have f0 := (hb.cell (p := ⟨R, 0, none⟩) hRl).trans c0; have f2 := (hb.cell (p := ⟨gl, 2, none⟩) hLl).trans e2; have hR1 := Nat.lt_of_lt_of_le hRl hb.size; have hL1 := Nat.lt_of_lt_of_le hLl hb.size; clear hg hbf hb)
        | (go_at_call 61; refine (HT.out _ _ _ HL1.out).mono ?_; rintro e w2 ⟨rfl, hb⟩; have HB2 := Aside0.mk hb; have k0 := (hb.cell (p := ⟨R, 0, none⟩) hR1).trans f0; have k2 := (hb.cell (p := ⟨gl, 2, none⟩) hL1).trans f2; clear hb))
    all_goals
      have HB5 := Aside0.mk (nx (below_undrew HB1.out) HB2.out)
      clear f0 f2 k0 k2 c0 e2 hR1 hL1 hRl hLl
      go_wp2
      go_ret
      exact ⟨rfl, HB5.out⟩
end Go.Proofs.YtnkkccafdbaoeaaGreatDoor.H
