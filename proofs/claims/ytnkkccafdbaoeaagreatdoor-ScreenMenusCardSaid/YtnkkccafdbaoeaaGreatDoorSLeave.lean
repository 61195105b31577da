/-
  Several steps of the proof in one text: SEnter, SChar, SEdits, SKey, SLeave.
-/
import Derived.Test.YtnkkccafdbaoeaaGreatDoorSNext
import Derived.IntWalk
/- The second get of the document's example is entered. -/
namespace Go.Proofs.YtnkkccafdbaoeaaGreatDoor.H
open Go.RowKit Go.Proofs.YtnkkccafdbaoeaaGreatDoorW.PrintWords Go.Proofs.YtnkkccafdbaoeaaGreatDoorW.PrintLast Go.Proofs.YtnkkccafdbaoeaaGreatDoorW.PrintMore
set_option linter.unusedVariables false
set_option linter.unusedSimpArgs false

theorem gb_below {w w' : World} (h : Below w.heap.size w w') (row : Option Nat) : w.grownBy w' row := ⟨h.os, h.tape, h.output, h.size, fun k hk _ => h.block k hk⟩
theorem gb_set (w : World) (R i : Nat) (v : Value) : w.grownBy (w.setCell ⟨R, i, none⟩ v) (some R) :=
  ⟨rfl, rfl, rfl, by simp, fun k hk hne => Below.heap_setCell w _ v k (fun e => hne (by simp [e]))⟩
theorem Blk.grown {w w' : World} {g : Nat} {cs : Array Value} {row : Option Nat} (h : Blk w g cs) (hg : w.grownBy w' row) (hne : row ≠ some g) : Blk w' g cs :=
  h.keep (hg.block g h.lt (fun e => hne e.symm))
/-- What the entering leaves. -/
def Entered (R gl cl gv cv : Nat) (w : World) (e : Ending) (w' : World) : Prop := ∃ gp cp gt ct ge ce, e = .returned (.tuple #[]) ∧ w.heap.size ≤ gp ∧ w.heap.size ≤ gt ∧ w.heap.size ≤ ge ∧
  Buf w' R 77 (rdCells gl cl gv cv 0 ⟨#[57, 57, 57]⟩ (.slice (some ⟨gp, 0, none⟩) 3 cp) (.slice (some ⟨gt, 0, none⟩) 3 ct) 0 false (.slice (some ⟨ge, 0, none⟩) 1 ce) false) ∧
  Buf w' gp 3 (nums .i64 [0, 1, 2]) ∧ Buf w' gt 5 (nums .u8 [32, 32, 48]) ∧ Buf w' ge 3 (nums .i64 [0]) ∧ w.grownBy w' (some R)
set_option maxHeartbeats 4000000 in
set_option maxRecDepth 100000 in
theorem enter_call (R gl cl gv cv : Nat) (w : World) (hRv : R ≠ gv) (hRl : R ≠ gl)
    (hR : Buf w R 77 (rdCells gl cl gv cv (-1) ⟨#[]⟩ (.slice none 0 0) (.slice none 0 0) 0 false (.slice none 0 0) false)) (hv : Buf w gv 44 [.int .i64 2, .int .i64 0, .string ⟨#[]⟩]) (hl : Blk w gl cellsN) :
    Calls Tryz.prog 41 #[.pointer (some ⟨R, 0, none⟩), .int .i64 0] w (Entered R gl cl gv cv w) := by
  have HN := Lib.hid newLine_N
  have c7 := hR.cell 7 (by simp [rdCells])
  have c2 := hR.cell 2 (by simp [rdCells])
  have z2 := hR.frozen 2 (by simp [rdCells])
  simp only [rdCells, List.getElem?_cons_succ, List.getElem?_cons_zero] at c7 c2
  have HRA := Aside0.mk (hR.set 2 (.int .i64 0))
  have HVA := Aside0.mk (hv.set_far (p := ⟨R, 2, none⟩) (fun e => hRv e.symm) (.int .i64 0))
  have HLA := Aside0.mk (hl.grown (gb_set w R 2 (.int .i64 0)) (by simpa using hRl))
  have HGA := Aside0.mk (gb_set w R 2 (.int .i64 0))
  unfold vNum at HN
  clear hR hv hl
  go_enter Tryz.func41, Tryz.ntmps41
  go_wp2
  clear c7 c2 z2
  generalize w.setCell ⟨R, 2, none⟩ (.int .i64 0) = wA at *
  have c0 := HRA.out.cell 0 (by simp [rdCells])
  have c1 := HRA.out.cell 1 (by simp [rdCells])
  simp only [rdCells, List.set_cons_succ, List.set_cons_zero, List.getElem?_cons_succ, List.getElem?_cons_zero] at c0 c1
  have v0 := HVA.out.cell 0 (by simp)
  have v1 := HVA.out.cell 1 (by simp)
  have v2 := HVA.out.cell 2 (by simp)
  have e1 : wA.cell? ⟨gl, 1, none⟩ = some (.string ⟨#[57, 57, 57]⟩) := HLA.out.cell 1
  have hRlt := HRA.out.lt
  have hVlt := HVA.out.lt
  have hLlt := HLA.out.lt
  go_region_held3 (fun w' => w'.cell? ⟨R, 0, none⟩ = some (.slice (some ⟨gl, 0, none⟩) 1 cl) ∧ w'.cell? ⟨R, 1, none⟩ = some (.slice (some ⟨gv, 0, none⟩) 1 cv) ∧ w'.cell? ⟨gv, 0, none⟩ = some (.int .i64 2) ∧ w'.cell? ⟨gv, 1, none⟩ = some (.int .i64 0) ∧ w'.cell? ⟨gv, 2, none⟩ = some (.string ⟨#[]⟩) ∧ w'.cell? ⟨gl, 1, none⟩ = some (.string ⟨#[57, 57, 57]⟩)) (go_keep)
    (first
      | (go_at_call 62; refine (HN.out _).mono ?_; rintro e w1 ⟨gp, cp, gt, ct, rfl, hgp, hgt, hbp, hbt, hb⟩; have HB1 := Aside0.mk hb; have HGP := Aside0.mk (And.intro hgp hgt); have HP1 := Aside0.mk hbp; have HT1 := Aside0.mk hbt; have HR1 := Aside0.mk (HRA.out.below (below_undrew hb)); have HV1 := Aside0.mk (HVA.out.below (below_undrew hb)); have HL1 := Aside0.mk (HLA.out.below (below_undrew hb));
          have f0 := (hb.cell (p := ⟨R, 0, none⟩) hRlt).trans c0; have f1 := (hb.cell (p := ⟨R, 1, none⟩) hRlt).trans c1; have f2 := (hb.cell (p := ⟨gv, 0, none⟩) hVlt).trans v0; have f3 := (hb.cell (p := ⟨gv, 1, none⟩) hVlt).trans v1; have f4 := (hb.cell (p := ⟨gv, 2, none⟩) hVlt).trans v2; have f5 := (hb.cell (p := ⟨gl, 1, none⟩) hLlt).trans e1;
          have r3 := HR1.out.cell 3 (by simp [rdCells]); have r4 := HR1.out.cell 4 (by simp [rdCells]); have r5 := HR1.out.cell 5 (by simp [rdCells]); have r6 := HR1.out.cell 6 (by simp [rdCells]); have r7 := HR1.out.cell 7 (by simp [rdCells]);
          have z3 := HR1.out.frozen 3 (by simp [rdCells]); have z4 := HR1.out.frozen 4 (by simp [rdCells]); have z5 := HR1.out.frozen 5 (by simp [rdCells]); have z6 := HR1.out.frozen 6 (by simp [rdCells]); have z7 := HR1.out.frozen 7 (by simp [rdCells]);
          simp only [rdCells, List.set_cons_succ, List.set_cons_zero, List.getElem?_cons_succ, List.getElem?_cons_zero] at r3 r4 r5 r6 r7;
          have HR5 := Aside0.mk (((((HR1.out.set 3 (.string ⟨#[57, 57, 57]⟩)).set 4 (.slice (some ⟨gp, 0, none⟩) 3 cp)).set 5 (.slice (some ⟨gt, 0, none⟩) 3 ct)).set 6 (.int .i64 0)).set 7 (.bool false));
          have k0 := HR5.out.cell 0 (by simp [rdCells]); have k1 := HR5.out.cell 1 (by simp [rdCells]); simp only [rdCells, List.set_cons_succ, List.set_cons_zero, List.getElem?_cons_succ, List.getElem?_cons_zero] at k0 k1; clear hgp hgt hbp hbt hb))
  all_goals
    have hs1 : wA.heap.size ≤ w1.heap.size := (below_undrew HB1.out).size
    have hgp : wA.heap.size ≤ gp := HGP.out.1
    have hgt : wA.heap.size ≤ gt := HGP.out.2
    have hPR : gp ≠ R := fun e => by omega
    have hTR : gt ≠ R := fun e => by omega
    have HP5 := Aside0.mk (((((HP1.out.set_far (p := ⟨R, 3, none⟩) hPR (.string ⟨#[57, 57, 57]⟩)).set_far (p := ⟨R, 4, none⟩) hPR (.slice (some ⟨gp, 0, none⟩) 3 cp)).set_far (p := ⟨R, 5, none⟩) hPR (.slice (some ⟨gt, 0, none⟩) 3 ct)).set_far (p := ⟨R, 6, none⟩) hPR (.int .i64 0)).set_far (p := ⟨R, 7, none⟩) hPR (.bool false))
    have HT5 := Aside0.mk (((((HT1.out.set_far (p := ⟨R, 3, none⟩) hTR (.string ⟨#[57, 57, 57]⟩)).set_far (p := ⟨R, 4, none⟩) hTR (.slice (some ⟨gp, 0, none⟩) 3 cp)).set_far (p := ⟨R, 5, none⟩) hTR (.slice (some ⟨gt, 0, none⟩) 3 ct)).set_far (p := ⟨R, 6, none⟩) hTR (.int .i64 0)).set_far (p := ⟨R, 7, none⟩) hTR (.bool false))
    have HG5 := Aside0.mk (World.grownBy.trans HGA.out (World.grownBy.trans (gb_below (below_undrew HB1.out) (some R)) (World.grownBy.trans (gb_set w1 R 3 (.string ⟨#[57, 57, 57]⟩)) (World.grownBy.trans (gb_set _ R 4 (.slice (some ⟨gp, 0, none⟩) 3 cp)) (World.grownBy.trans (gb_set _ R 5 (.slice (some ⟨gt, 0, none⟩) 3 ct)) (World.grownBy.trans (gb_set _ R 6 (.int .i64 0)) (gb_set _ R 7 (.bool false))))))))
    have HS5 : Aside0 (w1.heap.size ≤ (((((w1.setCell ⟨R, 3, none⟩ (.string ⟨#[57, 57, 57]⟩)).setCell ⟨R, 4, none⟩ (.slice (some ⟨gp, 0, none⟩) 3 cp)).setCell ⟨R, 5, none⟩ (.slice (some ⟨gt, 0, none⟩) 3 ct)).setCell ⟨R, 6, none⟩ (.int .i64 0)).setCell ⟨R, 7, none⟩ (.bool false)).heap.size) := ⟨by simp⟩
    rename_i hHeld
    clear f0 f1 f2 f3 f4 f5 r3 r4 r5 r6 r7 z3 z4 z5 z6 z7 k0 k1 c0 c1 v0 v1 v2 e1 hHeld HP1 HT1 HV1 HL1 HR1
    generalize ((((w1.setCell ⟨R, 3, none⟩ (.string ⟨#[57, 57, 57]⟩)).setCell ⟨R, 4, none⟩ (.slice (some ⟨gp, 0, none⟩) 3 cp)).setCell ⟨R, 5, none⟩ (.slice (some ⟨gt, 0, none⟩) 3 ct)).setCell ⟨R, 6, none⟩ (.int .i64 0)).setCell ⟨R, 7, none⟩ (.bool false) = w5 at *
    have c7 := HR5.out.cell 7 (by simp [rdCells])
    have z7 := HR5.out.frozen 7 (by simp [rdCells])
    simp only [rdCells, List.set_cons_succ, List.set_cons_zero, List.getElem?_cons_succ, List.getElem?_cons_zero] at c7
    have HR6 := Aside0.mk (HR5.out.set 7 (.bool false))
    have HP6 := Aside0.mk (HP5.out.set_far (p := ⟨R, 7, none⟩) hPR (.bool false))
    have HT6 := Aside0.mk (HT5.out.set_far (p := ⟨R, 7, none⟩) hTR (.bool false))
    have HG6 := Aside0.mk (World.grownBy.trans HG5.out (gb_set _ R 7 (.bool false)))
    have c8 := HR6.out.cell 8 (by simp [rdCells])
    simp only [rdCells, List.set_cons_succ, List.set_cons_zero, List.getElem?_cons_succ, List.getElem?_cons_zero] at c8
    have hsz6 : (w5.setCell ⟨R, 7, none⟩ (.bool false)).heap.size = w5.heap.size := by simp
    go_wp2_with (at_builtin; go_loud ((refine print_append_num (w0 := w5.setCell ⟨R, 7, none⟩ (.bool false)) w5.heap.size rfl (.tmp 42) (.tmp 44) 30 3 .i64 8 rfl Tryz.underlying30 info_int (by decide) _ [] 0 rfl (by rw [hsz6]; rfl) ⟨rfl, Or.inl ⟨rfl, rfl⟩⟩ (Below.refl _ _) (Nat.le_of_eq hsz6.symm) (by decide) ?_); (intro v1 w8 ho hb hg hat); obtain ⟨ge, ce, rfl⟩ := own_form ho (by decide); have HE8 := Aside0.mk (own_buf' ho (by decide)); have HEG := Aside0.mk (own_ge ho (by decide)); have hb' : Below (w5.setCell ⟨R, 7, none⟩ (.bool false)).heap.size (w5.setCell ⟨R, 7, none⟩ (.bool false)) w8 := (by rw [hsz6]; exact hb); have HB8 := Aside0.mk hb'; have HR8 := Aside0.mk (HR6.out.below hb'); have d8 := HR8.out.cell 8 (by simp [rdCells]); simp only [rdCells, List.set_cons_succ, List.set_cons_zero, List.getElem?_cons_succ, List.getElem?_cons_zero] at d8; have z8 := HR8.out.frozen 8 (by simp [rdCells]); clear ho hb hb' hg hat))
    go_end0
    have h6 := HG6.out.size
    have hge := HEG.out
    have h5 := HS5.out
    have hgA := HGA.out.size
    have hER : ge ≠ R := fun e => by omega
    refine ⟨gp, cp, gt, ct, ge, ce, rfl, by omega, by omega, by omega, ?_, (HP6.out.below HB8.out).set_far (p := ⟨R, 8, none⟩) hPR _, (HT6.out.below HB8.out).set_far (p := ⟨R, 8, none⟩) hTR _, HE8.out.set_far (p := ⟨R, 8, none⟩) hER _, World.grownBy.trans HG6.out (World.grownBy.trans (gb_below HB8.out _) (gb_set _ _ _ _))⟩
    exact HR8.out.set 8 (.slice (some ⟨ge, 0, none⟩) 1 ce)
end Go.Proofs.YtnkkccafdbaoeaaGreatDoor.H

/- A character is put into the line of the document's example. -/
namespace Go.Proofs.YtnkkccafdbaoeaaGreatDoor.H
open Go.RowKit Go.Proofs.YtnkkccafdbaoeaaGreatDoorW.PrintWords Go.Proofs.YtnkkccafdbaoeaaGreatDoorW.PrintLast Go.Proofs.YtnkkccafdbaoeaaGreatDoorW.PrintMore
set_option linter.unusedVariables false
set_option linter.unusedSimpArgs false

/-- A reader inside the get, its line's places and text. -/
structure InGet (w : World) (R gl cl gv cv gp cp gt ct : Nat) (la : Int) (en : Value) (tx : List Int) : Prop where
  rd : Buf w R 77 (rdCells gl cl gv cv 0 ⟨#[57, 57, 57]⟩ (.slice (some ⟨gp, 0, none⟩) 3 cp) (.slice (some ⟨gt, 0, none⟩) 3 ct) la false en false)
  pl : Buf w gp 3 (nums .i64 [0, 1, 2])
  tx : Buf w gt 5 (nums .u8 tx)
theorem InGet.drewN {w : World} {R gl cl gv cv gp cp gt ct : Nat} {la : Int} {en : Value} {tx : List Int} (h : InGet w R gl cl gv cv gp cp gt ct la en tx) (n : Nat) : InGet (w.drewN n) R gl cl gv cv gp cp gt ct la en tx :=
  ⟨h.rd.drewN n, h.pl.drewN n, h.tx.drewN n⟩
set_option maxHeartbeats 2000000 in
set_option maxRecDepth 100000 in
theorem put_call (R gl cl gv cv gp cp gt ct : Nat) (la : Int) (en : Value) (tx : List Int) (k : Nat) (c : Int) (w : World) (hk : k < 3) (ht : tx.length = 3) (h : InGet w R gl cl gv cv gp cp gt ct la en tx) :
    Calls Tryz.prog 120 #[.pointer (some ⟨R, 3, none⟩), .int .i64 k, .int .u8 c] w fun e w' => e = .returned (.tuple #[]) ∧ ∃ n, w' = (w.drewN n).setCell ⟨gt, k, none⟩ (.int .u8 c) := by
  have c4 := h.rd.cell 4 (by simp [rdCells])
  have c5 := h.rd.cell 5 (by simp [rdCells])
  simp only [rdCells, List.getElem?_cons_succ, List.getElem?_cons_zero] at c4 c5
  have p := h.pl.int k (by simpa using hk)
  rw [show ([0, 1, 2] : List Int).getD k 0 = k by match k, hk with | 0, _ => rfl | 1, _ => rfl | 2, _ => rfl] at p
  have t := h.tx.int k (by omega)
  have z := h.tx.frozen k (by simp [nums]; omega)
  have hki : (k : Int) < 3 := by omega
  clear h
  go_enter Tryz.func120, Tryz.ntmps120
  go_wp2
  go_region
  all_goals
    try go_wp2
    go_end0
    exact ⟨rfl, 1, rfl⟩
set_option maxHeartbeats 2000000 in
set_option maxRecDepth 100000 in
theorem right_call (R gl cl gv cv gp cp gt ct : Nat) (la : Nat) (en : Value) (tx : List Int) (w : World) (hk : la < 2) (h : InGet w R gl cl gv cv gp cp gt ct la en tx) :
    Calls Tryz.prog 111 #[.pointer (some ⟨R, 3, none⟩)] w fun e w' => e = .returned (.tuple #[]) ∧ ∃ n, w' = (w.drewN n).setCell ⟨R, 6, none⟩ (.int .i64 ((la : Int) + 1)) := by
  have c4 := h.rd.cell 4 (by simp [rdCells])
  have c6 := h.rd.cell 6 (by simp [rdCells])
  have z6 := h.rd.frozen 6 (by simp [rdCells])
  simp only [rdCells, List.getElem?_cons_succ, List.getElem?_cons_zero] at c4 c6
  have hmn : ∀ W, (Builtin.min_ #[3, 3] 3 #[.int .i64 ((la : Int) + 1), .int .i64 2]).run Tryz.prog W = .ok (.int .i64 ((la : Int) + 1)) W := fun W => by
    have e : ¬ (2 : Int) < (la : Int) + 1 := by omega
    simp [Builtin.min_, Builtin.min2, e]
  have hw : IntKind.i64.wrap ((la : Int) + 1) = (la : Int) + 1 := IntWalk.i64_in _ (by omega)
  have hl2 : (la : Int) + 1 ≤ 2 := by omega
  clear h
  go_enter Tryz.func111, Tryz.ntmps111
  go_wp2
  go_region

  all_goals
    try go_wp2
    go_end0
    exact ⟨rfl, 1, rfl⟩
/-- The world behind a character. -/
def charW (w : World) (R gt la : Nat) (c : Int) (n m : Nat) : World := (((w.drewN n).setCell ⟨gt, la, none⟩ (.int .u8 c)).drewN m).setCell ⟨R, 6, none⟩ (.int .i64 ((la : Int) + 1))
theorem InGet.putc {w : World} {R gl cl gv cv gp cp gt ct : Nat} {la : Int} {en : Value} {tx : List Int} (h : InGet w R gl cl gv cv gp cp gt ct la en tx) (hR : R ≠ gt) (hp : gp ≠ gt) (k : Nat) (c : Int) : InGet (w.setCell ⟨gt, k, none⟩ (.int .u8 c)) R gl cl gv cv gp cp gt ct la en (tx.set k c) :=
  ⟨h.rd.set_far (p := ⟨gt, k, none⟩) hR _, h.pl.set_far (p := ⟨gt, k, none⟩) hp _, h.tx.set_int k c⟩
theorem InGet.step {w : World} {R gl cl gv cv gp cp gt ct : Nat} {la : Int} {en : Value} {tx : List Int} (h : InGet w R gl cl gv cv gp cp gt ct la en tx) (hR : gt ≠ R) (hp : gp ≠ R) (a : Int) : InGet (w.setCell ⟨R, 6, none⟩ (.int .i64 a)) R gl cl gv cv gp cp gt ct a en tx :=
  ⟨h.rd.set 6 (.int .i64 a), h.pl.set_far (p := ⟨R, 6, none⟩) hp _, h.tx.set_far (p := ⟨R, 6, none⟩) hR _⟩
theorem InGet.ne {w : World} {R gl cl gv cv gp cp gt ct : Nat} {la : Int} {en : Value} {tx : List Int} (h : InGet w R gl cl gv cv gp cp gt ct la en tx) : R ≠ gt ∧ gp ≠ gt ∧ gp ≠ R := by
  obtain ⟨a, _, _, ha, _⟩ := h.rd.ex
  obtain ⟨b, _, _, hb, _⟩ := h.pl.ex
  obtain ⟨c, _, _, hc, _⟩ := h.tx.ex
  refine ⟨fun e => ?_, fun e => ?_, fun e => ?_⟩
  · rw [e, hc] at ha; simp at ha
  · rw [e, hc] at hb; simp at hb
  · rw [e, ha] at hb; simp at hb
theorem InGet.charW {w : World} {R gl cl gv cv gp cp gt ct : Nat} {la : Nat} {en : Value} {tx : List Int} (h : InGet w R gl cl gv cv gp cp gt ct la en tx) (c : Int) (n m : Nat) : InGet (charW w R gt la c n m) R gl cl gv cv gp cp gt ct ((la : Int) + 1) en (tx.set la c) :=
  (((h.drewN n).putc h.ne.1 h.ne.2.1 la c).drewN m).step (fun e => h.ne.1 e.symm) h.ne.2.2 _
set_option maxHeartbeats 4000000 in
set_option maxRecDepth 100000 in
theorem char_call (R gl cl gv cv gp cp gt ct : Nat) (la : Nat) (en : Value) (tx : List Int) (c : Int) (w : World) (hk : la < 2) (ht : tx.length = 3) (hc : tkk 57 c = (c, true)) (h : InGet w R gl cl gv cv gp cp gt ct la en tx) :
    Calls Tryz.prog 90 #[.pointer (some ⟨R, 3, none⟩), .int .i64 c] w fun e w' => e = .returned (.tuple #[]) ∧ ∃ n m, w' = charW w R gt la c n m := by
  have HT := Lib.hid (fun W => hc ▸ calls_draws (takes_call 57 c W))
  have HP := Lib.hid (fun n => put_call R gl cl gv cv gp cp gt ct la en tx la c (w.drewN n) (by omega) ht (h.drewN n))
  have HX := Lib.hid (fun n m => right_call R gl cl gv cv gp cp gt ct la en (tx.set la c) (((w.drewN n).setCell ⟨gt, la, none⟩ (.int .u8 c)).drewN m) hk (((h.drewN n).putc h.ne.1 h.ne.2.1 la c).drewN m))
  have H := Aside0.mk h
  have c3 := h.rd.cell 3 (by simp [rdCells])
  have c4 := h.rd.cell 4 (by simp [rdCells])
  have c6 := h.rd.cell 6 (by simp [rdCells])
  have c7 := h.rd.cell 7 (by simp [rdCells])
  simp only [rdCells, List.getElem?_cons_succ, List.getElem?_cons_zero] at c3 c4 c6 c7
  have p := h.pl.int la (by simp; omega)
  rw [show ([0, 1, 2] : List Int).getD la 0 = la by match la, hk with | 0, _ => rfl | 1, _ => rfl] at p
  have hki : (la : Int) < 3 := by omega
  have hb : ((((⟨#[57, 57, 57]⟩ : ByteArray)[la]'(by show la < 3; omega)).toNat : Nat) : Int) = 57 := by match la, hk with | 0, _ => rfl | 1, _ => rfl
  clear h
  go_enter Tryz.func90, Tryz.ntmps90
  go_wp2
  go_quiet ((go_at_call 7; exact Calls.quiet_of (HT.out _)))
  go_wp2_with (first
    | (go_at_call 120; refine (HP.out _).mono ?_; rintro e w1 ⟨rfl, n1, hw⟩; rw [World.drewN_drewN] at hw; subst hw)
    | (go_at_call 111; refine (HX.out _ 0).mono ?_; rintro e w2 ⟨rfl, n2, hw⟩; rw [World.drewN_drewN] at hw; subst hw))
  go_end0
  exact ⟨rfl, _, _, rfl⟩
end Go.Proofs.YtnkkccafdbaoeaaGreatDoor.H

/- What keys do in a line: the table is made, and no digit is in it. -/
namespace Go.Proofs.YtnkkccafdbaoeaaGreatDoor.H
open Go.RowKit Go.Maps Go.WideMaps Go.Proofs.YtnkkccafdbaoeaaGreatDoorW.PrintWords Go.Proofs.YtnkkccafdbaoeaaGreatDoorW.PrintLast Go.Proofs.YtnkkccafdbaoeaaGreatDoorW.PrintMore
set_option linter.unusedVariables false
set_option linter.unusedSimpArgs false

/-- 'm[k] = v' in a literal. -/
theorem wpList_insert_own {H : Type} {P : Program} (w : World) {ops : Array Oper} {rest : List Oper} {o : Oper} {a : Act} {Q : Exit → Act → World → Prop}
    (hg : o.guard = none) (m x v : Operand) (t : TypeId) (hop : o.op = Op.insert t m x v)
    (k e : TypeId) (K : Keyed P k) (ht : P.underlying t = some (.map k e)) (R : Value → Option (DataW H × List MemPlace)) (b n : Nat) (D : DataW H)
    (hm : a.eval m = .map (some b)) (hown : w.ownsMap P k R b n D) (hn : n < maxLen) (key val : Value) (kl : Lit) (hx : a.eval x = key) (hv : a.eval v = val) (hkey : keyOf P k key = some kl)
    (d : DataW H) (ps : List MemPlace) (hval : R val = some (d, ps))
    (hK : ∀ w', w'.ownsMap P k R b (n + 1) (D.put kl d) → w.grownBy w' (some b) → wpList P ops Q rest (a.put o.dst undef) w') :
    wpList P ops Q (o :: rest) a w := by
  refine wpList_plain hg fun K' hK' => ?_
  obtain ⟨w', hrun, r1, r2⟩ := hown.update K ht hn hkey hval
  unfold Oper.wp
  simp [execOp, hop, hm, hx, hv, hrun, Result.andThen]
  exact hK' _ _ (hK w' r1 r2)
/-- Every value reads as the same: the keys alone are looked at. -/
def anyV (v : Value) : Option (DataW Unit × List MemPlace) := some (.lit (.bool true), [])
def dT : DataW Unit := .lit (.bool true)
/-- The keys of a line that are no characters. -/
def keysD : DataW Unit := (((((((DataW.map []).put (.int .i64 4) dT).put (.int .i64 5) dT).put (.int .i64 9) dT).put (.int .i64 10) dT).put (.int .i64 6) dT).put (.int .i64 7) dT).put (.int .i64 11) dT
def EditsR (w : World) (e : Ending) (w' : World) : Prop := ∃ M, e = .returned (.map (some M)) ∧ Below w.heap.size w w' ∧ w'.ownsMap Tryz.prog 3 anyV M 7 keysD
theorem intlaw : Keyed Tryz.prog 3 := int_keyed Tryz.underlying3
set_option maxHeartbeats 4000000 in
set_option maxRecDepth 100000 in
theorem edits_call (R : Nat) (w : World) : Calls Tryz.prog 89 #[.pointer (some ⟨R, 3, none⟩)] w (EditsR w) := by
  have hmm := @run_makeMap Tryz.prog
  have HO := Aside0.mk (World.ownsMap_made w Tryz.prog 3 anyV)
  have HB := Aside0.mk (below_alloc (Below.refl w.heap.size w) (.map #[] 0))
  go_enter Tryz.func89, Tryz.ntmps89
  go_wp2_with (refine wpList_insert_own (H := Unit) _ rfl _ _ _ 129 rfl 3 1 intlaw Tryz.underlying129 anyV w.heap.size _ _ rfl HO.out (by decide) _ _ _ rfl rfl (keyOf_int_mk Tryz.underlying3 (by decide)) dT [] rfl ?_; clear HO; intro w5 ho5 hg5; have HB5 := Aside0.mk (Below.grown HB.out hg5 HB.out.size (fun j hj => by cases hj; exact Nat.le_refl _)); have HO := Aside0.mk ho5; clear ho5 hg5 HB; have HB := HB5; clear HB5)
  go_ret
  exact ⟨_, rfl, HB.out, HO.out⟩
/-- A key that is in no table of a line's. -/
theorem no_edit {w : World} {M : Nat} (h : w.ownsMap Tryz.prog 3 anyV M 7 keysD) (c : Int) (hw : (Lit.int .i64 c).wf = true) (hc : ∀ zd, keysD.atKey (.int .i64 c) zd = zd) : (Instr.lookup 129 (.map (some M)) (.int .i64 c) true).run Tryz.prog w = .ok (.tuple #[.nilFunc, .bool false]) w := by
  obtain ⟨es, clock, hb, F, _, hD⟩ := h
  rcases fit_look true intlaw Tryz.underlying129 (z := .nilFunc) (by kernel_rfl) hb F (keyOf_int_mk Tryz.underlying3 hw) with ⟨hrun, _, _⟩ | ⟨e0, y, _, _, _, _, hat, _⟩
  · simpa using hrun
  · exfalso
    have h1 := hat (.lit (.bool true))
    have h2 := hat (.lit (.bool false))
    rw [← hD, hc] at h1 h2
    rw [← h1] at h2
    simp at h2
/-- Two blocks may have turned, R and G. -/
structure Let2 (w w' : World) (R G : Nat) : Prop where
  os : w'.os = w.os
  tape : w'.tape = w.tape
  output : w'.output = w.output
  size : w.heap.size ≤ w'.heap.size
  block : ∀ k, k < w.heap.size → k ≠ R → k ≠ G → w'.heap[k]? = w.heap[k]?
theorem Let2.trans {a b c : World} {R G : Nat} (h : Let2 a b R G) (k : Let2 b c R G) : Let2 a c R G :=
  ⟨k.os.trans h.os, k.tape.trans h.tape, k.output.trans h.output, Nat.le_trans h.size k.size, fun j hj h1 h2 => (k.block j (Nat.lt_of_lt_of_le hj h.size) h1 h2).trans (h.block j hj h1 h2)⟩
theorem let2_below {w w' : World} (h : Below w.heap.size w w') (R G : Nat) : Let2 w w' R G := ⟨h.os, h.tape, h.output, h.size, fun k hk _ _ => h.block k hk⟩
theorem let2_drewN (w : World) (n R G : Nat) : Let2 w (w.drewN n) R G := let2_below (pw_below_drewN (Below.refl _ _) _) R G
theorem let2_setR (w : World) (i R G : Nat) (v : Value) : Let2 w (w.setCell ⟨R, i, none⟩ v) R G := ⟨rfl, rfl, rfl, by simp, fun k _ h _ => Below.heap_setCell w _ v k h⟩
theorem let2_setG (w : World) (i R G : Nat) (v : Value) : Let2 w (w.setCell ⟨G, i, none⟩ v) R G := ⟨rfl, rfl, rfl, by simp, fun k _ _ h => Below.heap_setCell w _ v k h⟩
theorem let2_charW (w : World) (R gt la : Nat) (c : Int) (n m : Nat) : Let2 w (charW w R gt la c n m) R gt :=
  (((let2_drewN w n R gt).trans (let2_setG _ la R gt _)).trans (let2_drewN _ m R gt)).trans (let2_setR _ 6 R gt _)
theorem InGet.below {w w' : World} {R gl cl gv cv gp cp gt ct : Nat} {la : Int} {en : Value} {tx : List Int} (h : InGet w R gl cl gv cv gp cp gt ct la en tx) (hb : Below w.heap.size w w') : InGet w' R gl cl gv cv gp cp gt ct la en tx :=
  ⟨h.rd.below hb, h.pl.below hb, h.tx.below hb⟩
def KeyR (R gl cl gv cv gp cp gt ct la : Nat) (en : Value) (tx : List Int) (c : Int) (w : World) (e : Ending) (w' : World) : Prop :=
  e = .returned (.tuple #[]) ∧ InGet w' R gl cl gv cv gp cp gt ct ((la : Int) + 1) en (tx.set la c) ∧ Let2 w w' R gt
set_option maxHeartbeats 4000000 in
set_option maxRecDepth 100000 in
theorem lineKey_call (R gl cl gv cv gp cp gt ct : Nat) (la : Nat) (en : Value) (tx : List Int) (c : Int) (w : World) (hk : la < 2) (ht : tx.length = 3) (hc : tkk 57 c = (c, true)) (hch : chB c = true)
    (hw : (Lit.int .i64 c).wf = true) (hna : ∀ zd, keysD.atKey (.int .i64 c) zd = zd) (h : InGet w R gl cl gv cv gp cp gt ct la en tx) :
    Calls Tryz.prog 64 #[.pointer (some ⟨R, 3, none⟩), .int .i64 c] w (KeyR R gl cl gv cv gp cp gt ct la en tx c w) := by
  have HE := Lib.hid (edits_call R)
  have HC := Lib.hid (fun w => hch ▸ isChar_call c w)
  have HX := Lib.hid (fun w h => char_call R gl cl gv cv gp cp gt ct la en tx c w hk ht hc h)
  have HL := Lib.hid (fun (w : World) (M : Nat) (h : w.ownsMap Tryz.prog 3 anyV M 7 keysD) => no_edit h c hw hna)
  have H := Aside0.mk h
  clear h hna hw hch hc
  go_enter Tryz.func64, Tryz.ntmps64
  go_wp2_with (first
    | (go_at_call 89; refine (HE.out _).mono ?_; rintro e w1 ⟨M, rfl, hb, ho⟩; have HB1 := Aside0.mk hb; have hlk := HL.out _ _ ho; clear hb ho)
    | (go_at_call 17; refine (HC.out _).mono ?_; rintro e w2 ⟨rfl, hd⟩; have HD2 := Aside0.mk hd; clear hd)
    | (go_at_call 90; refine (HX.out _ ((H.out.below HB1.out).below (drawn_below HD2.out))).mono ?_; rintro e w3 ⟨rfl, n, m, hw3⟩; have HW3 := Aside0.mk hw3; clear hw3))
  go_end0
  refine ⟨rfl, ?_, ?_⟩
  · rw [HW3.out]; exact ((H.out.below HB1.out).below (drawn_below HD2.out)).charW c n m
  · rw [HW3.out]; exact ((let2_below HB1.out R gt).trans (let2_below (drawn_below HD2.out) R gt)).trans (let2_charW _ R gt la c n m)
end Go.Proofs.YtnkkccafdbaoeaaGreatDoor.H

/- A digit as a key of a read, in the document's example. -/
namespace Go.Proofs.YtnkkccafdbaoeaaGreatDoor.H
open Go.RowKit Go.Proofs.YtnkkccafdbaoeaaGreatDoorW.PrintWords Go.Proofs.YtnkkccafdbaoeaaGreatDoorW.PrintLast Go.Proofs.YtnkkccafdbaoeaaGreatDoorW.PrintMore
set_option linter.unusedVariables false
set_option linter.unusedSimpArgs false

/-- The cells of the movers. -/
def moverCells : Array Value := #[.int .i64 1, .func (.func 84) #[] #[], .int .i64 3, .func (.func 86) #[] #[], .int .i64 2, .func (.func 87) #[] #[], .int .i64 8, .func (.func 88) #[] #[]]
def Movers (w : World) (e : Ending) (w' : World) : Prop := ∃ g, e = .returned (.slice (some ⟨g, 0, none⟩) 4 4) ∧ Blk w' g moverCells ∧ Below w.heap.size w w'
set_option maxHeartbeats 1000000 in
set_option maxRecDepth 100000 in
theorem movers_call (w : World) : Calls Tryz.prog 63 #[] w (Movers w) := by
  go_enter Tryz.func63, Tryz.ntmps63
  go_wp2
  go_ret
  exact ⟨w.heap.size, rfl, blk_new _ _ _ _, below_alloc (Below.refl _ _) _⟩
set_option maxHeartbeats 4000000 in
set_option maxRecDepth 100000 in
theorem key_digit (R gl cl gv cv gp cp gt ct : Nat) (la : Nat) (en : Value) (tx : List Int) (c : Int) (w : World) (h32 : 32 ≤ c) (hk : la < 2) (ht : tx.length = 3) (hc : tkk 57 c = (c, true)) (hch : chB c = true)
    (hw : (Lit.int .i64 c).wf = true) (hna : ∀ zd, keysD.atKey (.int .i64 c) zd = zd) (h : InGet w R gl cl gv cv gp cp gt ct la en tx) :
    Calls Tryz.prog 42 #[.pointer (some ⟨R, 0, none⟩), .int .i64 c] w (KeyR R gl cl gv cv gp cp gt ct la en tx c w) := by
  have HM := Lib.hid movers_call
  have HX := Lib.hid (fun w h => lineKey_call R gl cl gv cv gp cp gt ct la en tx c w hk ht hc hch hw hna h)
  have H := Aside0.mk h
  have c2 := h.rd.cell 2 (by simp [rdCells])
  simp only [rdCells, List.getElem?_cons_succ, List.getElem?_cons_zero] at c2
  have n1 : ((1 : Int) == c) = false := beq_eq_false_iff_ne.2 (by omega)
  have n2 : ((2 : Int) == c) = false := beq_eq_false_iff_ne.2 (by omega)
  have n3 : ((3 : Int) == c) = false := beq_eq_false_iff_ne.2 (by omega)
  have n8 : ((8 : Int) == c) = false := beq_eq_false_iff_ne.2 (by omega)
  have hsf := fun (a : Addr) (F : Fn) (W : World) m => run_store Tryz.prog W a (.func F #[] #[]) m rfl
  clear h hna hw hch hc h32
  go_enter Tryz.func42, Tryz.ntmps42
  go_wp2_with (go_at_call 63; refine (HM.out _).mono ?_; rintro e w1 ⟨gm, rfl, hm, hb⟩; have HK1 := Aside0.mk hm; have HB1 := Aside0.mk hb; clear hm hb)
  clear HM c2
  go_loopw [13] (fun i wr => ∃ k : Nat, i = .int .i64 k ∧ Aside0 (k ≤ 4) ∧ Aside0 (Blk wr gm moverCells) ∧ Aside0 (Below w.heap.size w wr)) (fun i _ => 4 - (intOf i).toNat)
  case atStart => exact ⟨0, rfl, ⟨by omega⟩, HK1, HB1⟩
  case round =>
    clear HK1 HB1
    obtain ⟨k, rfl, HL, HK, HB⟩ := hrel
    have hk4 := HL.out
    match k, hk4 with
    | 0, _ =>
      have m0 : wr.cell? ⟨gm, 0, none⟩ = some (.int .i64 1) := HK.out.cell 0
      have m1 : wr.cell? ⟨gm, 1, none⟩ = some (.func (.func 84) #[] #[]) := HK.out.cell 1
      go_wp2
      go_roundw
      case rel => exact ⟨1, by go_num, ⟨by omega⟩, ⟨HK.out.alloc _⟩, ⟨below_alloc HB.out _⟩⟩
      case measure => simp [intOf]
    | 1, _ =>
      have m0 : wr.cell? ⟨gm, 2, none⟩ = some (.int .i64 3) := HK.out.cell 2
      have m1 : wr.cell? ⟨gm, 3, none⟩ = some (.func (.func 86) #[] #[]) := HK.out.cell 3
      go_wp2
      go_roundw
      case rel => exact ⟨2, by go_num, ⟨by omega⟩, ⟨HK.out.alloc _⟩, ⟨below_alloc HB.out _⟩⟩
      case measure => simp [intOf]
    | 2, _ =>
      have m0 : wr.cell? ⟨gm, 4, none⟩ = some (.int .i64 2) := HK.out.cell 4
      have m1 : wr.cell? ⟨gm, 5, none⟩ = some (.func (.func 87) #[] #[]) := HK.out.cell 5
      go_wp2
      go_roundw
      case rel => exact ⟨3, by go_num, ⟨by omega⟩, ⟨HK.out.alloc _⟩, ⟨below_alloc HB.out _⟩⟩
      case measure => simp [intOf]
    | 3, _ =>
      have m0 : wr.cell? ⟨gm, 6, none⟩ = some (.int .i64 8) := HK.out.cell 6
      have m1 : wr.cell? ⟨gm, 7, none⟩ = some (.func (.func 88) #[] #[]) := HK.out.cell 7
      go_wp2
      go_roundw
      case rel => exact ⟨4, by go_num, ⟨by omega⟩, ⟨HK.out.alloc _⟩, ⟨below_alloc HB.out _⟩⟩
      case measure => simp [intOf]
    | 4, _ =>
      go_wp2_with (go_at_call 64; refine (HX.out _ (H.out.below HB.out)).mono ?_; rintro e w3 ⟨rfl, hi, hl⟩; have HI3 := Aside0.mk hi; have HL3 := Aside0.mk hl; clear hi hl)
      go_end0
      exact ⟨rfl, HI3.out, (let2_below HB.out R gt).trans HL3.out⟩
end Go.Proofs.YtnkkccafdbaoeaaGreatDoor.H

/- The key that leaves the get, in the document's example. -/
namespace Go.Proofs.YtnkkccafdbaoeaaGreatDoor.H
open Go.RowKit Go.Proofs.YtnkkccafdbaoeaaGreatDoorW.PrintWords Go.Proofs.YtnkkccafdbaoeaaGreatDoorW.PrintLast Go.Proofs.YtnkkccafdbaoeaaGreatDoorW.PrintMore
set_option linter.unusedVariables false
set_option linter.unusedSimpArgs false

/-- What the leaving leaves: the read has ended, the value is 120. -/
def Left (R gl cl gp cp gt ct : Nat) (en : Value) (w : World) (e : Ending) (w' : World) : Prop := ∃ gv' cv', e = .returned (.tuple #[]) ∧ w.heap.size ≤ gv' ∧
  Buf w' R 77 (rdCells gl cl gv' cv' (-1) ⟨#[57, 57, 57]⟩ (.slice (some ⟨gp, 0, none⟩) 3 cp) (.slice (some ⟨gt, 0, none⟩) 3 ct) 2 false en false) ∧ Buf w' gv' 44 [.int .i64 2, .int .i64 120, .string ⟨#[]⟩] ∧ w.grownBy w' (some R)
set_option maxHeartbeats 4000000 in
set_option maxRecDepth 100000 in
theorem leave_call (R gl cl gv cv gp cp gt ct : Nat) (en : Value) (k n : Int) (s : ByteArray) (w : World) (h : InGet w R gl cl gv cv gp cp gt ct 2 en [49, 50, 48]) (hv : Buf w gv 44 [.int .i64 k, .int .i64 n, .string s]) (hl : Blk w gl cellsN) :
    Calls Tryz.prog 85 #[.pointer (some ⟨R, 0, none⟩), .int .i64 1, .bool true] w (Left R gl cl gp cp gt ct en w) := by
  have HN := Lib.hid (fun w hR hv hl ht => now_on R gl cl gv cv gp cp gt ct 2 false en false k n s w hR hv hl ht)
  have HT := Lib.hid (fun B c w h => isTrue_N gl cl B 1 c w h)
  have HX := Lib.hid (fun w hR => next_end R gl cl gv cv 0 ⟨#[57, 57, 57]⟩ (.slice (some ⟨gp, 0, none⟩) 3 cp) (.slice (some ⟨gt, 0, none⟩) 3 ct) 2 false en false w hR)
  have HR := Aside0.mk h.rd
  have HTx := Aside0.mk h.tx
  have HV := Aside0.mk hv
  have HLc := Aside0.mk hl
  have c0 := h.rd.cell 0 (by simp [rdCells])
  have c2 := h.rd.cell 2 (by simp [rdCells])
  simp only [rdCells, List.getElem?_cons_succ, List.getElem?_cons_zero] at c0 c2
  have e3 : w.cell? ⟨gl, 3, none⟩ = some (.string ⟨#[]⟩) := hl.cell 3
  have hRl := h.rd.lt
  have hLl := hl.lt
  clear h hv hl
  go_enter Tryz.func85, Tryz.ntmps85
  go_wp2
  go_region_held3 (fun w' => w'.cell? ⟨R, 0, none⟩ = some (.slice (some ⟨gl, 0, none⟩) 1 cl) ∧ w'.cell? ⟨R, 2, none⟩ = some (.int .i64 0) ∧ w'.cell? ⟨gl, 3, none⟩ = some (.string ⟨#[]⟩)) (go_keep)
    (first
      | (go_at_call 43; refine (HN.out _ HR.out.drew HV.out.drew (HLc.out.drewN 1) HTx.out.drew).mono ?_; rintro e w1 ⟨g1, d1, rfl, hg, hbf, hb⟩; have HB1 := Aside0.mk hb; have HL1 := Aside0.mk (HLc.out.below (below_undrew hb)); have f0 := (hb.cell (p := ⟨R, 0, none⟩) hRl).trans c0; have f2 := (hb.cell (p := ⟨R, 2, none⟩) hRl).trans c2; have f3 := (hb.cell (p := ⟨gl, 3, none⟩) hLl).trans e3; have hR1 := Nat.lt_of_lt_of_le hRl hb.size; have hL1 := Nat.lt_of_lt_of_le hLl hb.size; clear hg hbf hb)
      | (go_at_call 61; refine (HT.out _ _ _ HL1.out).mono ?_; rintro e w2 ⟨rfl, hb⟩; have HB2 := Aside0.mk hb; have k0 := (hb.cell (p := ⟨R, 0, none⟩) hR1).trans f0; have k2 := (hb.cell (p := ⟨R, 2, none⟩) hR1).trans f2; have k3 := (hb.cell (p := ⟨gl, 3, none⟩) hL1).trans f3; clear hb))
  all_goals
    have HB5 := Aside0.mk (nx (below_undrew HB1.out) HB2.out)
    clear f0 f2 f3 k0 k3 c0 c2 e3 hR1 hL1 hRl hLl
    have HR2 := Aside0.mk (HR.out.below HB5.out)
    have HV2 := Aside0.mk (HV.out.below HB5.out)
    have HL2 := Aside0.mk (HLc.out.below HB5.out)
    have HT2 := Aside0.mk (HTx.out.below HB5.out)
    go_wp2_with (first
      | (go_at_call 40; refine (HX.out _ HR2.out).mono ?_; rintro e w3 ⟨rfl, rfl⟩)
      | (go_at_call 43; refine (HN.out _ HR2.out HV2.out HL2.out HT2.out).mono ?_; rintro e w4 ⟨g4, d4, rfl, hg, hbf, hb⟩; have HB4 := Aside0.mk hb; have HG4 := Aside0.mk hg; have HO4 := Aside0.mk hbf; have HR4 := Aside0.mk (HR2.out.below hb); have m1 := HR4.out.cell 1 (by simp [rdCells]); have m2 := HR4.out.cell 2 (by simp [rdCells]); simp only [rdCells, List.getElem?_cons_succ, List.getElem?_cons_zero] at m1 m2; have z1 := HR4.out.frozen 1 (by simp [rdCells]); have z2 := HR4.out.frozen 2 (by simp [rdCells]); have z2' := (HR4.out.set 1 (.slice (some ⟨g4, 0, none⟩) 1 d4)).frozen 2 (by simp [rdCells]); have m2' := (HR4.out.set 1 (.slice (some ⟨g4, 0, none⟩) 1 d4)).cell 2 (by simp [rdCells]); simp only [rdCells, List.set_cons_succ, List.set_cons_zero, List.getElem?_cons_succ, List.getElem?_cons_zero] at m2'; clear hg hbf hb))
    go_end0
    have hRl4 := HR2.out.lt
    have hg4 := HG4.out
    have hs5 := HB5.out.size
    have hgR : g4 ≠ R := fun e => by omega
    refine ⟨g4, d4, rfl, by omega, ?_, (HO4.out.set_far (p := ⟨R, 1, none⟩) hgR _).set_far (p := ⟨R, 2, none⟩) hgR _, World.grownBy.trans (gb_below HB5.out _) (World.grownBy.trans (gb_below HB4.out _) (World.grownBy.trans (gb_set _ _ _ _) (gb_set _ _ _ _)))⟩
    exact (HR4.out.set 1 (.slice (some ⟨g4, 0, none⟩) 1 d4)).set 2 (.int .i64 (-1))
set_option maxHeartbeats 4000000 in
set_option maxRecDepth 100000 in
theorem mover1_call (R gl cl gv cv gp cp gt ct : Nat) (en : Value) (k n : Int) (s : ByteArray) (w : World) (h : InGet w R gl cl gv cv gp cp gt ct 2 en [49, 50, 48]) (hv : Buf w gv 44 [.int .i64 k, .int .i64 n, .string s]) (hl : Blk w gl cellsN) :
    Calls Tryz.prog 84 #[.pointer (some ⟨R, 0, none⟩)] w (Left R gl cl gp cp gt ct en w) := by
  have H := Lib.hid (leave_call R gl cl gv cv gp cp gt ct en k n s w h hv hl)
  clear h hv hl
  go_enter Tryz.func84, Tryz.ntmps84
  go_wp2_with (go_at_call 85; refine H.out.mono ?_; rintro e w1 ⟨g, c, rfl, h1, h2, h3, h4⟩; have HH := Aside0.mk (And.intro h1 (And.intro h2 (And.intro h3 h4))); clear h1 h2 h3 h4)
  go_end0
  obtain ⟨h1, h2, h3, h4⟩ := HH.out
  exact ⟨g, c, rfl, h1, h2, h3, h4⟩
set_option maxHeartbeats 4000000 in
set_option maxRecDepth 100000 in
theorem key_end (R gl cl gv cv gp cp gt ct : Nat) (en : Value) (k n : Int) (s : ByteArray) (w : World) (h : InGet w R gl cl gv cv gp cp gt ct 2 en [49, 50, 48]) (hv : Buf w gv 44 [.int .i64 k, .int .i64 n, .string s]) (hl : Blk w gl cellsN) :
    Calls Tryz.prog 42 #[.pointer (some ⟨R, 0, none⟩), .int .i64 1] w (Left R gl cl gp cp gt ct en w) := by
  have HM := Lib.hid movers_call
  have HX := Lib.hid (fun w h hv hl => mover1_call R gl cl gv cv gp cp gt ct en k n s w h hv hl)
  have H := Aside0.mk h
  have HV := Aside0.mk hv
  have HLc := Aside0.mk hl
  have c2 := h.rd.cell 2 (by simp [rdCells])
  simp only [rdCells, List.getElem?_cons_succ, List.getElem?_cons_zero] at c2
  have hsf := fun (a : Addr) (F : Fn) (W : World) m => run_store Tryz.prog W a (.func F #[] #[]) m rfl
  clear h hv hl
  go_enter Tryz.func42, Tryz.ntmps42
  go_wp2_with (go_at_call 63; refine (HM.out _).mono ?_; rintro e w1 ⟨gm, rfl, hm, hb⟩; have HK1 := Aside0.mk hm; have HB1 := Aside0.mk hb; clear hm hb)
  clear HM c2
  go_loopw [13] (fun i wr => i = .int .i64 0 ∧ Aside0 (wr = w1)) (fun _ _ => 0)
  case atStart => exact ⟨rfl, ⟨rfl⟩⟩
  case round =>
    obtain ⟨rfl, HW⟩ := hrel
    have hw := HW.out
    subst hw
    have m0 : wr.cell? ⟨gm, 0, none⟩ = some (.int .i64 1) := HK1.out.cell 0
    have m1 : wr.cell? ⟨gm, 1, none⟩ = some (.func (.func 84) #[] #[]) := HK1.out.cell 1
    have HB2 := Aside0.mk (below_alloc HB1.out (.cells #[.int .i64 1, .func (.func 84) #[] #[]] 101))
    go_wp2_with (go_at_call 84; refine (HX.out _ (H.out.below HB2.out) (HV.out.below HB2.out) (HLc.out.below HB2.out)).mono ?_; rintro e w3 ⟨g, c, rfl, h1, h2, h3, h4⟩; have HH := Aside0.mk (And.intro h1 (And.intro h2 (And.intro h3 h4))); clear h1 h2 h3 h4)
    go_end0
    obtain ⟨h1, h2, h3, h4⟩ := HH.out
    have hs := HB2.out.size
    exact ⟨g, c, rfl, by omega, h2, h3, World.grownBy.trans (gb_below HB2.out _) h4⟩
end Go.Proofs.YtnkkccafdbaoeaaGreatDoor.H
