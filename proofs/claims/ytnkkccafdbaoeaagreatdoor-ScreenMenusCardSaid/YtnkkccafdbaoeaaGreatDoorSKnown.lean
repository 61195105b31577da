/-
  Several steps of the proof in one text: SRead, SKnown.
-/
import Derived.Test.YtnkkccafdbaoeaaGreatDoorSLeave
import Derived.Deep.AppendLies
import Derived.Deep.RegionLaw
/- The read of the document's example. -/
namespace Go.Proofs.YtnkkccafdbaoeaaGreatDoor.H
open Go.RowKit Go.Proofs.YtnkkccafdbaoeaaGreatDoorW.PrintWords Go.Proofs.YtnkkccafdbaoeaaGreatDoorW.PrintLast Go.Proofs.YtnkkccafdbaoeaaGreatDoorW.PrintMore
set_option linter.unusedVariables false
set_option linter.unusedSimpArgs false

theorem buf_two {w : World} {g h : Nat} {e f : TypeId} {xs ys : List Value} (a : Buf w g e xs) (b : Buf w h f ys) (hne : e ≠ f) : g ≠ h := fun e1 => by
  obtain ⟨_, _, _, h1, _⟩ := a.ex
  obtain ⟨_, _, _, h2, _⟩ := b.ex
  rw [e1, h2] at h1
  injection h1 with h1
  injection h1 with _ h1
  exact hne h1.symm
/-- A reader before its values are laid, and behind that. -/
def Laid (wr : World) (R gl cl : Nat) (B : Nat) : Nat → Prop
  | 0 => Buf wr R 77 [.slice (some ⟨gl, 0, none⟩) 1 cl, .slice none 0 0, .int .i64 (-1), .string ⟨#[]⟩, .slice none 0 0, .slice none 0 0, .int .i64 0, .bool false, .slice none 0 0, .bool false]
  | _ => ∃ gv cv, B ≤ gv ∧ Buf wr R 77 (rdCells gl cl gv cv (-1) ⟨#[]⟩ (.slice none 0 0) (.slice none 0 0) 0 false (.slice none 0 0) false) ∧ Buf wr gv 44 [.int .i64 2, .int .i64 0, .string ⟨#[]⟩]
/-- A read behind k keys. -/
def Keyed3 (wr : World) (R gl cl gv cv gp cp gt ct B : Nat) (en : Value) : Nat → Prop
  | 0 => InGet wr R gl cl gv cv gp cp gt ct 0 en [32, 32, 48] ∧ Buf wr gv 44 [.int .i64 2, .int .i64 0, .string ⟨#[]⟩]
  | 1 => InGet wr R gl cl gv cv gp cp gt ct 1 en [49, 32, 48] ∧ Buf wr gv 44 [.int .i64 2, .int .i64 0, .string ⟨#[]⟩]
  | 2 => InGet wr R gl cl gv cv gp cp gt ct 2 en [49, 50, 48] ∧ Buf wr gv 44 [.int .i64 2, .int .i64 0, .string ⟨#[]⟩]
  | _ => ∃ gv' cv', B ≤ gv' ∧ Buf wr R 77 (rdCells gl cl gv' cv' (-1) ⟨#[57, 57, 57]⟩ (.slice (some ⟨gp, 0, none⟩) 3 cp) (.slice (some ⟨gt, 0, none⟩) 3 ct) 2 false en false) ∧ Buf wr gv' 44 [.int .i64 2, .int .i64 120, .string ⟨#[]⟩]
theorem tkk_49 : tkk 57 49 = (49, true) := by decide +kernel
theorem tkk_50 : tkk 57 50 = (50, true) := by decide +kernel
theorem let2_under {w a b : World} {R G : Nat} (h : Below w.heap.size w a) (k : Let2 a b R G) (hR : w.heap.size ≤ R) (hG : w.heap.size ≤ G) : Below w.heap.size w b :=
  ⟨k.os.trans h.os, k.tape.trans h.tape, k.output.trans h.output, Nat.le_trans h.size k.size, fun j hj => (k.block j (Nat.lt_of_lt_of_le hj h.size) (fun e => by omega) (fun e => by omega)).trans (h.block j hj)⟩
theorem results_tmp5 {fn : Func} {a b c d e : Tmp} (h : fn.results = #[.tmp a, .tmp b, .tmp c, .tmp d, .tmp e]) (tmps : Array Value) (P : Program) (w : World) :
    (results fn tmps).run P w = .ok (.tuple #[tmps.getD a undef, tmps.getD b undef, tmps.getD c undef, tmps.getD d undef, tmps.getD e undef]) w := by
  simp [results, h]
def ReadR (w : World) (e : Ending) (w' : World) : Prop := ∃ g c en, e = .returned (.tuple #[.slice (some ⟨g, 0, none⟩) 1 c, .int .i64 (-1), en, .bool false, .int .i64 0]) ∧
  Buf w' g 44 [.int .i64 2, .int .i64 120, .string ⟨#[]⟩] ∧ Below w.heap.size w w'
set_option maxHeartbeats 4000000 in
set_option maxRecDepth 100000 in
theorem read_N (gl cl gk ck : Nat) (w : World) (hl : Blk w gl cellsN) (hk : Buf w gk 3 (nums .i64 [49, 50, 1])) :
    Calls Tryz.prog 21 #[.slice (some ⟨gl, 0, none⟩) 1 cl, .slice (some ⟨gk, 0, none⟩) 3 ck] w (ReadR w) := by
  have HVA := Lib.hid (validate_N gl cl w hl)
  have HLc := Aside0.mk hl
  have HKy := Aside0.mk hk
  clear hl hk
  go_enter Tryz.func21, Tryz.ntmps21
  go_wp2_with (go_at_call 38; refine HVA.out.mono ?_; rintro e w1 ⟨rfl, hb⟩; have HB1 := Aside0.mk hb; have HL1 := Aside0.mk (HLc.out.below hb); have HK1 := Aside0.mk (HKy.out.below hb); clear hb)
  have HR2 := Aside0.mk (buf_new w1 #[.slice (some ⟨gl, 0, none⟩) 1 cl, .slice none 0 0, .int .i64 (-1), .string ⟨#[]⟩, .slice none 0 0, .slice none 0 0, .int .i64 0, .bool false, .slice none 0 0, .bool false] 77)
  have hw1 := HB1.out.size
  go_loopw [30] (fun i wr => ∃ k : Nat, i = .int .i64 k ∧ Aside0 (k ≤ 1) ∧ Aside0 (Laid wr w1.heap.size gl cl w.heap.size k) ∧ Aside0 (Below w.heap.size w wr)) (fun i _ => 1 - (intOf i).toNat)
  case atStart => exact ⟨0, rfl, ⟨by omega⟩, ⟨HR2.out⟩, ⟨below_alloc HB1.out _⟩⟩
  case round =>
    clear HR2
    obtain ⟨k, rfl, HL, HD, HB⟩ := hrel
    have hk1 := HL.out
    match k, hk1 with
    | 0, _ =>
      have HKr := HLc.out.below HB.out
      unfold cellsN at HKr
      have c0 := HKr.cell 0
      have c1 := HKr.cell 1
      have c2 := HKr.cell 2
      have c3 := HKr.cell 3
      have c4 := HKr.cell 4
      have c5 := HKr.cell 5
      have c6 := HKr.cell 6
      clear HKr
      have HRa := Aside0.mk (Buf.alloc HD.out (.cells #[.string ⟨#[78]⟩, .string ⟨#[57, 57, 57]⟩, .string ⟨#[]⟩, .string ⟨#[]⟩, .int .i64 2, .int .i64 0, .string ⟨#[]⟩] 47))
      have HNa := Aside0.mk (blk_new wr #[.string ⟨#[78]⟩, .string ⟨#[57, 57, 57]⟩, .string ⟨#[]⟩, .string ⟨#[]⟩, .int .i64 2, .int .i64 0, .string ⟨#[]⟩] 47 (0, 0))
      have HBa := Aside0.mk (below_alloc HB.out (.cells #[.string ⟨#[78]⟩, .string ⟨#[57, 57, 57]⟩, .string ⟨#[]⟩, .string ⟨#[]⟩, .int .i64 2, .int .i64 0, .string ⟨#[]⟩] 47))
      go_wp2
      clear c0 c1 c2 c3 c4 c5 c6
      generalize wr.alloc (.cells #[.string ⟨#[78]⟩, .string ⟨#[57, 57, 57]⟩, .string ⟨#[]⟩, .string ⟨#[]⟩, .int .i64 2, .int .i64 0, .string ⟨#[]⟩] 47) = wa at *
      have r1 := HRa.out.cell 1 (by simp)
      have q1 := HRa.out.frozen 1 (by simp)
      have r1' := (HRa.out.alloc (.cells #[.int .i64 2, .int .i64 0, .string ⟨#[]⟩] 44)).cell 1 (by simp)
      have d4 := HNa.out.cell 4
      have d5 := HNa.out.cell 5
      have d6 := HNa.out.cell 6
      obtain ⟨vi, hvi, hvz⟩ := Option.map_eq_some_iff.1 info_value
      simp only [Prod.mk.injEq] at hvz
      obtain ⟨hv0, hv1, hv2⟩ := hvz
      have hwa := HBa.out.size
      have hzs : (Value.agg #[.int .i64 0, .int .i64 0, .string ⟨#[]⟩]).cells.size = 3 := rfl
      have hnil : ∀ W : World, W.ownsRow w.heap.size 44 3 (.slice none 0 0) 0 [] := fun _ => ⟨rfl, Or.inl ⟨rfl, rfl⟩⟩
      go_region_law ((refine step_append_lies _ ?hgd (.tmp 38) (.tmp 41) 48 ?ho w.heap.size 44 vi (.agg #[.int .i64 0, .int .i64 0, .string ⟨#[]⟩]) 3 32 Tryz.underlying48 hvi hv0 hv1 hv2 hzs (by decide) (.slice none 0 0) 0 [] ?hs (hnil _) ⟨wa.heap.size, 0, none⟩ 1 1 [.int .i64 2, .int .i64 0, .string ⟨#[]⟩] ?hx ?hlen ?hnews ?h1 (by decide) (by decide) (by decide) ?hbase _ rfl ?_; (case hgd => rfl); (case ho => rfl); (case hs => rfl); (case hx => rfl); (case hlen => rfl); (case hnews => exact World.news_of_block (new_at wa.drew _)); (case h1 => simp [Value.oneCell']); (case hbase => simp; omega); intro g cap w8 ho hg hat hlt; obtain ⟨g8, c8, e8, hg8, hbf⟩ := own_rows_buf (g := 0) (c := 0) ho (by decide); have hgg : g = g8 := (by injection e8 with h1; injection h1 with h1; injection h1); subst hgg; have HR8 := Aside0.mk (((HRa.out.drew).alloc _).grown hg (by simp [Value.ownBlock])); have s1 := HR8.out.cell 1 (by simp); have t1 := HR8.out.frozen 1 (by simp); have HV8 := Aside0.mk (And.intro hg8 hbf); have HG8 := Aside0.mk hg; clear ho hg hat hlt hg8 hbf e8))
      all_goals
        have hne := buf_two HV8.out.2 HR8.out (by decide)
        clear r1 r1' q1 d4 d5 d6 s1 t1
        go_wp2
        go_roundw
        case rel => exact ⟨1, by go_num, ⟨by omega⟩, ⟨g, cap, HV8.out.1, HR8.out.set 1 (.slice (some ⟨g, 0, none⟩) 1 cap), HV8.out.2.set_far (p := ⟨w1.heap.size, 1, none⟩) hne _⟩, ⟨Below.setCell (Below.grown (below_alloc HBa.out.drew _) HG8.out (by simp; omega) (fun j hj => by simp [Value.ownBlock] at hj)) (by simpa using hw1) _⟩⟩
        case measure => simp [intOf]
    | 1, _ =>
      obtain ⟨gv, cv, hgv, hrd, hval⟩ := HD.out
      have HRD := Aside0.mk hrd
      have HVD := Aside0.mk hval
      have HLD := Aside0.mk (HLc.out.below HB.out)
      have HKD := Aside0.mk (HKy.out.below HB.out)
      have hRlt := hrd.lt
      have hwR : w.heap.size ≤ w1.heap.size := hw1
      have hne : w1.heap.size ≠ gv := (buf_two hval hrd (by decide)).symm
      have hnl : w1.heap.size ≠ gl := fun e => by have := HLc.out.lt; omega
      have HNX := Lib.hid (next_first w1.heap.size gl cl gv cv ⟨#[]⟩ (.slice none 0 0) (.slice none 0 0) 0 false (.slice none 0 0) false 2 0 ⟨#[]⟩ wr hrd hval HLD.out)
      clear hrd hval HD HVA
      go_wp2_with (first
        | (go_at_call 40; refine HNX.out.mono ?_; rintro e w2 ⟨rfl, hb⟩; have HB2 := Aside0.mk hb; have HV2 := Aside0.mk (HVD.out.below hb); have HL2 := Aside0.mk (HLD.out.below hb); have HK2 := Aside0.mk (HKD.out.below hb); have HEN := Lib.hid (enter_call w1.heap.size gl cl gv cv w2 hne hnl (HRD.out.below hb) (HVD.out.below hb) (HLD.out.below hb)); clear hb)
        | (go_at_call 41; refine HEN.out.mono ?_; rintro e w3 ⟨gp, cp, gt, ct, ge, ce, rfl, h1, h2, h3, h4, h5, h6, h7, h8⟩; have HN3 := Aside0.mk (And.intro h1 (And.intro h2 h3)); have HI3 : Aside0 (InGet w3 w1.heap.size gl cl gv cv gp cp gt ct 0 (.slice (some ⟨ge, 0, none⟩) 1 ce) [32, 32, 48]) := ⟨⟨h4, h5, h6⟩⟩; have HG3 := Aside0.mk h8; clear h1 h2 h3 h4 h5 h6 h7 h8))
      have HB3 := Aside0.mk (Below.grown (nx HB.out HB2.out) HG3.out (Nat.le_trans HB.out.size HB2.out.size) (fun j hj => by cases hj; exact hwR))
      have HV3 := Aside0.mk (HV2.out.grown HG3.out (fun e => hne (by injection e)))
      have hgt : w.heap.size ≤ gt := Nat.le_trans (Nat.le_trans HB.out.size HB2.out.size) HN3.out.2.1
      clear HN3 HG3 HV2 HL2 HK2 HB2 HVD HRD HLD HKD HNX HEN
      go_loopw [57] (fun i wr => ∃ k : Nat, i = .int .i64 k ∧ Aside0 (k ≤ 3) ∧ Aside0 (Keyed3 wr w1.heap.size gl cl gv cv gp cp gt ct w.heap.size (.slice (some ⟨ge, 0, none⟩) 1 ce) k) ∧ Aside0 (Below w.heap.size w wr)) (fun i _ => 3 - (intOf i).toNat)
      case atStart => exact ⟨0, rfl, ⟨by omega⟩, ⟨HI3.out, HV3.out⟩, HB3⟩
      case round =>
        clear HI3 HB3 HV3 HL HB
        obtain ⟨k, rfl, HL, HD, HB⟩ := hrel
        have hk3 := HL.out
        match k, hk3 with
        | 0, _ =>
          obtain ⟨hi, hv⟩ := HD.out
          have m0 := (HKy.out.below HB.out).int 0 (by decide)
          have HX := Lib.hid (key_digit w1.heap.size gl cl gv cv gp cp gt ct 0 (.slice (some ⟨ge, 0, none⟩) 1 ce) [32, 32, 48] 49 wr (by decide) (by decide) rfl tkk_49 (by decide) (by decide) (fun _ => rfl) hi)
          have HI := Aside0.mk hi
          have HV := Aside0.mk hv
          clear hi hv HD
          go_wp2_with (go_at_call 42; refine HX.out.mono ?_; rintro e w4 ⟨rfl, h1, h2⟩; have HI4 := Aside0.mk h1; have HL4 := Aside0.mk h2; clear h1 h2)
          go_roundw
          case rel => exact ⟨1, by go_num, ⟨by omega⟩, ⟨HI4.out, HV.out.keep (HL4.out.block gv HV.out.lt (fun e => hne e.symm) (buf_two HV.out HI.out.tx (by decide)))⟩, ⟨let2_under HB.out HL4.out hwR hgt⟩⟩
          case measure => simp [intOf]
        | 1, _ =>
          obtain ⟨hi, hv⟩ := HD.out
          have m1 := (HKy.out.below HB.out).int 1 (by decide)
          have HX := Lib.hid (key_digit w1.heap.size gl cl gv cv gp cp gt ct 1 (.slice (some ⟨ge, 0, none⟩) 1 ce) [49, 32, 48] 50 wr (by decide) (by decide) rfl tkk_50 (by decide) (by decide) (fun _ => rfl) hi)
          have HI := Aside0.mk hi
          have HV := Aside0.mk hv
          clear hi hv HD
          go_wp2_with (go_at_call 42; refine HX.out.mono ?_; rintro e w4 ⟨rfl, h1, h2⟩; have HI4 := Aside0.mk h1; have HL4 := Aside0.mk h2; clear h1 h2)
          go_roundw
          case rel => exact ⟨2, by go_num, ⟨by omega⟩, ⟨HI4.out, HV.out.keep (HL4.out.block gv HV.out.lt (fun e => hne e.symm) (buf_two HV.out HI.out.tx (by decide)))⟩, ⟨let2_under HB.out HL4.out hwR hgt⟩⟩
          case measure => simp [intOf]
        | 2, _ =>
          obtain ⟨hi, hv⟩ := HD.out
          have m2 := (HKy.out.below HB.out).int 2 (by decide)
          have HX := Lib.hid (key_end w1.heap.size gl cl gv cv gp cp gt ct (.slice (some ⟨ge, 0, none⟩) 1 ce) 2 0 ⟨#[]⟩ wr hi hv (HLc.out.below HB.out))
          clear hi hv HD
          go_wp2_with (go_at_call 42; refine HX.out.mono ?_; rintro e w4 ⟨gv', cv', rfl, h1, h2, h3, h4⟩; have HH := Aside0.mk (And.intro h1 (And.intro h2 (And.intro h3 h4))); clear h1 h2 h3 h4)
          go_roundw
          case rel => exact ⟨3, by go_num, ⟨by omega⟩, ⟨gv', cv', Nat.le_trans HB.out.size HH.out.1, HH.out.2.1, HH.out.2.2.1⟩, ⟨Below.grown HB.out HH.out.2.2.2 HB.out.size (fun j hj => by cases hj; exact hwR)⟩⟩
          case measure => simp [intOf]
        | 3, _ =>
          obtain ⟨gv', cv', hgv', hrd, hval⟩ := HD.out
          have HNO := Lib.hid (now_off w1.heap.size gl cl gv' cv' ⟨#[57, 57, 57]⟩ (.slice (some ⟨gp, 0, none⟩) 3 cp) (.slice (some ⟨gt, 0, none⟩) 3 ct) 2 false (.slice (some ⟨ge, 0, none⟩) 1 ce) false 2 120 ⟨#[]⟩ wr.drew hrd.drew hval.drew)
          have r2 := hrd.cell 2 (by simp [rdCells])
          have r8 := hrd.cell 8 (by simp [rdCells])
          have r9 := hrd.cell 9 (by simp [rdCells])
          simp only [rdCells, List.getElem?_cons_succ, List.getElem?_cons_zero] at r2 r8 r9
          have hRl := hrd.lt
          clear hrd hval HD
          go_wp2
          go_region_held3 (fun w' => w'.cell? ⟨w1.heap.size, 2, none⟩ = some (.int .i64 (-1)) ∧ w'.cell? ⟨w1.heap.size, 8, none⟩ = some (.slice (some ⟨ge, 0, none⟩) 1 ce) ∧ w'.cell? ⟨w1.heap.size, 9, none⟩ = some (.bool false)) (go_keep)
            (first | (go_at_call 43; refine HNO.out.mono ?_; rintro e w5 ⟨g5, c5, rfl, hg, hbf, hb⟩; have HO5 := Aside0.mk (And.intro hbf hb); have f2 := (hb.cell (p := ⟨w1.heap.size, 2, none⟩) hRl).trans r2; have f8 := (hb.cell (p := ⟨w1.heap.size, 8, none⟩) hRl).trans r8; have f9 := (hb.cell (p := ⟨w1.heap.size, 9, none⟩) hRl).trans r9; clear hg hbf hb))
          all_goals
            have HB7 := Aside0.mk (HO5.out.2)
            clear f2 f8 f9 r2 r8 r9 hRl
            try go_wp2
            refine bodyPost_ret (results_tmp5 rfl _ _ _) rfl ?_
            exact ⟨g5, c5, _, rfl, HO5.out.1, nx HB.out (below_undrew HO5.out.2)⟩
end Go.Proofs.YtnkkccafdbaoeaaGreatDoor.H

/- The program shows what the document gives: the law's own example is true. -/
namespace Go.Proofs.YtnkkccafdbaoeaaGreatDoor.H
open Go.RowKit Go.Proofs.YtnkkccafdbaoeaaGreatDoorW.PrintWords Go.Proofs.YtnkkccafdbaoeaaGreatDoorW.PrintLast Go.Proofs.YtnkkccafdbaoeaaGreatDoorW.PrintMore
set_option linter.unusedVariables false
set_option linter.unusedSimpArgs false

set_option maxHeartbeats 1000000 in
theorem text_call (s : ByteArray) (w : World) : Calls Tryz.prog 20 #[.string s] w (Ret w (vText s)) := by
  unfold vText
  go_enter Tryz.func20, Tryz.ntmps20
  go_wp2
  refine bodyPost_ret (results_cell_row rfl _ _ w.heap.size 44 _ (0, 0) _ rfl (new_at _ _) Tryz.underlying44 rfl (by kernel_rfl)) rfl ?_
  exact ⟨rfl, below_alloc (Below.refl _ _) _⟩
set_option maxHeartbeats 1000000 in
theorem num_call (n : Int) (w : World) : Calls Tryz.prog 22 #[.int .i64 n] w (Ret w (vNum n)) := by
  unfold vNum
  go_enter Tryz.func22, Tryz.ntmps22
  go_wp2
  refine bodyPost_ret (results_cell_row rfl _ _ w.heap.size 44 _ (0, 0) _ rfl (new_at _ _) Tryz.underlying44 rfl (by kernel_rfl)) rfl ?_
  exact ⟨rfl, below_alloc (Below.refl _ _) _⟩
set_option maxHeartbeats 4000000 in
set_option maxRecDepth 100000 in
theorem known_call (w : World) : Calls Tryz.prog 9 #[] w (Ret w (.bool true)) := by
  have HT := Lib.hid (text_call ⟨#[97, 98, 49]⟩)
  have HS := Lib.hid show_A
  have HN := Lib.hid (num_call 0)
  have HM := Lib.hid (num_call 120)
  have HR := Lib.hid read_N
  unfold vText at HT
  unfold vNum at HN HM
  unfold getA at HS
  go_enter Tryz.func9, Tryz.ntmps9
  go_wp2_with (first
    | (go_at_call 20; refine (HT.out _).mono ?_; rintro e w1 ⟨rfl, hb⟩; have HB1 := Aside0.mk hb; clear hb)
    | (go_at_call 19; refine (HS.out _).mono ?_; rintro e w2 ⟨rfl, hb⟩; have HB2 := Aside0.mk hb; clear hb)
    | (go_at_call 22; refine (HN.out _).mono ?_; clear HN; rintro e w3 ⟨rfl, hb⟩; have HB3 := Aside0.mk hb; clear hb)
    | (go_at_call 21; refine (HR.out _ _ _ _ _ ?hl ?hk).mono ?_; (case hl => exact (blk_new _ cellsN _ _).alloc _); (case hk => exact buf_new2 _ _ _ _); clear HR; rintro e w4 ⟨g, c, en, rfl, hbf, hb⟩; have HV4 := Aside0.mk hbf; have HB4 := Aside0.mk hb; clear hb hbf))
  have v0 := HV4.out.cell 0 (by simp)
  have v1 := HV4.out.cell 1 (by simp)
  have v2 := HV4.out.cell 2 (by simp)
  have hgl := HV4.out.lt
  go_region_held3 (fun w' => w'.cell? ⟨g, 0, none⟩ = some (.int .i64 2) ∧ w'.cell? ⟨g, 1, none⟩ = some (.int .i64 120) ∧ w'.cell? ⟨g, 2, none⟩ = some (.string ⟨#[]⟩)) (go_keep)
    (first | (go_at_call 22; refine (HM.out _).mono ?_; rintro e w5 ⟨rfl, hb⟩; have HB5 := Aside0.mk hb; have f0 := (hb.cell (p := ⟨g, 0, none⟩) hgl).trans v0; have f1 := (hb.cell (p := ⟨g, 1, none⟩) hgl).trans v1; have f2 := (hb.cell (p := ⟨g, 2, none⟩) hgl).trans v2; clear hb))
  all_goals
    clear f0 f1 f2 v0 v1 v2 hgl
    go_wp2
    go_ret
    exact ⟨rfl, nx (nx (below_alloc (below_alloc (nx (nx HB1.out HB2.out) HB3.out) _) _) HB4.out) (below_undrew HB5.out)⟩
end Go.Proofs.YtnkkccafdbaoeaaGreatDoor.H
