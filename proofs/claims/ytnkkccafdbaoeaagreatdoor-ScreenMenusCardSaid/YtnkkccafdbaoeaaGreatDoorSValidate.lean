/-
  Several steps of the proof in one text: SName, SGet, SValid, SCond, SValidate.
-/
import Derived.Test.YtnkkccafdbaoeaaGreatDoorSRFilled
import Derived.Test.YtnkkccafdbaoeaaGreatDoorSShelf
import Derived.Laws.Rows
import Derived.Carry
import Derived.StringKeys
import Derived.Maps.OwnOps
/- What the document gives of the screen (the law's own example): a name of one letter is a name; its values are values. -/
namespace Go.Proofs.YtnkkccafdbaoeaaGreatDoor.H
open Go.RowKit Go.Proofs.YtnkkccafdbaoeaaGreatDoorW.PrintWords Go.Proofs.YtnkkccafdbaoeaaGreatDoorW.PrintLast Go.Proofs.YtnkkccafdbaoeaaGreatDoorW.PrintMore
set_option linter.unusedVariables false
set_option linter.unusedSimpArgs false

/-- What a call gives that hands back a value alone. -/
def Ret (w : World) (v : Value) (e : Ending) (w' : World) : Prop := e = .returned v ∧ Below w.heap.size w w'
def cutset : ByteArray := ⟨#[65, 66, 67, 68, 69, 70, 71, 72, 73, 74, 75, 76, 77, 78, 79, 80, 81, 82, 83, 84, 85, 86, 87, 88, 89, 90, 48, 49, 50, 51, 52, 53, 54, 55, 56, 57, 95]⟩
theorem cutset_ascii : ∀ (j : Nat) b, cutset.data.toList[j]? = some b → b.toNat < 128 := ascii_of_all (by decide)
theorem trim_call (s : ByteArray) (w : World) (hs : s.size ≤ 9223372036854775807) : Calls Tryz.prog 95 #[.string s, .string cutset] w (Ret w (.string ⟨(Lib.trimS s.data.toList cutset.data.toList).toArray⟩)) :=
  Tryz.strings_Trim_ascii s cutset w hs (by decide) cutset_ascii
/-- A name of one capital. -/
def one (c : UInt8) : ByteArray := ⟨#[c]⟩
set_option maxHeartbeats 1000000 in
theorem isName_A (w : World) : Calls Tryz.prog 71 #[.string ⟨#[65]⟩] w (Ret w (.bool true)) := by
  have HT := Lib.hid (fun w => trim_call ⟨#[65]⟩ w (by decide))
  rw [show (⟨(Lib.trimS (⟨#[65]⟩ : ByteArray).data.toList cutset.data.toList).toArray⟩ : ByteArray) = ⟨#[]⟩ by decide +kernel] at HT
  go_enter Tryz.func71, Tryz.ntmps71
  go_wp2_with (go_at_call 95; refine (HT.out _).mono ?_; rintro e w1 ⟨rfl, hb⟩; have HB := Aside0.mk hb; clear hb)
  go_ret
  exact ⟨rfl, HB.out⟩
set_option maxHeartbeats 1000000 in
theorem isName_N (w : World) : Calls Tryz.prog 71 #[.string ⟨#[78]⟩] w (Ret w (.bool true)) := by
  have HT := Lib.hid (fun w => trim_call ⟨#[78]⟩ w (by decide))
  rw [show (⟨(Lib.trimS (⟨#[78]⟩ : ByteArray).data.toList cutset.data.toList).toArray⟩ : ByteArray) = ⟨#[]⟩ by decide +kernel] at HT
  go_enter Tryz.func71, Tryz.ntmps71
  go_wp2_with (go_at_call 95; refine (HT.out _).mono ?_; rintro e w1 ⟨rfl, hb⟩; have HB := Aside0.mk hb; clear hb)
  go_ret
  exact ⟨rfl, HB.out⟩

set_option maxHeartbeats 1000000 in
theorem isNum_zero (w : World) : Calls Tryz.prog 131 #[.int .i64 0] w (Ret w (.bool true)) := by
  go_enter Tryz.func131, Tryz.ntmps131
  go_wp2
  go_ret
  exact ⟨rfl, Below.refl _ _⟩
def vText (s : ByteArray) : Value := .agg #[.int .i64 4, .int .i64 0, .string s]
def vNum (n : Int) : Value := .agg #[.int .i64 2, .int .i64 n, .string ⟨#[]⟩]
set_option maxHeartbeats 1000000 in
theorem isValue_text (s : ByteArray) (w : World) : Calls Tryz.prog 96 #[vText s] w (Ret w (.bool true)) := by
  unfold vText
  go_enter Tryz.func96, Tryz.ntmps96
  go_wp2
  go_ret
  exact ⟨rfl, below_alloc (Below.refl _ _) _⟩
set_option maxHeartbeats 1000000 in
theorem isValue_zero (w : World) : Calls Tryz.prog 96 #[vNum 0] w (Ret w (.bool true)) := by
  have HN := Lib.hid isNum_zero
  unfold vNum
  go_enter Tryz.func96, Tryz.ntmps96
  go_wp2_with (go_at_call 131; refine (HN.out _).mono ?_; rintro e w1 ⟨rfl, hb⟩; have HB := Aside0.mk hb; clear hb)
  go_ret
  exact ⟨rfl, nx (below_alloc (Below.refl _ _) _) HB.out⟩
set_option maxHeartbeats 1000000 in
theorem vval_text (s : ByteArray) (w : World) (hs : s.size ≤ 2048) : Calls Tryz.prog 72 #[vText s] w (Ret w (.int .i64 0)) := by
  have HN := Lib.hid (isValue_text s)
  unfold vText at *
  have h : (s.size : Int) ≤ 2048 := by omega
  go_enter Tryz.func72, Tryz.ntmps72
  go_wp2_with (go_at_call 96; refine (HN.out _).mono ?_; rintro e w1 ⟨rfl, hb⟩; have HB := Aside0.mk hb; clear hb)
  go_ret
  exact ⟨rfl, nx (below_alloc (Below.refl _ _) _) HB.out⟩
set_option maxHeartbeats 1000000 in
theorem vval_zero (w : World) : Calls Tryz.prog 72 #[vNum 0] w (Ret w (.int .i64 0)) := by
  have HN := Lib.hid isValue_zero
  unfold vNum at *
  go_enter Tryz.func72, Tryz.ntmps72
  go_wp2_with (go_at_call 96; refine (HN.out _).mono ?_; rintro e w1 ⟨rfl, hb⟩; have HB := Aside0.mk hb; clear hb)
  go_ret
  exact ⟨rfl, nx (below_alloc (Below.refl _ _) _) HB.out⟩
end Go.Proofs.YtnkkccafdbaoeaaGreatDoor.H

/- The two gets of the document's example are gets. -/
namespace Go.Proofs.YtnkkccafdbaoeaaGreatDoor.H
open Go.RowKit Go.Proofs.YtnkkccafdbaoeaaGreatDoorW.PrintWords Go.Proofs.YtnkkccafdbaoeaaGreatDoorW.PrintLast Go.Proofs.YtnkkccafdbaoeaaGreatDoorW.PrintMore
set_option linter.unusedVariables false
set_option linter.unusedSimpArgs false

def picA : ByteArray := ⟨#[33, 33, 45, 57, 57]⟩
def picN : ByteArray := ⟨#[57, 57, 57]⟩
def getA : Value := .agg #[.string ⟨#[65]⟩, .string ⟨#[33, 33, 45, 57, 57]⟩, .string ⟨#[]⟩, .string ⟨#[]⟩, .int .i64 4, .int .i64 0, .string ⟨#[97, 98, 49]⟩]
def getN : Value := .agg #[.string ⟨#[78]⟩, .string ⟨#[57, 57, 57]⟩, .string ⟨#[]⟩, .string ⟨#[]⟩, .int .i64 2, .int .i64 0, .string ⟨#[]⟩]
/-- The cells of the second one. -/
def cellsA : Array Value := #[.string ⟨#[65]⟩, .string ⟨#[33, 33, 45, 57, 57]⟩, .string ⟨#[]⟩, .string ⟨#[]⟩, .int .i64 4, .int .i64 0, .string ⟨#[97, 98, 49]⟩]
def cellsN : Array Value := #[.string ⟨#[78]⟩, .string ⟨#[57, 57, 57]⟩, .string ⟨#[]⟩, .string ⟨#[]⟩, .int .i64 2, .int .i64 0, .string ⟨#[]⟩]
theorem places_A (w : World) : Calls Tryz.prog 46 #[.string ⟨#[33, 33, 45, 57, 57]⟩] w (OwnInts w [0, 1, 3, 4]) := by
  have h := places_call ⟨#[33, 33, 45, 57, 57]⟩ w (by decide)
  rwa [show placesL ⟨#[33, 33, 45, 57, 57]⟩ = [0, 1, 3, 4] by decide +kernel] at h
theorem places_N (w : World) : Calls Tryz.prog 46 #[.string ⟨#[57, 57, 57]⟩] w (OwnInts w [0, 1, 2]) := by
  have h := places_call ⟨#[57, 57, 57]⟩ w (by decide)
  rwa [show placesL ⟨#[57, 57, 57]⟩ = [0, 1, 2] by decide +kernel] at h
theorem isPicture_A (w : World) : Calls Tryz.prog 23 #[.string ⟨#[33, 33, 45, 57, 57]⟩] w (Ret w (.bool true)) := by
  have h := isPicture_call ⟨#[33, 33, 45, 57, 57]⟩ w
  rwa [show isPic ⟨#[33, 33, 45, 57, 57]⟩ = true by decide +kernel] at h
theorem isPicture_N (w : World) : Calls Tryz.prog 23 #[.string ⟨#[57, 57, 57]⟩] w (Ret w (.bool true)) := by
  have h := isPicture_call ⟨#[57, 57, 57]⟩ w
  rwa [show isPic ⟨#[57, 57, 57]⟩ = true by decide +kernel] at h

/-- Block g holds these cells. -/
def Blk (w : World) (g : Nat) (cs : Array Value) : Prop := ∃ t fr, w.heap[g]? = some (.cells cs t fr)
theorem Blk.lt {w : World} {g : Nat} {cs : Array Value} (h : Blk w g cs) : g < w.heap.size := by
  obtain ⟨t, fr, h⟩ := h; exact blkl h
theorem Blk.cell {w : World} {g : Nat} {cs : Array Value} (h : Blk w g cs) (j : Nat) : w.cell? ⟨g, j, none⟩ = cs[j]? := by
  obtain ⟨t, fr, h⟩ := h; exact cell_of_row w g j cs t fr h
theorem Blk.keep {w w' : World} {g : Nat} {cs : Array Value} (h : Blk w g cs) (hk : w'.heap[g]? = w.heap[g]?) : Blk w' g cs := by
  obtain ⟨t, fr, h⟩ := h; exact ⟨t, fr, hk.trans h⟩
theorem Blk.below {w w' : World} {g : Nat} {cs : Array Value} (h : Blk w g cs) (hb : Below w.heap.size w w') : Blk w' g cs := h.keep (hb.block g h.lt)
theorem Blk.alloc {w : World} {g : Nat} {cs : Array Value} (h : Blk w g cs) (o : Obj) : Blk (w.alloc o) g cs := h.keep (Below.heap_alloc w o g h.lt)
theorem Blk.drewN {w : World} {g : Nat} {cs : Array Value} (h : Blk w g cs) (n : Nat) : Blk (w.drewN n) g cs := h.keep rfl
theorem blk_new (w : World) (cs : Array Value) (t : TypeId) (fr : Nat × Nat) : Blk (w.alloc (.cells cs t fr)) w.heap.size cs := ⟨t, fr, by show (w.heap.push _)[w.heap.size]? = _; exact Array.getElem?_push_size⟩

set_option maxHeartbeats 1000000 in
theorem isGet_A (w : World) : Calls Tryz.prog 57 #[getA] w (Ret w (.bool true)) := by
  have HP := Lib.hid places_A
  have HI := Lib.hid isPicture_A
  have HN := Lib.hid isName_A
  have HV := Lib.hid (fun w => vval_text ⟨#[97, 98, 49]⟩ w (by decide))
  have HK0 := Aside0.mk (blk_new w cellsA 47 (0, 0))
  unfold vText at HV
  unfold getA
  unfold cellsA at HK0
  go_enter Tryz.func57, Tryz.ntmps57
  go_wp2_with (first
    | (go_at_call 46; refine (HP.out _).mono ?_; rintro e w1 ⟨v, rfl, ho, hb⟩; obtain ⟨g, cap, rfl⟩ := own_form ho (by decide); have HB1 := Aside0.mk hb; have HK1 := Aside0.mk (HK0.out.below hb); clear hb ho; have c1 := HK1.out.cell 0)
    | (go_at_call 71; refine (HN.out _).mono ?_; rintro e w2 ⟨rfl, hb⟩; have HB2 := Aside0.mk hb; have HK2 := Aside0.mk (HK1.out.below hb); clear hb c1; have c2 := HK2.out.cell 1)
    | (go_at_call 23; refine (HI.out _).mono ?_; rintro e w3 ⟨rfl, hb⟩; have HB3 := Aside0.mk hb; have HK3 := Aside0.mk (HK2.out.below hb); clear hb c2; have c3 := HK3.out.cell 4; have c4 := HK3.out.cell 5; have c5 := HK3.out.cell 6)
    | (go_at_call 72; refine (HV.out _).mono ?_; rintro e w4 ⟨rfl, hb⟩; have HB4 := Aside0.mk hb; have HK4 := Aside0.mk (HK3.out.below hb); clear hb c3 c4 c5; have c6 := HK4.out.cell 4))
  go_ret
  exact ⟨rfl, nx (nx (nx (nx (below_alloc (Below.refl _ _) _) HB1.out) HB2.out) HB3.out) HB4.out⟩

set_option maxHeartbeats 1000000 in
theorem pic9_call (i : Nat) (hi : i < 3) (B : Nat) (w : World) (hc : w.cell? ⟨B, 1, none⟩ = some (.string ⟨#[57, 57, 57]⟩)) :
    Calls Tryz.prog 74 #[.int .i64 i, .pointer (some ⟨B, 0, none⟩)] w fun e w' => e = .returned (.bool false) ∧ w' = w := by
  match i, hi with
  | 0, _ =>
    go_enter Tryz.func74, Tryz.ntmps74
    go_wp2
    go_ret
    exact ⟨rfl, rfl⟩
  | 1, _ =>
    go_enter Tryz.func74, Tryz.ntmps74
    go_wp2
    go_ret
    exact ⟨rfl, rfl⟩
  | 2, _ =>
    go_enter Tryz.func74, Tryz.ntmps74
    go_wp2
    go_ret
    exact ⟨rfl, rfl⟩
end Go.Proofs.YtnkkccafdbaoeaaGreatDoor.H

/- Each of the two gets of the document's example is a list of gets that is right. -/
namespace Go.Proofs.YtnkkccafdbaoeaaGreatDoor.H
open Go.RowKit Go.Proofs.YtnkkccafdbaoeaaGreatDoorW.PrintWords Go.Proofs.YtnkkccafdbaoeaaGreatDoorW.PrintLast Go.Proofs.YtnkkccafdbaoeaaGreatDoorW.PrintMore
set_option linter.unusedVariables false
set_option linter.unusedSimpArgs false

set_option maxHeartbeats 1000000 in
theorem idx9_call (g cap B : Nat) (w : World) (hb : Buf w g 3 (nums .i64 [0, 1, 2])) (hc : w.cell? ⟨B, 1, none⟩ = some (.string ⟨#[57, 57, 57]⟩)) :
    Calls Tryz.prog 97 #[.slice (some ⟨g, 0, none⟩) 3 cap, .func (.func 74) #[] #[.pointer (some ⟨B, 0, none⟩)]] w fun e w' => e = .returned (.int .i64 (-1)) ∧ w' = w := by
  have HP := Lib.hid (fun k hk => pic9_call k hk B w hc)
  have HBuf := Aside0.mk hb
  clear hb hc
  go_enter Tryz.func97, Tryz.ntmps97
  go_wp2
  go_loopw [8] (fun i wr => ∃ k : Nat, i = .int .i64 k ∧ Aside0 (k ≤ 3) ∧ Aside0 (wr = w)) (fun i _ => 3 - (intOf i).toNat)
  case atStart => exact ⟨0, rfl, ⟨by omega⟩, ⟨rfl⟩⟩
  case round =>
    obtain ⟨k, rfl, HK, HW⟩ := hrel
    have hwr := HW.out
    subst hwr
    have hk := HK.out
    by_cases hlt : k < 3
    · have hcell := HBuf.out.int k (by simpa using hlt)
      rw [show ([0, 1, 2] : List Int).getD k 0 = k by match k, hlt with | 0, _ => rfl | 1, _ => rfl | 2, _ => rfl] at hcell
      have HX := Lib.hid (HP.out k hlt)
      go_wp2_with (go_at_call 74; refine HX.out.mono ?_; rintro e w2 ⟨rfl, rfl⟩)
      go_roundw
      case rel => exact ⟨k + 1, by go_num, ⟨by omega⟩, ⟨by first | rfl | trivial⟩⟩
      case measure => simp [intOf]; omega
    · go_wp2
      go_ret
      exact ⟨rfl, rfl⟩
set_option maxHeartbeats 1000000 in
theorem all9_call (g cap B : Nat) (w : World) (hb : Buf w g 3 (nums .i64 [0, 1, 2])) (hc : w.cell? ⟨B, 1, none⟩ = some (.string ⟨#[57, 57, 57]⟩)) :
    Calls Tryz.prog 73 #[.slice (some ⟨g, 0, none⟩) 3 cap, .func (.func 74) #[] #[.pointer (some ⟨B, 0, none⟩)]] w fun e w' => e = .returned (.bool false) ∧ w' = w := by
  have H := Lib.hid (idx9_call g cap B w hb hc)
  clear hb hc
  go_enter Tryz.func73, Tryz.ntmps73
  go_wp2_with (go_at_call 97; refine H.out.mono ?_; rintro e w2 ⟨rfl, rfl⟩)
  go_ret
  exact ⟨rfl, rfl⟩
theorem own_buf' {w : World} {B n g c : Nat} {e : TypeId} {xs : List Value} (h : w.ownsRow B e 1 (.slice (some ⟨g, 0, none⟩) n c) n xs) (hn : 0 < n) : Buf w g e xs := by
  obtain ⟨g', e1, _, hb⟩ := own_buf h hn
  have e2 : g = g' := by injection e1 with h1; injection h1
  rw [e2]; exact hb
set_option maxHeartbeats 1000000 in
theorem isGet_N (w : World) : Calls Tryz.prog 57 #[getN] w (Ret w (.bool true)) := by
  have HP := Lib.hid places_N
  have HI := Lib.hid isPicture_N
  have HN := Lib.hid isName_N
  have HV := Lib.hid vval_zero
  have HA := Lib.hid all9_call
  have HK0 := Aside0.mk (blk_new w cellsN 47 (0, 0))
  unfold vNum at HV
  unfold getN
  unfold cellsN at HK0
  go_enter Tryz.func57, Tryz.ntmps57
  go_wp2_with (first
    | (go_at_call 46; refine (HP.out _).mono ?_; rintro e w1 ⟨v, rfl, ho, hb⟩; obtain ⟨g, cap, rfl⟩ := own_form ho (by decide); have HB1 := Aside0.mk hb; have HO1 := Aside0.mk ho; have HK1 := Aside0.mk (HK0.out.below hb); clear hb ho; have c1 := HK1.out.cell 0)
    | (go_at_call 71; refine (HN.out _).mono ?_; rintro e w2 ⟨rfl, hb⟩; have HB2 := Aside0.mk hb; have HO2 := Aside0.mk (own_below HO1.out hb); have HK2 := Aside0.mk (HK1.out.below hb); clear hb c1; have c2 := HK2.out.cell 1)
    | (go_at_call 23; refine (HI.out _).mono ?_; rintro e w3 ⟨rfl, hb⟩; have HB3 := Aside0.mk hb; have HO3 := Aside0.mk (own_below HO2.out hb); have HK3 := Aside0.mk (HK2.out.below hb); clear hb c2; have c3 := HK3.out.cell 4; have c4 := HK3.out.cell 5; have c5 := HK3.out.cell 6)
    | (go_at_call 72; refine (HV.out _).mono ?_; rintro e w4 ⟨rfl, hb⟩; have HB4 := Aside0.mk hb; have HO4 := Aside0.mk (own_below HO3.out hb); have HK4 := Aside0.mk (HK3.out.below hb); clear hb c3 c4 c5; have c6 := HK4.out.cell 4)
    | (go_at_call 73; refine (HA.out _ _ _ _ (own_buf' HO4.out (by decide)) (HK4.out.cell 1)).mono ?_; rintro e w5 ⟨rfl, rfl⟩))
  go_ret
  exact ⟨rfl, nx (nx (nx (nx (below_alloc (Below.refl _ _) _) HB1.out) HB2.out) HB3.out) HB4.out⟩

theorem run_max5 (w : World) (a b c d e m : Int) (h : (if e > (if d > (if c > (if b > a then b else a) then c else (if b > a then b else a)) then d else (if c > (if b > a then b else a) then c else (if b > a then b else a))) then e else (if d > (if c > (if b > a then b else a) then c else (if b > a then b else a)) then d else (if c > (if b > a then b else a) then c else (if b > a then b else a)))) = m) :
    (Builtin.max_ #[3, 3, 3, 3, 3] 3 #[.int .i64 a, .int .i64 b, .int .i64 c, .int .i64 d, .int .i64 e]).run Tryz.prog w = .ok (.int .i64 m) w := by
  subst h
  simp [Builtin.max_, Builtin.max2]
set_option maxHeartbeats 1000000 in
theorem long_A (w : World) : Calls Tryz.prog 54 #[getA] w (Ret w (.bool false)) := by
  unfold getA
  have hmx := fun w => run_max5 w 1 5 0 0 3 5 (by decide)
  go_enter Tryz.func54, Tryz.ntmps54
  go_wp2
  go_ret
  exact ⟨rfl, below_alloc (Below.refl _ _) _⟩
set_option maxHeartbeats 1000000 in
theorem long_N (w : World) : Calls Tryz.prog 54 #[getN] w (Ret w (.bool false)) := by
  unfold getN
  have hmx := fun w => run_max5 w 1 3 0 0 0 3 (by decide)
  go_enter Tryz.func54, Tryz.ntmps54
  go_wp2
  go_ret
  exact ⟨rfl, below_alloc (Below.refl _ _) _⟩
set_option maxHeartbeats 1000000 in
theorem bad_A (w : World) : Calls Tryz.prog 56 #[getA] w (Ret w (.bool false)) := by
  have H := Lib.hid isGet_A
  unfold getA at *
  go_enter Tryz.func56, Tryz.ntmps56
  go_wp2_with (go_at_call 57; refine (H.out _).mono ?_; rintro e w1 ⟨rfl, hb⟩; have HB := Aside0.mk hb; clear hb)
  go_ret
  exact ⟨rfl, nx (below_alloc (Below.refl _ _) _) HB.out⟩
set_option maxHeartbeats 1000000 in
theorem bad_N (w : World) : Calls Tryz.prog 56 #[getN] w (Ret w (.bool false)) := by
  have H := Lib.hid isGet_N
  unfold getN at *
  go_enter Tryz.func56, Tryz.ntmps56
  go_wp2_with (go_at_call 57; refine (H.out _).mono ?_; rintro e w1 ⟨rfl, hb⟩; have HB := Aside0.mk hb; clear hb)
  go_ret
  exact ⟨rfl, nx (below_alloc (Below.refl _ _) _) HB.out⟩
end Go.Proofs.YtnkkccafdbaoeaaGreatDoor.H

/- Each of the two gets of the document's example, alone in a list, is right: the walk of Validate. -/
namespace Go.Proofs.YtnkkccafdbaoeaaGreatDoor.H
open Go.RowKit Go.Proofs.YtnkkccafdbaoeaaGreatDoorW.PrintWords Go.Proofs.YtnkkccafdbaoeaaGreatDoorW.PrintLast Go.Proofs.YtnkkccafdbaoeaaGreatDoorW.PrintMore
set_option linter.unusedVariables false
set_option linter.unusedSimpArgs false

theorem results_row_tmp {P : Program} {fn : Func} {p u : Tmp} {ty : TypeId} (h : fn.results = #[.cell p ty, .tmp u]) (tmps : Array Value) (w : World) (g : Nat) (t : TypeId) (cs : Array Value) (fr : Nat × Nat) (d : TypeDesc)
    (hp : tmps.getD p undef = .pointer (some ⟨g, 0, none⟩)) (hg : w.heap[g]? = some (.cells cs t fr))
    (hu : P.underlying ty = some d) (hd : (match d with | .struct _ | .array _ _ => true | _ => false) = true) (hi : (P.info? ty).map (·.size) = some cs.size) :
    (results fn tmps).run P w = .ok (.tuple #[.agg cs, tmps.getD u undef]) w := by
  have hp' : tmps[p]?.getD undef = .pointer (some ⟨g, 0, none⟩) := by simpa using hp
  simp [results, h, hp', asAddr, run_loadVar_row w g t ty cs fr d hg hu hd hi]
theorem new_at (w : World) (o : Obj) : (w.alloc o).heap[w.heap.size]? = some o := by
  show (w.heap.push o)[w.heap.size]? = some o
  exact Array.getElem?_push_size
/-- The expression that is always true. -/
def exprTrue : Value := .agg #[.int .i64 0, .string ⟨#[]⟩, .int .i64 1, .int .i64 1, .string ⟨#[]⟩, .slice none 0 0, .slice none 0 0]
set_option maxHeartbeats 1000000 in
theorem condition_call (w : World) : Calls Tryz.prog 58 #[.string ⟨#[]⟩] w (Ret w (.tuple #[exprTrue, .bool true])) := by
  go_enter Tryz.func58, Tryz.ntmps58
  go_wp2
  refine bodyPost_ret (results_row_tmp rfl _ _ w.heap.size 90 _ (0, 0) _ rfl (new_at _ _) Tryz.underlying90 rfl (by kernel_rfl)) rfl ?_
  exact ⟨rfl, below_alloc (Below.refl _ _) _⟩

set_option maxHeartbeats 1000000 in
theorem idx_long_A (g cap : Nat) (w : World) (hb : Blk w g cellsA) : Calls Tryz.prog 70 #[.slice (some ⟨g, 0, none⟩) 1 cap, .func (.func 54) #[] #[]] w (Ret w (.int .i64 (-1))) := by
  have HX := Lib.hid long_A
  have HK := Aside0.mk hb
  clear hb
  unfold cellsA at HK
  unfold getA at HX
  go_enter Tryz.func70, Tryz.ntmps70
  go_wp2
  go_loopw [8] (fun i wr => ∃ k : Nat, i = .int .i64 k ∧ Aside0 (k ≤ 1) ∧ Aside0 (Below w.heap.size w wr)) (fun i _ => 1 - (intOf i).toNat)
  case atStart => exact ⟨0, rfl, ⟨by omega⟩, ⟨Below.refl _ _⟩⟩
  case round =>
    obtain ⟨k, rfl, HL, HB⟩ := hrel
    have hk := HL.out
    by_cases hlt : k < 1
    · obtain rfl : k = 0 := by omega
      have HKr := HK.out.below HB.out
      have c0 := HKr.cell 0
      have c1 := HKr.cell 1
      have c2 := HKr.cell 2
      have c3 := HKr.cell 3
      have c4 := HKr.cell 4
      have c5 := HKr.cell 5
      have c6 := HKr.cell 6
      clear HKr
      go_wp2_with (go_at_call 54; refine (HX.out _).mono ?_; rintro e w2 ⟨rfl, hb2⟩; have HB2 := Aside0.mk hb2; clear hb2)
      go_roundw
      case rel => exact ⟨1, by go_num, ⟨by omega⟩, ⟨nx HB.out HB2.out⟩⟩
      case measure => simp [intOf]
    · obtain rfl : k = 1 := by omega
      go_wp2
      go_ret
      exact ⟨rfl, HB.out⟩
set_option maxHeartbeats 1000000 in
theorem any_long_A (g cap : Nat) (w : World) (hb : Blk w g cellsA) : Calls Tryz.prog 55 #[.slice (some ⟨g, 0, none⟩) 1 cap, .func (.func 54) #[] #[]] w (Ret w (.bool false)) := by
  have H := Lib.hid (idx_long_A g cap w hb)
  clear hb
  go_enter Tryz.func55, Tryz.ntmps55
  go_wp2_with (go_at_call 70; refine H.out.mono ?_; rintro e w2 ⟨rfl, hb⟩; have HB := Aside0.mk hb; clear hb)
  go_ret
  exact ⟨rfl, HB.out⟩

set_option maxHeartbeats 1000000 in
theorem idx_bad_A (g cap : Nat) (w : World) (hb : Blk w g cellsA) : Calls Tryz.prog 70 #[.slice (some ⟨g, 0, none⟩) 1 cap, .func (.func 56) #[] #[]] w (Ret w (.int .i64 (-1))) := by
  have HX := Lib.hid bad_A
  have HK := Aside0.mk hb
  clear hb
  unfold cellsA at HK
  unfold getA at HX
  go_enter Tryz.func70, Tryz.ntmps70
  go_wp2
  go_loopw [8] (fun i wr => ∃ k : Nat, i = .int .i64 k ∧ Aside0 (k ≤ 1) ∧ Aside0 (Below w.heap.size w wr)) (fun i _ => 1 - (intOf i).toNat)
  case atStart => exact ⟨0, rfl, ⟨by omega⟩, ⟨Below.refl _ _⟩⟩
  case round =>
    obtain ⟨k, rfl, HL, HB⟩ := hrel
    have hk := HL.out
    by_cases hlt : k < 1
    · obtain rfl : k = 0 := by omega
      have HKr := HK.out.below HB.out
      have c0 := HKr.cell 0
      have c1 := HKr.cell 1
      have c2 := HKr.cell 2
      have c3 := HKr.cell 3
      have c4 := HKr.cell 4
      have c5 := HKr.cell 5
      have c6 := HKr.cell 6
      clear HKr
      go_wp2_with (go_at_call 56; refine (HX.out _).mono ?_; rintro e w2 ⟨rfl, hb2⟩; have HB2 := Aside0.mk hb2; clear hb2)
      go_roundw
      case rel => exact ⟨1, by go_num, ⟨by omega⟩, ⟨nx HB.out HB2.out⟩⟩
      case measure => simp [intOf]
    · obtain rfl : k = 1 := by omega
      go_wp2
      go_ret
      exact ⟨rfl, HB.out⟩
set_option maxHeartbeats 1000000 in
theorem any_bad_A (g cap : Nat) (w : World) (hb : Blk w g cellsA) : Calls Tryz.prog 55 #[.slice (some ⟨g, 0, none⟩) 1 cap, .func (.func 56) #[] #[]] w (Ret w (.bool false)) := by
  have H := Lib.hid (idx_bad_A g cap w hb)
  clear hb
  go_enter Tryz.func55, Tryz.ntmps55
  go_wp2_with (go_at_call 70; refine H.out.mono ?_; rintro e w2 ⟨rfl, hb⟩; have HB := Aside0.mk hb; clear hb)
  go_ret
  exact ⟨rfl, HB.out⟩

set_option maxHeartbeats 1000000 in
theorem idx_long_N (g cap : Nat) (w : World) (hb : Blk w g cellsN) : Calls Tryz.prog 70 #[.slice (some ⟨g, 0, none⟩) 1 cap, .func (.func 54) #[] #[]] w (Ret w (.int .i64 (-1))) := by
  have HX := Lib.hid long_N
  have HK := Aside0.mk hb
  clear hb
  unfold cellsN at HK
  unfold getN at HX
  go_enter Tryz.func70, Tryz.ntmps70
  go_wp2
  go_loopw [8] (fun i wr => ∃ k : Nat, i = .int .i64 k ∧ Aside0 (k ≤ 1) ∧ Aside0 (Below w.heap.size w wr)) (fun i _ => 1 - (intOf i).toNat)
  case atStart => exact ⟨0, rfl, ⟨by omega⟩, ⟨Below.refl _ _⟩⟩
  case round =>
    obtain ⟨k, rfl, HL, HB⟩ := hrel
    have hk := HL.out
    by_cases hlt : k < 1
    · obtain rfl : k = 0 := by omega
      have HKr := HK.out.below HB.out
      have c0 := HKr.cell 0
      have c1 := HKr.cell 1
      have c2 := HKr.cell 2
      have c3 := HKr.cell 3
      have c4 := HKr.cell 4
      have c5 := HKr.cell 5
      have c6 := HKr.cell 6
      clear HKr
      go_wp2_with (go_at_call 54; refine (HX.out _).mono ?_; rintro e w2 ⟨rfl, hb2⟩; have HB2 := Aside0.mk hb2; clear hb2)
      go_roundw
      case rel => exact ⟨1, by go_num, ⟨by omega⟩, ⟨nx HB.out HB2.out⟩⟩
      case measure => simp [intOf]
    · obtain rfl : k = 1 := by omega
      go_wp2
      go_ret
      exact ⟨rfl, HB.out⟩
set_option maxHeartbeats 1000000 in
theorem any_long_N (g cap : Nat) (w : World) (hb : Blk w g cellsN) : Calls Tryz.prog 55 #[.slice (some ⟨g, 0, none⟩) 1 cap, .func (.func 54) #[] #[]] w (Ret w (.bool false)) := by
  have H := Lib.hid (idx_long_N g cap w hb)
  clear hb
  go_enter Tryz.func55, Tryz.ntmps55
  go_wp2_with (go_at_call 70; refine H.out.mono ?_; rintro e w2 ⟨rfl, hb⟩; have HB := Aside0.mk hb; clear hb)
  go_ret
  exact ⟨rfl, HB.out⟩

set_option maxHeartbeats 1000000 in
theorem idx_bad_N (g cap : Nat) (w : World) (hb : Blk w g cellsN) : Calls Tryz.prog 70 #[.slice (some ⟨g, 0, none⟩) 1 cap, .func (.func 56) #[] #[]] w (Ret w (.int .i64 (-1))) := by
  have HX := Lib.hid bad_N
  have HK := Aside0.mk hb
  clear hb
  unfold cellsN at HK
  unfold getN at HX
  go_enter Tryz.func70, Tryz.ntmps70
  go_wp2
  go_loopw [8] (fun i wr => ∃ k : Nat, i = .int .i64 k ∧ Aside0 (k ≤ 1) ∧ Aside0 (Below w.heap.size w wr)) (fun i _ => 1 - (intOf i).toNat)
  case atStart => exact ⟨0, rfl, ⟨by omega⟩, ⟨Below.refl _ _⟩⟩
  case round =>
    obtain ⟨k, rfl, HL, HB⟩ := hrel
    have hk := HL.out
    by_cases hlt : k < 1
    · obtain rfl : k = 0 := by omega
      have HKr := HK.out.below HB.out
      have c0 := HKr.cell 0
      have c1 := HKr.cell 1
      have c2 := HKr.cell 2
      have c3 := HKr.cell 3
      have c4 := HKr.cell 4
      have c5 := HKr.cell 5
      have c6 := HKr.cell 6
      clear HKr
      go_wp2_with (go_at_call 56; refine (HX.out _).mono ?_; rintro e w2 ⟨rfl, hb2⟩; have HB2 := Aside0.mk hb2; clear hb2)
      go_roundw
      case rel => exact ⟨1, by go_num, ⟨by omega⟩, ⟨nx HB.out HB2.out⟩⟩
      case measure => simp [intOf]
    · obtain rfl : k = 1 := by omega
      go_wp2
      go_ret
      exact ⟨rfl, HB.out⟩
set_option maxHeartbeats 1000000 in
theorem any_bad_N (g cap : Nat) (w : World) (hb : Blk w g cellsN) : Calls Tryz.prog 55 #[.slice (some ⟨g, 0, none⟩) 1 cap, .func (.func 56) #[] #[]] w (Ret w (.bool false)) := by
  have H := Lib.hid (idx_bad_N g cap w hb)
  clear hb
  go_enter Tryz.func55, Tryz.ntmps55
  go_wp2_with (go_at_call 70; refine H.out.mono ?_; rintro e w2 ⟨rfl, hb⟩; have HB := Aside0.mk hb; clear hb)
  go_ret
  exact ⟨rfl, HB.out⟩
end Go.Proofs.YtnkkccafdbaoeaaGreatDoor.H

/- Validate at each of the two gets of the document's example, alone in a list. -/
namespace Go.Proofs.YtnkkccafdbaoeaaGreatDoor.H
open Go.RowKit Go.Maps Go.WideMaps Go.Proofs.YtnkkccafdbaoeaaGreatDoorW.PrintWords Go.Proofs.YtnkkccafdbaoeaaGreatDoorW.PrintLast Go.Proofs.YtnkkccafdbaoeaaGreatDoorW.PrintMore
set_option linter.unusedVariables false
set_option linter.unusedSimpArgs false

theorem plain_bool_inv {P : Program} {e : TypeId} (he : P.underlying e = some .bool) {v : Value} {b : Bool} {ps : List MemPlace} (h : plainElem (H := Unit) P e v = some (.lit (.bool b), ps)) : v = .bool b := by
  unfold plainElem at h
  rw [he] at h
  cases v <;> simp at h
  rw [h.1]
/-- Block M is the empty map of what was seen. -/
def NoneSeen (w : World) (M : Nat) : Prop := w.ownsMap (H := Unit) Tryz.prog 9 (plainElem Tryz.prog 4) M 0 (.map [])
theorem NoneSeen.alloc {w : World} {M : Nat} (h : NoneSeen w M) (o : Obj) : NoneSeen (w.alloc o) M := World.ownsMap.alloc h o
theorem strlaw : Keyed Tryz.prog 9 := string_keyed Tryz.underlying9
theorem not_seen {w : World} {M : Nat} (h : NoneSeen w M) (s : ByteArray) (hs : s.size ≤ maxLen) : (Instr.lookup 87 (.map (some M)) (.string s) false).run Tryz.prog w = .ok (.bool false) w := by
  obtain ⟨v, ps, hrun, hv⟩ := World.ownsMap.lookup h strlaw Tryz.underlying87 (z := .bool false) (by kernel_rfl) (plainElem_bool Tryz.underlying4 false) (keyOf_string_mk Tryz.underlying9 hs)
  rw [hrun]
  have e : (DataW.map ([] : List (Lit × DataW Unit))).atKey (.string s.data.toList) (.lit (.bool false)) = .lit (.bool false) := rfl
  rw [e] at hv
  rw [plain_bool_inv Tryz.underlying4 hv]

set_option maxHeartbeats 2000000 in
set_option maxRecDepth 100000 in
theorem validate_A (g cap : Nat) (w : World) (hb : Blk w g cellsA) : Calls Tryz.prog 38 #[.slice (some ⟨g, 0, none⟩) 1 cap] w (Ret w (.int .i64 0)) := by
  have H1 := Lib.hid any_long_A
  have H2 := Lib.hid any_bad_A
  have HC := Lib.hid condition_call
  have HK := Aside0.mk hb
  have hmm := @run_makeMap Tryz.prog
  unfold exprTrue at HC
  clear hb
  go_enter Tryz.func38, Tryz.ntmps38
  go_wp2_with (first
    | (go_at_call 55; refine (H1.out _ _ _ HK.out).mono ?_; clear H1; rintro e w1 ⟨rfl, hb⟩; have HB1 := Aside0.mk hb; have HK1 := Aside0.mk (HK.out.below hb); clear hb)
    | (go_at_call 55; refine (H2.out _ _ _ HK1.out).mono ?_; clear H2; rintro e w2 ⟨rfl, hb⟩; have HB2 := Aside0.mk hb; have HK2 := Aside0.mk (HK1.out.below hb); clear hb))
  clear HK1 hmm HK2
  have hM : w.heap.size ≤ w2.heap.size := Nat.le_trans HB1.out.size HB2.out.size
  go_loopw [26] (fun i wr => ∃ k : Nat, i = .int .i64 k ∧ Aside0 (k ≤ 1) ∧ Aside0 (k = 0 → NoneSeen wr w2.heap.size) ∧ Aside0 (Below w.heap.size w wr)) (fun i _ => 1 - (intOf i).toNat)
  case atStart => exact ⟨0, rfl, ⟨by omega⟩, ⟨fun _ => World.ownsMap_made _ _ _ _⟩, ⟨below_alloc (nx HB1.out HB2.out) _⟩⟩
  case round =>
    obtain ⟨k, rfl, HL, HM, HB⟩ := hrel
    clear HB1 HB2
    have hk := HL.out
    by_cases hlt : k < 1
    · obtain rfl : k = 0 := by omega
      have HKr := HK.out.below HB.out
      unfold cellsA at HKr
      have c0 := HKr.cell 0
      have c1 := HKr.cell 1
      have c2 := HKr.cell 2
      have c3 := HKr.cell 3
      have c4 := HKr.cell 4
      have c5 := HKr.cell 5
      have c6 := HKr.cell 6
      clear HKr
      have HM1 := Aside0.mk (HM.out rfl)
      clear HM HC
      have hlk : ∀ o, (Instr.lookup 87 (.map (some w2.heap.size)) (.string ⟨#[65]⟩) false).run Tryz.prog (wr.alloc o) = .ok (.bool false) (wr.alloc o) := fun o => not_seen (HM1.out.alloc o) _ (by decide)
      go_wp2_with (at_mapUpdate; refine wpList_mapUpdate_own (H := Unit) _ rfl _ _ _ 87 rfl 9 4 strlaw Tryz.underlying87 (plainElem Tryz.prog 4) w2.heap.size 0 (.map []) rfl (HM1.out.alloc _) (by decide) _ _ _ rfl rfl (keyOf_string_mk Tryz.underlying9 (by decide)) _ [] (plainElem_bool Tryz.underlying4 true) ?_; intro w5 ho5 hg5; have HG := Aside0.mk hg5; clear ho5 hg5)
      go_roundw
      case rel => exact ⟨1, by go_num, ⟨by omega⟩, ⟨fun h => by omega⟩, ⟨(HB.out.alloc HB.out.size _).grown HG.out (Nat.le_trans HB.out.size (Nat.le_of_lt (by simp))) (fun j hj => by cases hj; exact hM)⟩⟩
      case measure => simp [intOf]
    · obtain rfl : k = 1 := by omega
      clear HM
      have HB0 := HB
      clear HB hlt hk HL
      go_wp2
      go_loopw [40] (fun i wr => ∃ k : Nat, i = .int .i64 k ∧ Aside0 (k ≤ 1) ∧ Aside0 (Below w.heap.size w wr)) (fun i _ => 1 - (intOf i).toNat)
      case atStart => exact ⟨0, rfl, ⟨by omega⟩, HB0⟩
      case round =>
        obtain ⟨k, rfl, HL, HB⟩ := hrel
        clear HB0
        have hk := HL.out
        by_cases hlt : k < 1
        · obtain rfl : k = 0 := by omega
          have HKr := HK.out.below HB.out
          unfold cellsA at HKr
          have c0 := HKr.cell 0
          have c1 := HKr.cell 1
          have c2 := HKr.cell 2
          have c3 := HKr.cell 3
          have c4 := HKr.cell 4
          have c5 := HKr.cell 5
          have c6 := HKr.cell 6
          clear HKr
          have HN0 := Aside0.mk (blk_new wr cellsA 47 (0, 0))
          unfold cellsA at HN0
          go_wp2_with (first
            | (go_at_call 58; refine (HC.out _).mono ?_; rintro e w6 ⟨rfl, hb⟩; have HB6 := Aside0.mk hb; have HN6 := Aside0.mk (HN0.out.below hb); clear hb HN0; have c7 : ∀ o, (w6.alloc o).cell? ⟨wr.heap.size, 3, none⟩ = some (.string ⟨#[]⟩) := fun o => (HN6.out.alloc o).cell 3)
            | (go_at_call 58; refine (HC.out _).mono ?_; rintro e w7 ⟨rfl, hb⟩; have HB7 := Aside0.mk hb; clear hb))
          go_roundw
          case rel => exact ⟨_, _, _, _, _, _, _, _, _, _, _, _, _, _, _, _, _, _, _, _, _, _, _, _, _, _, _, _, _, ⟨1, by go_num, ⟨by omega⟩, ⟨below_alloc (nx (below_alloc (nx (below_alloc HB.out _) HB6.out) _) HB7.out) _⟩⟩, rfl⟩
          case measure => simp [intOf]
        · obtain rfl : k = 1 := by omega
          go_wp2
          go_ret
          exact ⟨rfl, HB.out⟩

set_option maxHeartbeats 2000000 in
set_option maxRecDepth 100000 in
theorem validate_N (g cap : Nat) (w : World) (hb : Blk w g cellsN) : Calls Tryz.prog 38 #[.slice (some ⟨g, 0, none⟩) 1 cap] w (Ret w (.int .i64 0)) := by
  have H1 := Lib.hid any_long_N
  have H2 := Lib.hid any_bad_N
  have HC := Lib.hid condition_call
  have HK := Aside0.mk hb
  have hmm := @run_makeMap Tryz.prog
  unfold exprTrue at HC
  clear hb
  go_enter Tryz.func38, Tryz.ntmps38
  go_wp2_with (first
    | (go_at_call 55; refine (H1.out _ _ _ HK.out).mono ?_; clear H1; rintro e w1 ⟨rfl, hb⟩; have HB1 := Aside0.mk hb; have HK1 := Aside0.mk (HK.out.below hb); clear hb)
    | (go_at_call 55; refine (H2.out _ _ _ HK1.out).mono ?_; clear H2; rintro e w2 ⟨rfl, hb⟩; have HB2 := Aside0.mk hb; have HK2 := Aside0.mk (HK1.out.below hb); clear hb))
  clear HK1 hmm HK2
  have hM : w.heap.size ≤ w2.heap.size := Nat.le_trans HB1.out.size HB2.out.size
  go_loopw [26] (fun i wr => ∃ k : Nat, i = .int .i64 k ∧ Aside0 (k ≤ 1) ∧ Aside0 (k = 0 → NoneSeen wr w2.heap.size) ∧ Aside0 (Below w.heap.size w wr)) (fun i _ => 1 - (intOf i).toNat)
  case atStart => exact ⟨0, rfl, ⟨by omega⟩, ⟨fun _ => World.ownsMap_made _ _ _ _⟩, ⟨below_alloc (nx HB1.out HB2.out) _⟩⟩
  case round =>
    obtain ⟨k, rfl, HL, HM, HB⟩ := hrel
    clear HB1 HB2
    have hk := HL.out
    by_cases hlt : k < 1
    · obtain rfl : k = 0 := by omega
      have HKr := HK.out.below HB.out
      unfold cellsN at HKr
      have c0 := HKr.cell 0
      have c1 := HKr.cell 1
      have c2 := HKr.cell 2
      have c3 := HKr.cell 3
      have c4 := HKr.cell 4
      have c5 := HKr.cell 5
      have c6 := HKr.cell 6
      clear HKr
      have HM1 := Aside0.mk (HM.out rfl)
      clear HM HC
      have hlk : ∀ o, (Instr.lookup 87 (.map (some w2.heap.size)) (.string ⟨#[78]⟩) false).run Tryz.prog (wr.alloc o) = .ok (.bool false) (wr.alloc o) := fun o => not_seen (HM1.out.alloc o) _ (by decide)
      go_wp2_with (at_mapUpdate; refine wpList_mapUpdate_own (H := Unit) _ rfl _ _ _ 87 rfl 9 4 strlaw Tryz.underlying87 (plainElem Tryz.prog 4) w2.heap.size 0 (.map []) rfl (HM1.out.alloc _) (by decide) _ _ _ rfl rfl (keyOf_string_mk Tryz.underlying9 (by decide)) _ [] (plainElem_bool Tryz.underlying4 true) ?_; intro w5 ho5 hg5; have HG := Aside0.mk hg5; clear ho5 hg5)
      go_roundw
      case rel => exact ⟨1, by go_num, ⟨by omega⟩, ⟨fun h => by omega⟩, ⟨(HB.out.alloc HB.out.size _).grown HG.out (Nat.le_trans HB.out.size (Nat.le_of_lt (by simp))) (fun j hj => by cases hj; exact hM)⟩⟩
      case measure => simp [intOf]
    · obtain rfl : k = 1 := by omega
      clear HM
      have HB0 := HB
      clear HB hlt hk HL
      go_wp2
      go_loopw [40] (fun i wr => ∃ k : Nat, i = .int .i64 k ∧ Aside0 (k ≤ 1) ∧ Aside0 (Below w.heap.size w wr)) (fun i _ => 1 - (intOf i).toNat)
      case atStart => exact ⟨0, rfl, ⟨by omega⟩, HB0⟩
      case round =>
        obtain ⟨k, rfl, HL, HB⟩ := hrel
        clear HB0
        have hk := HL.out
        by_cases hlt : k < 1
        · obtain rfl : k = 0 := by omega
          have HKr := HK.out.below HB.out
          unfold cellsN at HKr
          have c0 := HKr.cell 0
          have c1 := HKr.cell 1
          have c2 := HKr.cell 2
          have c3 := HKr.cell 3
          have c4 := HKr.cell 4
          have c5 := HKr.cell 5
          have c6 := HKr.cell 6
          clear HKr
          have HN0 := Aside0.mk (blk_new wr cellsN 47 (0, 0))
          unfold cellsN at HN0
          go_wp2_with (first
            | (go_at_call 58; refine (HC.out _).mono ?_; rintro e w6 ⟨rfl, hb⟩; have HB6 := Aside0.mk hb; have HN6 := Aside0.mk (HN0.out.below hb); clear hb HN0; have c7 : ∀ o, (w6.alloc o).cell? ⟨wr.heap.size, 3, none⟩ = some (.string ⟨#[]⟩) := fun o => (HN6.out.alloc o).cell 3)
            | (go_at_call 58; refine (HC.out _).mono ?_; rintro e w7 ⟨rfl, hb⟩; have HB7 := Aside0.mk hb; clear hb))
          go_roundw
          case rel => exact ⟨_, _, _, _, _, _, _, _, _, _, _, _, _, _, _, _, _, _, _, _, _, _, _, _, _, _, _, _, _, ⟨1, by go_num, ⟨by omega⟩, ⟨below_alloc (nx (below_alloc (nx (below_alloc HB.out _) HB6.out) _) HB7.out) _⟩⟩, rfl⟩
          case measure => simp [intOf]
        · obtain rfl : k = 1 := by omega
          go_wp2
          go_ret
          exact ⟨rfl, HB.out⟩
end Go.Proofs.YtnkkccafdbaoeaaGreatDoor.H
