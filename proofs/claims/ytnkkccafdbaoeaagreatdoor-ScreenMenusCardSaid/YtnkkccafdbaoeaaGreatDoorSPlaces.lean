/-
  Several steps of the proof in one text: SBase, SPlaces.
-/
import Derived.Test.YtnkkccafdbaoeaaGreatDoorSTakes
import Derived.Lib.ConvBytes
import Derived.Test.YtnkkccafdbaoeaaGreatDoorSShelf
import Derived.StillTailTactics
import Derived.Deep.QuietTactic
import Derived.BigQuiet
/- Words for the walks over the screen: rows that a call owns beside blocks that stay; bytes of texts. -/
namespace Go.Proofs.YtnkkccafdbaoeaaGreatDoor.H
open Go.RowKit Go.Proofs.YtnkkccafdbaoeaaGreatDoorW.PrintWords Go.Proofs.YtnkkccafdbaoeaaGreatDoorW.PrintLast Go.Proofs.YtnkkccafdbaoeaaGreatDoorW.PrintMore
set_option linter.unusedVariables false
set_option linter.unusedSimpArgs false

theorem nx {w w1 w2 : World} (h : Below w.heap.size w w1) (k : Below w1.heap.size w1 w2) : Below w.heap.size w w2 := h.trans (k.mono h.size)
theorem blk2 {w : World} {b : Nat} {cs : Array Value} {t : TypeId} {fr : Nat × Nat} (h : w.heap[b]? = some (.cells cs t fr)) (j : Nat) : w.cell? ⟨b, j, none⟩ = cs[j]? := cell_of_row w b j cs t fr h
theorem blkf {w : World} {b : Nat} {cs : Array Value} {t : TypeId} (h : w.heap[b]? = some (.cells cs t (0, 0))) (j : Nat) : w.frozen? ⟨b, j, none⟩ = false := by simp [World.frozen?, h]
theorem blkl {w : World} {b : Nat} {o : Obj} (h : w.heap[b]? = some o) : b < w.heap.size := (Array.getElem?_eq_some_iff.1 h).1
/-- A row that is owned is no block that reads otherwise. -/
theorem own_ne {w : World} {B n g : Nat} {e : TypeId} {v : Value} {xs : List Value} {o : Obj} (h : w.ownsRow B e 1 v n xs) (hg : w.heap[g]? = some o) (ho : ∀ cur, o ≠ .cells cur e (0, 0)) : v.ownBlock ≠ some g := by
  obtain ⟨_, h⟩ := h
  rcases h with ⟨rfl, _⟩ | ⟨k, cap, cur, rfl, _, hk, _⟩
  · simp [Value.ownBlock]
  · intro e
    simp only [Value.ownBlock, Option.some.injEq] at e
    subst e
    rw [hg] at hk
    exact ho cur (Option.some.inj hk)
theorem own_setCell {w : World} {B n : Nat} {e : TypeId} {v : Value} {xs : List Value} (h : w.ownsRow B e 1 v n xs) {a : Addr} (ha : v.ownBlock ≠ some a.block) (u : Value) : (w.setCell a u).ownsRow B e 1 v n xs := by
  obtain ⟨h1, h2⟩ := h
  refine ⟨h1, ?_⟩
  rcases h2 with h2 | ⟨g, cap, cur, rfl, h3, h4, h5⟩
  · exact Or.inl h2
  · refine Or.inr ⟨g, cap, cur, rfl, h3, ?_, h5⟩
    rw [Below.heap_setCell w a u g (fun e => ha (by simp [Value.ownBlock, e])), h4]
theorem own_form {w : World} {B n : Nat} {e : TypeId} {v : Value} {xs : List Value} (h : w.ownsRow B e 1 v n xs) (hn : 0 < n) : ∃ g cap, v = .slice (some ⟨g, 0, none⟩) n cap := by
  rcases h.2 with ⟨_, h0⟩ | ⟨g, cap', cur, hv, _⟩
  · omega
  · exact ⟨g, cap', hv⟩
theorem own_below {w w' : World} {B n : Nat} {e : TypeId} {v : Value} {xs : List Value} (h : w.ownsRow B e 1 v n xs) (hb : Below w.heap.size w w') : w'.ownsRow B e 1 v n xs := by
  obtain ⟨h1, h2⟩ := h
  refine ⟨h1, ?_⟩
  rcases h2 with h2 | ⟨g, cap, cur, rfl, h3, h4, h5⟩
  · exact Or.inl h2
  · exact Or.inr ⟨g, cap, cur, rfl, h3, by rw [hb.block g (blkl h4), h4], h5⟩

theorem drawn_below {w w' : World} (h : Drawn0 w w') : Below w.heap.size w w' := by
  obtain ⟨n, rfl⟩ := h.out
  exact pw_below_drewN (Below.refl _ _) _
theorem bt_getD (s : ByteArray) (k : Nat) : bt s (k : Int) = (bytesOf s).getD k 0 := by
  rw [← rd_bytesOf]; simp [rd]
theorem getElem_bt (s : ByteArray) (k : Nat) (h : k < s.size) : ((s[k]'h).toNat : Int) = (bytesOf s).getD k 0 := by
  rw [← bt_getD, ← bt_at s k (by simpa using h)]
  simp
theorem bytes_take (s : ByteArray) (k : Nat) (hk : k < s.size) : (bytesOf s).take (k + 1) = (bytesOf s).take k ++ [(bytesOf s).getD k 0] := by
  have h : k < (bytesOf s).length := by rw [bytesOf_length]; exact hk
  rw [List.take_succ_eq_append_getElem h, List.getD_eq_getElem?_getD, List.getElem?_eq_getElem h]; rfl
theorem bytes_split (s : ByteArray) (k : Nat) (hk : k < s.size) : bytesOf s = (bytesOf s).take k ++ (bytesOf s).getD k 0 :: (bytesOf s).drop (k + 1) := by
  have h : k < (bytesOf s).length := by rw [bytesOf_length]; exact hk
  rw [List.getD_eq_getElem?_getD, List.getElem?_eq_getElem h, Option.getD_some, ← List.drop_eq_getElem_cons h, List.take_append_drop]
theorem bytes_all (s : ByteArray) : (bytesOf s).take s.size = bytesOf s := List.take_of_length_le (by rw [bytesOf_length]; exact Nat.le_refl _)
theorem byte_nat (s : ByteArray) (k : Nat) (hk : k < s.size) : ∃ B : Nat, (bytesOf s).getD k 0 = B ∧ B < 256 := by
  have h : k < (bytesOf s).length := by rw [bytesOf_length]; exact hk
  have hbr := bytesOf_range s ((bytesOf s).getD k 0) (by rw [List.getD_eq_getElem?_getD, List.getElem?_eq_getElem h]; simp)
  obtain ⟨B, hB⟩ : ∃ B : Nat, (bytesOf s).getD k 0 = B := Int.eq_ofNat_of_zero_le hbr.1
  exact ⟨B, hB, by omega⟩
theorem bytesO_other (w : World) (e : TypeId) (s : ByteArray) : ∃ o, (Lib.bytesWorld w e s).heap[w.heap.size]? = some o ∧ ∀ cur, o ≠ .cells cur e (0, 0) :=
  ⟨_, Lib.bytesWorld_at_new w e s, fun cur h => by simp at h⟩

end Go.Proofs.YtnkkccafdbaoeaaGreatDoor.H

/- The places of a picture, and a picture that is filled: the walks of the program's. -/
namespace Go.Proofs.YtnkkccafdbaoeaaGreatDoor.H
open Go.RowKit Go.Proofs.YtnkkccafdbaoeaaGreatDoorW.PrintWords Go.Proofs.YtnkkccafdbaoeaaGreatDoorW.PrintLast Go.Proofs.YtnkkccafdbaoeaaGreatDoorW.PrintMore
set_option linter.unusedVariables false
set_option linter.unusedSimpArgs false

def isPl (c : Int) : Bool := c == 57 || c == 65 || c == 78 || c == 88 || c == 33
theorem isPl_fin (c : Fin 256) : decide (0 ≤ Lib.indexByte [57, 65, 78, 88, 33] (UInt8.ofNat c.val)) = isPl (c.val : Int) := by
  revert c; decide +kernel
set_option maxHeartbeats 400000 in
theorem isPlace_call (c : Nat) (hc : c < 256) (w : World) : Calls Tryz.prog 68 #[.int .u8 c] w fun e w' => e = .returned (.bool (isPl c)) ∧ w' = w := by
  have H := Lib.hid (fun w => Tryz.strings_IndexByte ⟨#[57, 65, 78, 88, 33]⟩ c w)
  have h := isPl_fin ⟨c, hc⟩
  simp only [Int.toNat_natCast] at H
  rw [← h]
  have e : (c.toUInt8 : UInt8) = UInt8.ofNat c := rfl
  rw [e] at H
  simp only
  generalize Lib.indexByte [57, 65, 78, 88, 33] (UInt8.ofNat c) = r at H ⊢
  clear h e
  go_enter Tryz.func68, Tryz.ntmps68
  go_wp2_with (go_at_call 94; refine (H.out _).mono ?_; rintro e w1 ⟨rfl, rfl⟩)
  go_ret
  exact ⟨rfl, rfl⟩

/-- The places among the first k bytes. -/
def plc (xs : List Int) : Nat → List Int
  | 0 => []
  | k + 1 => plc xs k ++ if isPl (xs.getD k 0) = true then [(k : Int)] else []
theorem plc_len (xs : List Int) : ∀ k, (plc xs k).length ≤ k
  | 0 => Nat.le_refl _
  | k + 1 => by
    have := plc_len xs k
    unfold plc
    rw [List.length_append]
    split <;> simp <;> omega
theorem plc_range (xs : List Int) : ∀ k, ∀ p ∈ plc xs k, 0 ≤ p ∧ p < k
  | 0, p, h => by simp [plc] at h
  | k + 1, p, h => by
    unfold plc at h
    rcases List.mem_append.1 h with h | h
    · have := plc_range xs k p h; omega
    · split at h
      · simp at h; omega
      · simp at h
def placesL (s : ByteArray) : List Int := plc (bytesOf s) s.size
theorem info_int : (Tryz.prog.info? 3).map (fun i => (i.zero, i.size, i.bytes)) = some (some (.int .i64 0), 1, 8) := by kernel_rfl

theorem bytesO_other' (w : World) (s : ByteArray) : ∃ o, (Lib.bytesWorld w 5 s).heap[w.heap.size]? = some o ∧ ∀ cur, o ≠ .cells cur 3 (0, 0) :=
  ⟨_, Lib.bytesWorld_at_new w _ s, fun cur h => by simp at h⟩
/-- What a call gives that hands back a row of its own. -/
def OwnInts (w : World) (xs : List Int) (e : Ending) (w' : World) : Prop := ∃ v, e = .returned v ∧ w'.ownsRow w.heap.size 3 1 v xs.length (nums .i64 xs) ∧ Below w.heap.size w w'
set_option maxHeartbeats 1000000 in
theorem places_call (s : ByteArray) (w : World) (hs : s.size ≤ 16384) : Calls Tryz.prog 46 #[.string s] w (OwnInts w (placesL s)) := by
  have HL := Lib.hid (bytesOf_length s)
  have HP := Lib.hid isPlace_call
  have hcv := fun W => print_bytes (P := Tryz.prog) 9 73 5 Tryz.underlying9 Tryz.underlying73 Tryz.underlying5 s W
  go_enter Tryz.func46, Tryz.ntmps46
  go_wp2
  have HO6 := Aside0.mk (bytesO_other' w s)
  have HBuf6 := Aside0.mk (buf_bytesWorld w 5 s)
  have HB6 := Aside0.mk (bytes_below (Below.refl w.heap.size w) (Nat.le_refl _) 5 s)
  clear hcv
  generalize Lib.bytesWorld w 5 s = w6 at *
  go_loopw [3, 9] (fun v i wr => ∃ (k : Nat) (L : List Int), i = .int .i64 k ∧ Aside0 (k ≤ s.size ∧ L.length ≤ k) ∧ Aside0 (L = plc (bytesOf s) k) ∧ Aside0 (wr.ownsRow w.heap.size 3 1 v L.length (nums .i64 L)) ∧ Aside0 (wr.heap[w.heap.size]? = w6.heap[w.heap.size]?) ∧ Aside0 (Below w.heap.size w wr)) (fun _ i _ => s.size - (intOf i).toNat)
  case atStart => exact ⟨0, [], rfl, ⟨⟨by omega, by simp⟩⟩, ⟨rfl⟩, ⟨⟨rfl, Or.inl ⟨rfl, rfl⟩⟩⟩, ⟨rfl⟩, HB6⟩
  case round =>
    clear HB6
    obtain ⟨k, L, rfl, HK, HL1, HO, HR, HB⟩ := hrel
    have hk := HK.out.1
    have hln := HK.out.2
    obtain ⟨ao, cap, rfl⟩ := own_slice HO.out
    by_cases hlt : k < s.size
    · obtain ⟨B, hB, hB2⟩ := byte_nat s k hlt
      have hc := (HBuf6.out.keep HR.out).int k (by rw [HL.out]; exact hlt)
      rw [hB] at hc
      have HX := Lib.hid (HP.out B hB2)
      have HS : Aside0 (plc (bytesOf s) (k + 1) = L ++ if isPl B = true then [(k : Int)] else []) := ⟨by rw [HL1.out, ← hB]; rfl⟩
      clear hB HP
      generalize isPl (B : Int) = ok at HX HS
      cases ok
      · go_wp2_with (go_at_call 68; refine (HX.out _).mono ?_; rintro e w2 ⟨rfl, rfl⟩)
        go_roundw
        case rel => exact ⟨k + 1, L, by go_num, ⟨⟨by omega, by omega⟩⟩, ⟨by rw [HS.out]; simp⟩, HO, HR, HB⟩
        case measure => simp [intOf]; omega
      · go_wp2_with (first
          | (go_at_call 68; refine (HX.out _).mono ?_; rintro e w2 ⟨rfl, rfl⟩)
          | (at_builtin; (refine print_append_num (w0 := w) w.heap.size rfl (.tmp 16) (.tmp 18) 30 3 .i64 8 rfl Tryz.underlying30 info_int (by decide) _ L (k : Int) rfl rfl ?h1 ?h2 ?h3 ?h4 ?_); (case h1 => exact HO.out); (case h2 => exact HB.out); (case h3 => exact HB.out.size); (case h4 => omega); (intro v1 w8 ho hb hg hat); (have HV := Aside0.mk (And.intro ho (And.intro hb hg))); clear ho hb hg hat))
        go_roundw
        case rel =>
          obtain ⟨ho, hb, hgr⟩ := HV.out
          obtain ⟨o6, ho6, ho6n⟩ := HO6.out
          have hr0 := HR.out.trans ho6
          exact ⟨k + 1, L ++ [(k : Int)], by go_num, ⟨⟨by omega, by rw [List.length_append, List.length_singleton]; omega⟩⟩, ⟨by rw [HS.out]; simp⟩, ⟨ho⟩, ⟨(hgr.block _ (blkl hr0) (fun e => own_ne HO.out hr0 ho6n e.symm)).trans (hr0.trans ho6.symm)⟩, ⟨hb⟩⟩
        case measure => simp [intOf]; omega
    · have hke : k = s.size := by omega
      have HE : Aside0 (placesL s = L) := ⟨by rw [HL1.out, hke]; rfl⟩
      clear hke
      go_wp2
      go_ret
      exact ⟨_, rfl, by rw [HE.out]; exact HO.out, HB.out⟩

/-- What stands at a place: the byte that the place takes, else a blank. -/
def fillC (pic s : List Int) (i n : Nat) : Int := if n < s.length then (if (tkn (pic.getD i 0) (s.getD n 0)).2 = true then (tkn (pic.getD i 0) (s.getD n 0)).1 else 32) else 32
/-- The picture with the first k places filled. -/
def fillK (pic s pl : List Int) : Nat → List Int
  | 0 => pic
  | k + 1 => (fillK pic s pl k).set (pl.getD k 0).toNat (fillC pic s (pl.getD k 0).toNat k)
def filledL (s pic : ByteArray) : List Int := fillK (bytesOf pic) (bytesOf s) (placesL pic) (placesL pic).length
theorem fillK_len (pic s pl : List Int) : ∀ k, (fillK pic s pl k).length = pic.length
  | 0 => rfl
  | k + 1 => by rw [fillK, List.length_set, fillK_len pic s pl k]
theorem own_buf {w : World} {B n : Nat} {e : TypeId} {A : Option Addr} {c : Nat} {xs : List Value} (h : w.ownsRow B e 1 (.slice A n c) n xs) (hn : 0 < n) : ∃ g, A = some ⟨g, 0, none⟩ ∧ B ≤ g ∧ Buf w g e xs := by
  obtain ⟨h1, h2⟩ := h
  rcases h2 with ⟨_, h0⟩ | ⟨g, cap, cur, hv, hb, hg, hc1, hc2, hc3, hc4⟩
  · omega
  · injection hv with e1 e2 e3
    refine ⟨g, e1, hb, ⟨cur, 0, 0, hg, fun j hj => ?_, Or.inr (Nat.le_refl _)⟩⟩
    rw [← hc4, List.getElem?_take_of_lt (by omega), Array.getElem?_toList]
theorem buf_ne {w : World} {h B n : Nat} {e e2 : TypeId} {v : Value} {xs ys : List Value} (hb : Buf w h e ys) (ho : w.ownsRow B e2 1 v n xs) (he : e ≠ e2) : v.ownBlock ≠ some h := by
  obtain ⟨c, lo, hi, h1, _⟩ := hb.ex
  exact own_ne ho h1 (fun cur h => by injection h with h1 h2 h3; exact he h2)
theorem calls_draws {P : Program} {f : FuncId} {args : Array Value} {w : World} {v : Value} (h : Calls P f args w fun e w' => e = .returned v ∧ Drawn0 w w') : Calls P f args w fun e w' => e = .returned v ∧ ∃ n, w' = w.drewN n :=
  h.mono fun _ _ ⟨he, hd⟩ => ⟨he, hd.out⟩
theorem own_drewN {w : World} {B n : Nat} {e : TypeId} {v : Value} {xs : List Value} (h : w.ownsRow B e 1 v n xs) (k : Nat) : (w.drewN k).ownsRow B e 1 v n xs := by
  refine own_below h (pw_below_drewN (Below.refl _ _) _)
set_option maxHeartbeats 2000000 in
theorem filled_call (s pic : ByteArray) (w : World) (hp : pic.size ≤ 16384) (hs : s.size ≤ 9223372036854775807) : Calls Tryz.prog 24 #[.string s, .string pic] w fun e w' =>
    e = .returned (.string (strOfNums (filledL s pic))) ∧ Below w.heap.size w w' := by
  have HL := Lib.hid (bytesOf_length pic)
  have HP := Lib.hid (fun w => places_call pic w hp)
  have HT := Lib.hid taken_call
  have HPR := Lib.hid (plc_range (bytesOf pic) pic.size)
  have hcv := fun W => print_bytes (P := Tryz.prog) 9 73 5 Tryz.underlying9 Tryz.underlying73 Tryz.underlying5 pic W
  have HDF := Aside0.mk (show filledL s pic = fillK (bytesOf pic) (bytesOf s) (placesL pic) (placesL pic).length from rfl)
  have hpl := plc_len (bytesOf pic) pic.size
  rw [show plc (bytesOf pic) pic.size = placesL pic from rfl] at hpl HPR
  generalize placesL pic = pl at *
  go_enter Tryz.func24, Tryz.ntmps24
  go_wp2_with (go_at_call 46; refine (HP.out _).mono ?_; rintro e w2 ⟨v, rfl, ho, hb⟩; obtain ⟨ao, cap, rfl⟩ := own_slice ho; have HO := Aside0.mk (And.intro ho hb); clear ho hb)
  have HO2 := Aside0.mk (HO.out.1)
  have HB1 := Aside0.mk (bytes_below (Below.refl w.heap.size w) (Nat.le_refl _) 5 pic)
  have hsz1 : w.heap.size < (Lib.bytesWorld w 5 pic).heap.size := (buf_bytesWorld w 5 pic).lt
  have HBuf := Aside0.mk (((buf_bytesWorld w 5 pic).below HO.out.2))
  have HB2 := Aside0.mk (nx HB1.out HO.out.2)
  clear HO HB1 hcv
  generalize (Lib.bytesWorld w 5 pic).heap.size = b1 at *
  go_loopw [16] (fun i wr => ∃ (k : Nat) (out : List Int), i = .int .i64 k ∧ Aside0 (k ≤ pl.length) ∧ Aside0 (out = fillK (bytesOf pic) (bytesOf s) pl k) ∧ Aside0 (wr.ownsRow b1 3 1 (.slice ao pl.length cap) pl.length (nums .i64 pl)) ∧ Aside0 (Buf wr w.heap.size 5 (nums .u8 out)) ∧ Aside0 (Below w.heap.size w wr)) (fun i _ => pl.length - (intOf i).toNat)
  case atStart => exact ⟨0, bytesOf pic, rfl, ⟨by omega⟩, ⟨rfl⟩, HO2, HBuf, HB2⟩
  case round =>
    clear HB2 HO2 HBuf
    obtain ⟨k, out, rfl, HK, HF, HO, HBuf, HB⟩ := hrel
    have hk := HK.out
    have HFL : Aside0 (out.length = pic.size) := ⟨by rw [HF.out, fillK_len, HL.out]⟩
    by_cases hlt : k < pl.length
    · obtain ⟨g, hao, hgb, hbp⟩ := own_buf HO.out (by omega)
      have hcp := hbp.int k hlt
      have hpr := HPR.out (pl.getD k 0) (by rw [List.getD_eq_getElem?_getD, List.getElem?_eq_getElem hlt]; simp)
      obtain ⟨P, hP⟩ : ∃ P : Nat, pl.getD k 0 = P := Int.eq_ofNat_of_zero_le hpr.1
      rw [hP] at hcp hpr
      have hPl : P < pic.size := by omega
      obtain ⟨PB, hPB, hPB2⟩ := byte_nat pic P hPl
      have hbtp := getElem_bt pic P hPl
      have hcell := HBuf.out.cell P (by simpa [nums, HFL.out] using hPl)
      have hfr := HBuf.out.frozen P (by simpa [nums, HFL.out] using hPl)
      obtain ⟨old, hold⟩ : ∃ old, (nums .u8 out)[P]? = some old := ⟨_, List.getElem?_eq_getElem (by simpa [nums, HFL.out] using hPl)⟩
      rw [hold] at hcell
      have HNE := Aside0.mk (buf_ne HBuf.out HO.out (by decide))
      have HSC : Aside0 (∀ c, fillC (bytesOf pic) (bytesOf s) P k = c → fillK (bytesOf pic) (bytesOf s) pl (k + 1) = out.set P c) := ⟨fun c hc => by
        show (fillK (bytesOf pic) (bytesOf s) pl k).set (pl.getD k 0).toNat (fillC (bytesOf pic) (bytesOf s) (pl.getD k 0).toNat k) = _
        rw [hP, Int.toNat_natCast, hc, ← HF.out]⟩
      subst hao
      rw [hPB] at hbtp
      clear hold hpr hbp
      by_cases hn : k < s.size
      · obtain ⟨SB, hSB, hSB2⟩ := byte_nat s k hn
        have hbts := getElem_bt s k hn
        rw [hSB] at hbts
        have hFC : fillC (bytesOf pic) (bytesOf s) P k = if (tkn PB SB).2 = true then (tkn PB SB).1 else 32 := by
          unfold fillC
          rw [if_pos (by rw [bytesOf_length]; exact hn), hPB, hSB]
        have HFC := Aside0.mk hFC
        have HT2 := Lib.hid (fun W => calls_draws (HT.out PB SB W))
        clear hFC hPB hSB hP HT
        generalize tkn (PB : Int) SB = r at HFC HT2
        obtain ⟨y, ok⟩ := r
        go_wp2
        go_quiet ((go_at_call 18; exact Calls.quiet_of (HT2.out _)))
        cases ok
        · have hy : fillC (bytesOf pic) (bytesOf s) P k = 32 := by rw [HFC.out]; simp
          have HS2 := Aside0.mk (HSC.out _ hy)
          clear hy
          go_wp2
          go_roundw
          case rel => exact ⟨k + 1, out.set P 32, by go_num, ⟨by omega⟩, ⟨HS2.out.symm⟩, ⟨own_setCell (own_drewN HO.out _) (a := ⟨w.heap.size, P, none⟩) HNE.out _⟩, ⟨(HBuf.out.drewN _).set_int P 32⟩, ⟨(pw_below_drewN HB.out _).setCell (Nat.le_refl _) _⟩⟩
          case measure => simp [intOf]; omega
        · have hy : fillC (bytesOf pic) (bytesOf s) P k = y := by rw [HFC.out]; simp
          have HS2 := Aside0.mk (HSC.out _ hy)
          clear hy
          go_wp2
          go_roundw
          case rel => exact ⟨k + 1, out.set P y, by go_num, ⟨by omega⟩, ⟨HS2.out.symm⟩, ⟨own_setCell (own_drewN HO.out _) (a := ⟨w.heap.size, P, none⟩) HNE.out _⟩, ⟨(HBuf.out.drewN _).set_int P y⟩, ⟨(pw_below_drewN HB.out _).setCell (Nat.le_refl _) _⟩⟩
          case measure => simp [intOf]; omega
      · have hy : fillC (bytesOf pic) (bytesOf s) P k = 32 := by unfold fillC; rw [if_neg (by rw [bytesOf_length]; exact hn)]
        have HS2 := Aside0.mk (HSC.out _ hy)
        clear hy hPB hP
        go_wp2
        go_roundw
        case rel => exact ⟨k + 1, out.set P 32, by go_num, ⟨by omega⟩, ⟨HS2.out.symm⟩, ⟨own_setCell HO.out (a := ⟨w.heap.size, P, none⟩) HNE.out _⟩, ⟨HBuf.out.set_int P 32⟩, ⟨HB.out.setCell (Nat.le_refl _) _⟩⟩
        case measure => simp [intOf]; omega
    · have hke : k = pl.length := by omega
      have HE : Aside0 (filledL s pic = out) := ⟨by rw [HDF.out, HF.out, hke]⟩
      have hstr := HBuf.out.string (src := 73) (dst := 9) (cap := grownCap w pic.size 0 5) (n := pic.size) Tryz.underlying73 Tryz.underlying5 Tryz.underlying9 HFL.out
      clear hke
      go_wp2
      go_ret
      exact ⟨by rw [HE.out]; rfl, HB.out⟩
end Go.Proofs.YtnkkccafdbaoeaaGreatDoor.H
