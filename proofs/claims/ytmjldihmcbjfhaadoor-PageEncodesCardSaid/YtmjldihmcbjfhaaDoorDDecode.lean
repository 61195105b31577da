/-
  Decode: the walk of the program's.
-/
import Derived.Test.YtmjldihmcbjfhaaDoorDAsk
import Derived.Test.YtmjldihmcbjfhaaDoorDBld
namespace Go.Proofs.YtmjldihmcbjfhaaDoor.H
open Go.RowKit Go.Proofs.YtmjldihmcbjfhaaDoorW.PrintWords Go.Proofs.YtmjldihmcbjfhaaDoorW.PrintLast Go.Proofs.YtmjldihmcbjfhaaDoorW.PrintMore Go.Proofs.YtmjldihmcbjfhaaDoor.PPageEncodes
set_option linter.unusedVariables false
set_option linter.unusedSimpArgs false

/-- The bytes of UTF-8 of the characters of bytes on a page. -/
def decL (T : Nat) (xs : List Int) : List Int := xs.flatMap fun b => Lib.encodeRuneZ (pg3 240 (T * 256 + b.toNat))
theorem decL_snoc (T : Nat) (xs : List Int) (b : Int) : decL T (xs ++ [b]) = decL T xs ++ Lib.encodeRuneZ (pg3 240 (T * 256 + b.toNat)) := by
  simp [decL, List.flatMap_append]
theorem encZ_le (r : Int) : (Lib.encodeRuneZ r).length ≤ 4 := by
  have := (Lib.runeCells_le r).2
  simpa [Lib.runeCells] using this
theorem decL_len (T : Nat) (xs : List Int) : (decL T xs).length ≤ 4 * xs.length := by
  induction xs with
  | nil => simp [decL]
  | cons x xs ih =>
    have h1 : decL T (x :: xs) = Lib.encodeRuneZ (pg3 240 (T * 256 + x.toNat)) ++ decL T xs := by simp [decL]
    have := encZ_le (pg3 240 (T * 256 + x.toNat))
    rw [h1, List.length_append, List.length_cons]
    omega
theorem runeCells_nums (r : Int) : Lib.runeCells r = nums .u8 (Lib.encodeRuneZ r) := rfl
theorem nums_append (k : IntKind) (a b : List Int) : nums k (a ++ b) = nums k a ++ nums k b := by simp [nums]
theorem pageO_other (T : Nat) : ∀ cur, pageO T ≠ .cells cur 5 (0, 0) := by
  intro cur h
  simp [pageO] at h
theorem bytesO_other (w : World) (e : TypeId) (s : ByteArray) : ∃ o, (Lib.bytesWorld w e s).heap[w.heap.size]? = some o ∧ ∀ cur, o ≠ .cells cur e (0, 0) :=
  ⟨_, Lib.bytesWorld_at_new w e s, fun cur h => by simp at h⟩

theorem pg3_range (T B : Nat) (hT : T < 3) (hB : B < 256) : -1 ≤ pg3 240 (T * 256 + B) ∧ pg3 240 (T * 256 + B) ≤ 1103 := by
  unfold pg3
  split
  · omega
  · unfold pg2
    split
    · omega
    · unfold pg1
      split
      · split <;> omega
      · omega
theorem enc_range {r : Int} (h0 : 0 ≤ r) (h1 : r ≤ 1103) : ∀ x ∈ Lib.encodeRuneZ r, 0 ≤ x ∧ x ≤ 255 := by
  intro x hx
  by_cases h : r ≤ 127
  · rw [Lib.encodeRuneZ_one h0 h] at hx
    simp at hx; omega
  · rw [Lib.encodeRuneZ_two (by omega) (by omega)] at hx
    simp at hx; omega
theorem byteCells_nums (xs : List Int) (h : ∀ x ∈ xs, 0 ≤ x ∧ x ≤ 255) : nums .u8 xs = Lib.byteCells (xs.map fun n => UInt8.ofNat n.toNat) := by
  unfold nums Lib.byteCells
  rw [List.map_map]
  apply List.map_congr_left
  intro x hx
  obtain ⟨h0, h1⟩ := h x hx
  have : x.toNat % 256 = x.toNat := Nat.mod_eq_of_lt (by omega)
  simp [this]
  omega
theorem decL_range (T : Nat) (hT : T < 3) : ∀ xs : List Int, (∀ b ∈ xs, 0 ≤ b ∧ b ≤ 255) → validL T xs = true → ∀ x ∈ decL T xs, 0 ≤ x ∧ x ≤ 255 := by
  intro xs hb hv x hx
  unfold decL at hx
  obtain ⟨b, hbm, hx⟩ := List.mem_flatMap.1 hx
  have h1 := hb b hbm
  have h2 := List.all_eq_true.1 hv b hbm
  have h3 : 0 ≤ pg3 240 (T * 256 + b.toNat) := by simpa [okP] using h2
  exact enc_range h3 (pg3_range T b.toNat hT (by omega)).2 x hx

/-- What holds at every round's head beside the counter. -/
structure DecS (w w6 wr : World) (s : ByteArray) (T g b h k : Nat) (p v : Value) : Prop where
  bld : Bld wr w.heap.size b p v (nums .u8 (decL T ((bytesOf s).take k)))
  ptr : p = .pointer none ∨ p = selfP b
  page : wr.heap[g]? = some (pageO T)
  row : wr.heap[h]? = w6.heap[h]?
  below : Below w.heap.size w wr
  gb : g ≠ b
  hb : h ≠ b

set_option maxHeartbeats 2000000 in
set_option maxRecDepth 100000 in
theorem decode_ok (s : ByteArray) (T : Nat) (w : World) (hs : s.size ≤ 2048) (hT : T < 3) (hq : askP s.size T = 0) :
    Calls Tryd.prog 9 #[.string s, .int .i64 T] w fun e w' =>
      e = .returned (if validL T (bytesOf s) = true then .tuple #[.string (strOfNums (decL T (bytesOf s))), .int .i64 0] else .tuple #[.string ⟨#[]⟩, .int .i64 2]) ∧ Below w.heap.size w w' := by
  have HA := Lib.hid (fun w => hq ▸ asked_one s T w)
  have HPg := Lib.hid pages_call
  have HL := Lib.hid (bytesOf_length s)
  clear hq
  have hcv := fun W => print_bytes (P := Tryd.prog) 9 36 5 Tryd.underlying9 Tryd.underlying36 Tryd.underlying5 s W
  have hix := fun W => run_index_page W T hT
  have HPS := Lib.hid (page_size T hT)
  generalize hTab : (nums .i32 allPages).toArray = Tab at HPg hix
  clear hTab
  obtain ⟨PT, hPT⟩ : ∃ PT : Array Value, PT = (nums .i32 (pageL T)).toArray := ⟨_, rfl⟩
  rw [← hPT] at hix HPS
  have HPT := Lib.hid hPT
  have HPO := Lib.hid (show PT.all (·.oneCell') = true by rw [hPT]; exact page_one T)
  have HPI := Lib.hid (show (Tryd.prog.info? 33).map (·.size) = some PT.size by rw [HPS.out]; exact chars_size)
  clear hPT
  obtain ⟨R, hR⟩ : ∃ R : Value, R = (if validL T (bytesOf s) = true then .tuple #[.string (strOfNums (decL T (bytesOf s))), .int .i64 0] else .tuple #[.string ⟨#[]⟩, .int .i64 2]) := ⟨_, rfl⟩
  rw [← hR]
  have HR := Lib.hid hR
  clear hR
  go_enter Tryd.func9, Tryd.ntmps9
  go_wp2_with (first
    | (go_at_call 21; refine (HA.out _).mono ?_; rintro e w1 ⟨rfl, hd⟩; have HD := Aside0.mk hd; clear hd)
    | (go_at_call 17; refine (HPg.out _).mono ?_; rintro e w3 ⟨rfl, hb⟩; have HB3 := Aside0.mk hb; clear hb)
    | (with_reducible refine wpList_allocZ rfl _ rfl 256 (.int .i32 0) zero_chars ?_; rintro Z HZ HZ2)
    | (refine wpList_store_row (o := ⟨none, .store 33 _ _, _, _, _, _⟩) rfl 33 _ _ rfl w3.heap.size PT rfl rfl 33 Z (heap_alloc_new _ _) HPI.out (HZ.out.trans HPS.out.symm) HPO.out ?_; have HW4 := Aside0.mk (HPT.out ▸ pageW_mk w3 T Z); (generalize (w3.alloc (.cells Z 33)).setRow w3.heap.size PT = w4 at HW4 ⊢)))
  obtain ⟨w5, hw5⟩ : ∃ w5, w5 = w4.alloc (.cells #[.pointer none, .slice none 0 0] 46) := ⟨_, rfl⟩
  have hs5 : w5.heap.size = w4.heap.size + 1 := by rw [hw5]; simp
  have HB4 : Aside0 (Below w.heap.size w w4) := ⟨by
    obtain ⟨n1, rfl⟩ := HD.out.out
    have h3 := HB3.out
    have h4 : w.heap.size ≤ w3.heap.size := by have := h3.size; simp at this; omega
    exact ((pw_below_drewN (below_alloc (Below.refl _ _) _) _).trans (h3.mono (by simp))).trans (HW4.out.below.mono h4)⟩
  have HB5 : Aside0 (Below w.heap.size w (Lib.bytesWorld w5 5 s)) := ⟨by
    have h5 : Below w.heap.size w w5 := by rw [hw5]; exact HB4.out.alloc HB4.out.size _
    exact bytes_below h5 h5.size _ _⟩
  have hb56 := bytes_below (Below.refl w5.heap.size w5) (Nat.le_refl _) 5 s
  have HS0 : Aside0 (DecS w (Lib.bytesWorld w5 5 s) (Lib.bytesWorld w5 5 s) s T w3.heap.size w4.heap.size (w4.heap.size + 1) 0 (.pointer none) (.slice none 0 0)) := ⟨{
    bld := ⟨HB4.out.size, by rw [hb56.block _ (by omega), hw5]; exact heap_alloc_new _ _, by
      have : decL T ((bytesOf s).take 0) = [] := by simp [decL]
      rw [this]; exact ⟨rfl, Or.inl ⟨rfl, rfl⟩⟩, by simp [Value.ownBlock]⟩
    ptr := Or.inl rfl
    page := by
      rw [hb56.block _ (by have := HW4.out.size; omega), hw5, Below.heap_alloc _ _ _ (by have := HW4.out.size; omega)]
      exact HW4.out.at_
    row := rfl
    below := HB5.out
    gb := by have := HW4.out.size; omega
    hb := by omega }⟩
  have HO6 : Aside0 (∃ o, (Lib.bytesWorld w5 5 s).heap[w4.heap.size + 1]? = some o ∧ ∀ cur, o ≠ .cells cur 5 (0, 0)) := ⟨hs5 ▸ bytesO_other w5 5 s⟩
  have HBuf6 : Aside0 (Buf (Lib.bytesWorld w5 5 s) (w4.heap.size + 1) 5 (nums .u8 (bytesOf s))) := ⟨hs5 ▸ buf_bytesWorld w5 _ s⟩
  rw [← hw5]
  clear hb56 HB5 HB4 HD HB3 hcv hix HW4
  generalize Lib.bytesWorld w5 5 s = w6 at *
  generalize w4.heap.size = b at *
  generalize w3.heap.size = g at *
  clear hw5 hs5
  go_loopw [24] (fun i wr => ∃ (k : Nat) (p v : Value), i = .int .i64 k ∧ Aside0 (k ≤ s.size) ∧ Aside0 (validL T ((bytesOf s).take k) = true) ∧ Aside0 (DecS w w6 wr s T g b (b + 1) k p v)) (fun i _ => s.size - (intOf i).toNat)
  case atStart => exact ⟨0, _, _, rfl, ⟨by omega⟩, ⟨rfl⟩, HS0⟩
  case round =>
    clear HS0
    obtain ⟨k, p, v, rfl, HK, HV, HS⟩ := hrel
    have hk := HK.out
    by_cases hlt : k < s.size
    · obtain ⟨B, hB, hB2⟩ := byte_nat s k hlt
      have hc := (HBuf6.out.keep HS.out.row).int k (by rw [HL.out]; exact hlt)
      have HTK := Aside0.mk (bytes_take s k hlt)
      have HIN := Aside0.mk (bytes_split s k hlt)
      have HOK := Aside0.mk (show okP T (B : Int) = decide (0 ≤ pg3 240 (T * 256 + B)) by unfold okP; simp)
      have hp := pageO_cell HS.out.page hT hB2
      have HX := Aside0.mk (pg3_range T B hT hB2)
      have HDL := Aside0.mk (decL_snoc T ((bytesOf s).take k) (B : Int))
      have hlen : (nums .u8 (decL T ((bytesOf s).take k))).length + 4 ≤ 140737488355328 := by
        rw [nums_len]
        have h1 := decL_len T ((bytesOf s).take k)
        have h2 := List.length_take_le k (bytesOf s)
        omega
      rw [hB] at hc HTK HIN
      rw [Int.toNat_natCast] at HDL
      clear hB
      generalize pg3 240 (T * 256 + B) = x at hp HOK HX HDL
      by_cases h0 : 0 ≤ x
      · have h0' : ¬ x < 0 := by omega
        have HOK2 : Aside0 (okP T (B : Int) = true) := ⟨by rw [HOK.out]; simpa using h0⟩
        have HWR := Lib.hid (fun (W : World) (hW : Bld W w.heap.size b p v (nums .u8 (decL T ((bytesOf s).take k)))) (hs : w.heap.size ≤ W.heap.size) => writeRune_call w.heap.size b p v _ x W hW HS.out.ptr (by have := HX.out; omega) (by have := HX.out; omega) hlen hs)
        clear hlen
        go_wp2_with (go_at_call 22; refine (HWR.out _ HS.out.bld HS.out.below.size).mono ?_; rintro e w7 ⟨v', rfl, hbl, hbel, hkeep⟩; have HN := Aside0.mk (And.intro hbl (And.intro hbel hkeep)); clear hbl hbel hkeep)
        go_roundw
        case rel =>
          obtain ⟨hbl, hbel, hkeep⟩ := HN.out
          have S := HS.out
          obtain ⟨o6, ho6, ho6n⟩ := HO6.out
          have hrow := S.row.trans ho6
          refine ⟨k + 1, selfP b, v', by go_num, ⟨by omega⟩, ⟨by rw [HTK.out]; unfold validL; rw [List.all_append]; unfold validL at HV; rw [HV.out]; simp [HOK2.out]⟩, ⟨?_⟩⟩
          exact {
            bld := by rw [HTK.out, HDL.out, nums_append, ← runeCells_nums]; exact hbl
            ptr := Or.inr rfl
            page := (hkeep g (blkl S.page) S.gb (own_ne S.bld.own S.page (pageO_other T))).trans S.page
            row := (hkeep (b + 1) (blkl hrow) S.hb (own_ne S.bld.own hrow ho6n)).trans S.row
            below := S.below.trans hbel
            gb := S.gb
            hb := S.hb }
        case measure => simp [intOf]; omega
      · have h0' : x < 0 := by omega
        have HOK2 : Aside0 (okP T (B : Int) = false) := ⟨by rw [HOK.out]; simpa using h0⟩
        have HRV : Aside0 (R = .tuple #[.string ⟨#[]⟩, .int .i64 2]) := ⟨by
          rw [HR.out, if_neg]
          rw [HIN.out]; unfold validL; rw [List.all_append, List.all_cons, HOK2.out]; simp⟩
        clear hlen
        go_wp2
        go_ret2
        exact ⟨by rw [HRV.out]; rfl, HS.out.below⟩
    · have hke : k = s.size := by omega
      subst hke
      have hvt : validL T (bytesOf s) = true := by
        have := HV.out
        rwa [bytes_all] at this
      have hbr := decL_range T hT (bytesOf s) (bytesOf_range s) hvt
      have HRV : Aside0 (R = .tuple #[.string (strOfNums (decL T (bytesOf s))), .int .i64 0]) := ⟨by rw [HR.out, if_pos hvt]⟩
      have HST := Lib.hid (fun (W : World) (hW : Lib.IsBuilder 46 5 w.heap.size b (Lib.byteCells ((decL T (bytesOf s)).map fun n => UInt8.ofNat n.toNat)) W) (hs : w.heap.size ≤ W.heap.size) => Tryd.Builder_String_any w.heap.size b _ W hW hs)
      have HIB : Aside0 (Lib.IsBuilder 46 5 w.heap.size b (Lib.byteCells ((decL T (bytesOf s)).map fun n => UInt8.ofNat n.toNat)) wr) := ⟨by
        have h := HS.out.bld.builder HS.out.ptr
        rw [bytes_all, byteCells_nums _ hbr] at h
        exact h⟩
      clear hvt hbr
      go_wp2_with (go_at_call 23; refine (HST.out _ HIB.out HS.out.below.size).mono ?_; rintro e w7 ⟨rfl, hb7⟩; have HB7 := Aside0.mk hb7; clear hb7)
      go_ret2
      exact ⟨by rw [HRV.out]; rfl, HS.out.below.trans HB7.out⟩
end Go.Proofs.YtmjldihmcbjfhaaDoor.H
