/-
  Encode: the walk of the program's.
-/
import Derived.Test.YtmjldihmcbjfhaaDoorDAsk
import Derived.Test.YtmjldihmcbjfhaaDoorDShelf
import Derived.Test.YtmjldihmcbjfhaaDoorDBld
import Derived.Lib.OthersKept
import Derived.Laws.RangeAny
import Derived.WalkSmall
namespace Go.Proofs.YtmjldihmcbjfhaaDoor.H
open Go.RowKit Go.Proofs.YtmjldihmcbjfhaaDoorW.PrintWords Go.Proofs.YtmjldihmcbjfhaaDoorW.PrintLast Go.Proofs.YtmjldihmcbjfhaaDoorW.PrintMore Go.Proofs.YtmjldihmcbjfhaaDoor.PPageEncodes
set_option linter.unusedVariables false
set_option linter.unusedSimpArgs false

/-- The runes of a text from a place on. -/
def rsF (s : ByteArray) : Nat → Nat → List Int
  | 0, _ => []
  | f + 1, pos => if pos < s.size then ((Utf8.decode s pos).1 : Int) :: rsF s f (pos + (Utf8.decode s pos).2) else []
theorem rsF_end (s : ByteArray) (f pos : Nat) (h : ¬ pos < s.size) : rsF s f pos = [] := by
  cases f with
  | zero => rfl
  | succ f => simp [rsF, h]
/-- The bytes of runes behind others; nothing if one has none. -/
def encTo (T : Nat) : List Int → List Int → Option (List Int)
  | acc, [] => some acc
  | acc, c :: rs => if (bo (pageL T) c).2 = true then encTo T (acc ++ [(bo (pageL T) c).1]) rs else none
theorem width_pos (s : ByteArray) (pos : Nat) (h : pos < s.size) : 1 ≤ (Utf8.decode s pos).2 := by
  by_cases ha : (s[pos]'h).toNat < 128
  · rw [decode_ascii s pos h ha]
    exact Nat.le_refl _
  · exact (decode_high s pos h (by omega)).2
def Tabs (w : World) : Prop := Lib.Utf8Tabs (Tryd.laysValid_ren.g 3) (Tryd.laysValid_ren.g 4) w
theorem Tabs.below {w w' : World} (h : Tabs w) (hb : Below w.heap.size w w') : Tabs w' := Utf8Tabs_below h hb
theorem isValid_call (s : ByteArray) (w : World) (hs : s.size ≤ 9223372036854775807) (hT : Tabs w) : Calls Tryd.prog 16 #[.string s] w fun e w' => e = .returned (.bool (Lib.validD s.data.toList)) ∧ Below w.heap.size w w' :=
  Any.utf8_ValidString Tryd.laysValid s w hs hT

def encA : Option (List Int) → Value
  | none => .tuple #[.string ⟨#[]⟩, .int .i64 10]
  | some l => if l.length > 2048 then .tuple #[.string ⟨#[]⟩, .int .i64 3] else .tuple #[.string (strOfNums l), .int .i64 0]
theorem encA_big {l : List Int} (h : l.length > 2048) : encA (some l) = .tuple #[.string ⟨#[]⟩, .int .i64 3] := if_pos h
theorem encA_small {l : List Int} (h : ¬ l.length > 2048) : encA (some l) = .tuple #[.string (strOfNums l), .int .i64 0] := if_neg h
structure EncS (w wr : World) (s : ByteArray) (T g it pos fuel : Nat) (v : Value) (acc : List Int) (ans : Option (List Int)) : Prop where
  own : wr.ownsRow w.heap.size 5 1 v acc.length (nums .u8 acc)
  page : wr.heap[g]? = some (pageO T)
  iter : wr.heap[it]? = some (.stringIter s pos)
  below : Below w.heap.size w wr
  ans : encTo T acc (rsF s fuel pos) = ans
  fuel : s.size ≤ pos + fuel
  len : acc.length ≤ pos
  git : g ≠ it
  git2 : w.heap.size ≤ it

theorem own_iterAt {w : World} {B n k : Nat} {e : TypeId} {v : Value} {xs : List Value} {s : ByteArray} {pos : Nat} (h : w.ownsRow B e 1 v n xs) (hk : w.heap[k]? = some (.stringIter s pos)) (pos' : Nat) : (w.iterAt k s pos').ownsRow B e 1 v n xs := by
  have hne := own_ne h hk (fun cur => by simp)
  obtain ⟨h1, h2⟩ := h
  refine ⟨h1, ?_⟩
  rcases h2 with h2 | ⟨g, cap, cur, rfl, h3, h4, h5⟩
  · exact Or.inl h2
  · refine Or.inr ⟨g, cap, cur, rfl, h3, ?_, h5⟩
    rw [Lib.iterAt_other w k g s pos' (fun e => hne (by rw [e]; rfl)), h4]
theorem own_below {w w' : World} {B n : Nat} {e : TypeId} {v : Value} {xs : List Value} (h : w.ownsRow B e 1 v n xs) (hb : Below w.heap.size w w') : w'.ownsRow B e 1 v n xs := by
  obtain ⟨h1, h2⟩ := h
  refine ⟨h1, ?_⟩
  rcases h2 with h2 | ⟨g, cap, cur, rfl, h3, h4, h5⟩
  · exact Or.inl h2
  · exact Or.inr ⟨g, cap, cur, rfl, h3, by rw [hb.block g (blkl h4), h4], h5⟩

theorem pageO_other' (T : Nat) : ∀ cur, pageO T ≠ .cells cur 5 (0, 0) := by
  intro cur h
  simp [pageO] at h
set_option maxHeartbeats 4000000 in
set_option maxRecDepth 100000 in
theorem encode_ok (s : ByteArray) (T : Nat) (w : World) (hs : s.size ≤ 6144) (hT : T < 3) (hTb : Tabs w) (hval : Lib.validD s.data.toList = true) :
    Calls Tryd.prog 7 #[.string s, .int .i64 T] w fun e w' =>
      e = .returned (encA (encTo T [] (rsF s s.size 0))) ∧ Below w.heap.size w w' := by
  have HV := Lib.hid (fun w (hT : Tabs w) => hval ▸ isValid_call s w (by omega) hT)
  have HPg := Lib.hid pages_call
  have HTb := Aside0.mk hTb
  clear hval hTb
  have hix := fun W => run_index_page W T hT
  have HPS := Lib.hid (page_size T hT)
  generalize hTab : (nums .i32 allPages).toArray = Tab at HPg hix
  clear hTab
  have HBO := Lib.hid (fun x w => byteOf_call (pageL T) x w (pageL_len T hT))
  obtain ⟨PT, hPT⟩ : ∃ PT : Array Value, PT = (nums .i32 (pageL T)).toArray := ⟨_, rfl⟩
  rw [← hPT] at hix HPS HBO
  have HPT := Lib.hid hPT
  have HPO := Lib.hid (show PT.all (·.oneCell') = true by rw [hPT]; exact page_one T)
  have HPI := Lib.hid (show (Tryd.prog.info? 33).map (·.size) = some PT.size by rw [HPS.out]; exact chars_size)
  clear hPT
  obtain ⟨ANS, hA⟩ : ∃ ANS, encTo T [] (rsF s s.size 0) = ANS := ⟨_, rfl⟩
  rw [hA]
  have HANS := Aside0.mk hA
  clear hA
  have hT0 : (0 : Int) ≤ (T : Int) := by omega
  have hT1 : (T : Int) ≤ 2 := by omega
  have hs1 : (s.size : Int) ≤ 6144 := by omega
  go_enter Tryd.func7, Tryd.ntmps7
  go_wp2_with (first
    | (go_at_call 16; refine (HV.out _ HTb.out).mono ?_; rintro e w1 ⟨rfl, hd⟩; have HB1 := Aside0.mk hd; clear hd)
    | (go_at_call 17; refine (HPg.out _).mono ?_; rintro e w3 ⟨rfl, hb⟩; have HB3 := Aside0.mk hb; clear hb)
    | (with_reducible refine wpList_allocZ rfl _ rfl 256 (.int .i32 0) zero_chars ?_; rintro Z HZ HZ2)
    | (refine wpList_store_row (o := ⟨none, .store 33 _ _, _, _, _, _⟩) rfl 33 _ _ rfl w3.heap.size PT rfl rfl 33 Z (heap_alloc_new _ _) HPI.out (HZ.out.trans HPS.out.symm) HPO.out ?_; have HW4 := Aside0.mk (HPT.out ▸ pageW_mk w3 T Z); (generalize (w3.alloc (.cells Z 33)).setRow w3.heap.size PT = w4 at HW4 ⊢)))
  have HB4 : Aside0 (Below w.heap.size w w4) := ⟨by
    have h1 := HB1.out
    have h3 := HB3.out
    have h4 : w.heap.size ≤ w3.heap.size := Nat.le_trans h1.size h3.size
    exact (h1.trans (h3.mono h1.size)).trans (HW4.out.below.mono h4)⟩
  have HS0 : Aside0 (EncS w (w4.iter s 0) s T w3.heap.size w4.heap.size 0 s.size (.slice none 0 0) [] ANS) := ⟨{
    own := ⟨rfl, Or.inl ⟨rfl, rfl⟩⟩
    page := by
      unfold World.iter
      rw [Below.heap_alloc _ _ _ (by have := HW4.out.size; omega)]
      exact HW4.out.at_
    iter := World.iter_heap w4 s 0
    below := HB4.out.alloc HB4.out.size _
    ans := HANS.out
    fuel := by omega
    len := by simp
    git := by have := HW4.out.size; omega
    git2 := HB4.out.size }⟩
  clear HB4 HANS HW4 HB3 HB1 hix HV HPg
  generalize w4.iter s 0 = w5 at *
  generalize w4.heap.size = it at *
  generalize w3.heap.size = g at *
  go_loopw [7] (fun v wr => ∃ (pos fuel : Nat) (acc : List Int), Aside0 (EncS w wr s T g it pos fuel v acc ANS)) (fun _ wr => s.size - wr.iterPos it)
  case atStart => exact ⟨0, s.size, [], HS0⟩
  case round =>
    clear HS0
    obtain ⟨pos, fuel, acc, HS⟩ := hrel
    have hit := HS.out.iter
    have HMI := Aside0.mk (iterPos_of hit)
    by_cases hp : pos < s.size
    · have hnx := fun ty => Lib.run_next_any_at (P := Tryd.prog) wr it s pos ty hit hp
      have hwd := width_pos s pos hp
      have hd1 := decode_le s pos
      have hfl := HS.out.fuel
      have hln := HS.out.len
      obtain ⟨f, rfl⟩ : ∃ f, fuel = f + 1 := ⟨fuel - 1, by omega⟩
      have HANS := Aside0.mk (show encTo T acc (((Utf8.decode s pos).1 : Int) :: rsF s f (pos + (Utf8.decode s pos).2)) = ANS by have := HS.out.ans; rw [rsF, if_pos hp] at this; exact this)
      have HI2 := Aside0.mk (Lib.iterAt_heap wr it s pos (pos + (Utf8.decode s pos).2) hit)
      have HP2 := Aside0.mk ((Lib.iterAt_other wr it g s (pos + (Utf8.decode s pos).2) HS.out.git).trans HS.out.page)
      have HO2 := Aside0.mk (own_iterAt HS.out.own hit (pos + (Utf8.decode s pos).2))
      have HB2 := Aside0.mk (Lib.below_iterAt HS.out.below HS.out.git2 s (pos + (Utf8.decode s pos).2))
      generalize (Utf8.decode s pos).1 = c at *
      generalize (Utf8.decode s pos).2 = d at *
      have HX := Lib.hid (HBO.out (c : Int))
      clear HBO
      have HRE := Aside0.mk (show encTo T acc ((c : Int) :: rsF s f (pos + d)) = if (bo (pageL T) c).2 = true then encTo T (acc ++ [(bo (pageL T) c).1]) (rsF s f (pos + d)) else none from rfl)
      generalize bo (pageL T) (c : Int) = r at HX HRE
      obtain ⟨y, ok⟩ := r
      generalize hw6 : wr.iterAt it s (pos + d) = w6 at *
      have HMP := Aside0.mk (show w6.iterPos it = pos + d from iterPos_of HI2.out)
      clear hw6 hit
      obtain ⟨ao, cap, rfl⟩ := own_slice HO2.out
      cases ok
      · have HN : Aside0 (ANS = none) := ⟨by rw [← HANS.out, HRE.out]; simp⟩
        go_wp2_with (first
          | (refine wpList_load_row (o := ⟨some 33, _, _, _, _, _⟩) rfl 33 _ rfl g rfl 33 PT (0, 0) (.array 256 21) (by rw [HPT.out]; exact HP2.out) chars_desc rfl HPI.out ?_)
          | (go_at_call 18; refine (HX.out _).mono ?_; rintro e w7 ⟨rfl, hb7⟩; have HB7 := Aside0.mk hb7; clear hb7))
        go_ret2
        exact ⟨by rw [HN.out]; rfl, HB2.out.trans (HB7.out.mono HB2.out.size)⟩
      · have HN : Aside0 (encTo T (acc ++ [y]) (rsF s f (pos + d)) = ANS) := ⟨by rw [← HANS.out, HRE.out]; simp⟩
        go_wp2_with (first
          | (refine wpList_load_row (o := ⟨some 33, _, _, _, _, _⟩) rfl 33 _ rfl g rfl 33 PT (0, 0) (.array 256 21) (by rw [HPT.out]; exact HP2.out) chars_desc rfl HPI.out ?_)
          | (go_at_call 18; refine (HX.out _).mono ?_; rintro e w7 ⟨rfl, hb7⟩; have HB7 := Aside0.mk hb7; clear hb7)
          | (at_builtin; (refine print_append_num (w0 := w) w.heap.size rfl (.tmp 40) (.tmp 42) 36 5 .u8 1 rfl Tryd.underlying36 info_u8 (by decide) _ acc y rfl rfl ?h1 ?h2 ?h3 ?h4 ?_); (case h1 => exact own_below HO2.out HB7.out); (case h2 => exact HB2.out.trans (HB7.out.mono HB2.out.size)); (case h3 => exact Nat.le_trans HB2.out.size HB7.out.size); (case h4 => omega); (intro v1 w8 ho hb hg hat); (have HV := Aside0.mk (And.intro ho (And.intro hb hg))); clear ho hb hg hat))
        go_roundw
        case rel =>
          obtain ⟨ho, hb, hgr⟩ := HV.out
          have hP7 : w7.heap[g]? = some (pageO T) := (HB7.out.block g (blkl HP2.out)).trans HP2.out
          have hI7 : w7.heap[it]? = some (.stringIter s (pos + d)) := (HB7.out.block it (blkl HI2.out)).trans HI2.out
          have hO7 := own_below HO2.out HB7.out
          refine ⟨pos + d, f, acc ++ [y], ⟨?_⟩⟩
          exact {
            own := ho
            page := (hgr.block g (blkl hP7) (fun e => own_ne hO7 hP7 (pageO_other' T) e.symm)).trans hP7
            iter := (hgr.block it (blkl hI7) (fun e => own_ne hO7 hI7 (fun cur => by simp) e.symm)).trans hI7
            below := hb
            ans := HN.out
            fuel := by omega
            len := by rw [List.length_append, List.length_singleton]; omega
            git := HS.out.git
            git2 := HS.out.git2 }
        case measure =>
          obtain ⟨ho, hb, hgr⟩ := HV.out
          have hI7 : w7.heap[it]? = some (.stringIter s (pos + d)) := (HB7.out.block it (blkl HI2.out)).trans HI2.out
          have hO7 := own_below HO2.out HB7.out
          rw [iterPos_of ((hgr.block it (blkl hI7) (fun e => own_ne hO7 hI7 (fun cur => by simp) e.symm)).trans hI7), HMI.out]
          omega
    · have hnx := fun ty => Lib.run_next_end_at (P := Tryd.prog) wr it s pos ty hit hp
      have HN : Aside0 (ANS = some acc) := ⟨by rw [← HS.out.ans, rsF_end _ _ _ hp]; rfl⟩
      obtain ⟨ao, cap, rfl⟩ := own_slice HS.out.own
      clear hit
      by_cases hl : acc.length > 2048
      · have hl2 : (2048 : Int) < (acc.length : Int) := by omega
        go_wp2
        go_ret2
        exact ⟨by rw [HN.out, encA_big hl]; rfl, HS.out.below⟩
      · have hl2 : (acc.length : Int) ≤ 2048 := by omega
        have hstr := own_string (P := Tryd.prog) (src := 36) (dst := 9) Tryd.underlying36 Tryd.underlying5 Tryd.underlying9 HS.out.own
        go_wp2
        go_ret2
        exact ⟨by rw [HN.out, encA_small hl]; rfl, HS.out.below⟩
end Go.Proofs.YtmjldihmcbjfhaaDoor.H
