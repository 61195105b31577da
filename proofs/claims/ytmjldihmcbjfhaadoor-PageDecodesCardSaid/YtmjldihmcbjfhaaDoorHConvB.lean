/-
  The byte of a character in a page's table, and Convert: the walks of byteOf and Convert.
-/
import Derived.Test.YtmjldihmcbjfhaaDoorHConv
import Derived.StillTailTactics
namespace Go.Proofs.YtmjldihmcbjfhaaDoor.H
open Go.RowKit Go.Proofs.YtmjldihmcbjfhaaDoorW.PrintWords Go.Proofs.YtmjldihmcbjfhaaDoorW.PrintLast Go.Proofs.YtmjldihmcbjfhaaDoorW.PrintMore Go.Proofs.YtmjldihmcbjfhaaDoor.PPageEncodes
set_option linter.unusedVariables false
set_option linter.unusedSimpArgs false

/-- The first place of a character in a table. -/
def bo (xs : List Int) (c : Int) : Int × Bool := match xs.findIdx? (fun x => x == c && decide (0 ≤ c)) with
  | some b => (b, true)
  | none => (0, false)
def noneIn (xs : List Int) (c : Int) (k : Nat) : Prop := ∀ j, j < k → ¬ (xs.getD j 0 = c ∧ 0 ≤ c)
theorem bo_none {xs : List Int} {c : Int} (h : noneIn xs c xs.length) : bo xs c = (0, false) := by
  have : xs.findIdx? (fun x => x == c && decide (0 ≤ c)) = none := by
    rw [List.findIdx?_eq_none_iff]
    intro x hx
    obtain ⟨j, hj, rfl⟩ := List.getElem_of_mem hx
    have := h j hj
    rw [List.getD_eq_getElem?_getD, List.getElem?_eq_getElem hj] at this
    simp only [Option.getD_some] at this
    by_cases e : xs[j] = c
    · have : ¬ 0 ≤ c := fun h0 => this ⟨e, h0⟩
      simp [this]
    · simp [e]
  unfold bo
  rw [this]
theorem bo_some {xs : List Int} {c : Int} {k : Nat} (h : noneIn xs c k) (hk : k < xs.length) (h1 : xs.getD k 0 = c) (h2 : 0 ≤ c) : bo xs c = ((k : Int), true) := by
  have : xs.findIdx? (fun x => x == c && decide (0 ≤ c)) = some k := by
    rw [List.findIdx?_eq_some_iff_getElem]
    refine ⟨hk, ?_, ?_⟩
    · rw [List.getD_eq_getElem?_getD, List.getElem?_eq_getElem hk] at h1
      simp only [Option.getD_some] at h1
      simp [h1, h2]
    · intro j hj
      have := h j hj
      have hj' : j < xs.length := by omega
      rw [List.getD_eq_getElem?_getD, List.getElem?_eq_getElem hj'] at this
      simp only [Option.getD_some] at this
      simp only [Bool.not_eq_true, Bool.and_eq_false_iff, beq_eq_false_iff_ne, decide_eq_false_iff_not]
      by_cases e : xs[j] = c
      · exact Or.inr fun h0 => this ⟨e, h0⟩
      · exact Or.inl e
  unfold bo
  rw [this]

theorem run_index_arr {P : Program} {t e : TypeId} {n : Nat} {d : TypeDesc} (w : World) (cs : Array Value) (k : Nat) (v : Value) (ht : P.underlying t = some (.array n e)) (he : P.underlying e = some d) (hd : d.isRow = false)
    (hs : (P.info? e).map (·.size) = some 1) (hk : k < n) (hv : cs[k]? = some v) : (Instr.index t (.agg cs) (.int .i64 (k : Int))).run P w = .ok v w := by
  have hagg : (isAgg e).run P w = .ok false w := by
    unfold isAgg
    rw [Sem.run_bind, run_underlying he w]
    cases d <;> simp_all [TypeDesc.isRow]
  have hsz : (sizeOf e).run P w = .ok 1 w := by
    cases hi : P.info? e with
    | none => simp [hi] at hs
    | some i =>
      have : i.size = 1 := by simpa [hi] using hs
      simp [sizeOf, typeInfo, Sem.run_bind, hi, this]
  unfold Instr.index
  simp [Sem.run_bind, asIntOf, run_underlying ht w, hsz, Go.part, hagg, hv, hk]

theorem chars_desc : Tryd.prog.underlying 33 = some (.array 256 21) := by kernel_rfl
theorem pages_desc : Tryd.prog.underlying 34 = some (.array 3 33) := by kernel_rfl
theorem i32_desc : Tryd.prog.underlying 21 = some (.int .i32) := by kernel_rfl

set_option maxHeartbeats 1000000 in
set_option maxRecDepth 100000 in
theorem byteOf_call (xs : List Int) (c : Int) (w : World) (hx : xs.length = 256) : Calls Tryd.prog 18 #[.agg (nums .i32 xs).toArray, .int .i32 c] w fun e w' =>
    e = .returned (.tuple #[.int .u8 (bo xs c).1, .bool (bo xs c).2]) ∧ Below w.heap.size w w' := by
  have HX := Lib.hid hx
  clear hx
  obtain ⟨cs, hcs⟩ : ∃ cs : Array Value, cs = (nums .i32 xs).toArray := ⟨_, rfl⟩
  rw [← hcs]
  have HC := Lib.hid hcs
  clear hcs
  go_enter Tryd.func18, Tryd.ntmps18
  have hsz : cs.size = 256 := by rw [HC.out]; simp [nums, HX.out]
  have hI : (Tryd.prog.info? 33).map (·.size) = some cs.size := by rw [hsz]; kernel_rfl
  have HI := Lib.hid hI
  clear hI hsz
  go_wp2_with (refine wpList_load_row (o := ⟨some 8, _, _, _, _, _⟩) rfl 33 _ rfl w.heap.size rfl 33 cs (0, 0) (.array 256 21) (heap_alloc_new _ _) chars_desc rfl HI.out ?_)
  go_loop [9] (fun i => ∃ k : Nat, i = .int .i64 k ∧ Aside0 (k ≤ 256) ∧ Aside0 (noneIn xs c k)) (fun i => 256 - (intOf i).toNat)
  case atStart => exact ⟨0, rfl, ⟨by omega⟩, ⟨fun j hj => absurd hj (by omega)⟩⟩
  case round =>
    obtain ⟨k, rfl, HK, HN⟩ := hrel
    have hk := HK.out
    by_cases hlt : k < 256
    · have hidx := fun (W : World) => run_index_arr (P := Tryd.prog) (t := 33) (e := 21) (n := 256) W cs k (.int .i32 (xs.getD k 0)) chars_desc i32_desc rfl (by kernel_rfl) hlt (by
        rw [HC.out]; simp [nums, List.getD_eq_getElem?_getD, HX.out, hlt])
      have HS : Aside0 (∀ x, xs.getD k 0 = x → ¬ (x = c ∧ 0 ≤ c) → noneIn xs c (k + 1)) := ⟨fun x hx hn j hj => by
        by_cases e : j = k
        · subst e; rw [hx]; exact hn
        · exact HN.out j (by omega)⟩
      have HF : Aside0 (∀ x, xs.getD k 0 = x → x = c → 0 ≤ c → bo xs c = ((k : Int), true)) := ⟨fun x hx h1 h2 => bo_some HN.out (by rw [HX.out]; exact hlt) (hx.trans h1) h2⟩
      generalize hxx : xs.getD k 0 = x at hidx
      have HXX := Aside0.mk hxx
      clear hxx
      go_wp2
      · have h1 : x = c := by assumption
        have h2 : 0 ≤ c := by assumption
        have h3 := HF.out x HXX.out h1 h2
        go_ret2
        refine ⟨?_, (below_alloc (Below.refl _ _) _)⟩
        rw [h3]
        have : ((k : Int)) % 256 = k := by omega
        first | rfl | (simp; done) | (simp [this]; done) | (simp; omega)
      · have h1 : ¬ 0 ≤ c := by omega
        go_round
        case rel => exact ⟨k + 1, by go_num, ⟨by omega⟩, ⟨HS.out x HXX.out fun h => h1 h.2⟩⟩
        case measure => simp [intOf]; omega
      · have h1 : ¬ x = c := by assumption
        go_round
        case rel => exact ⟨k + 1, by go_num, ⟨by omega⟩, ⟨HS.out x HXX.out fun h => h1 h.1⟩⟩
        case measure => simp [intOf]; omega
    · obtain rfl : k = 256 := by omega
      have hb := bo_none (by rw [HX.out]; exact HN.out)
      go_wp2
      go_ret2
      exact ⟨rfl, below_alloc (Below.refl _ _) _⟩
end Go.Proofs.YtmjldihmcbjfhaaDoor.H
