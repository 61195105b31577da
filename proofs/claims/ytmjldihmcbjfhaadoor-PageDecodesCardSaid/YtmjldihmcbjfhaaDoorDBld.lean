/-
  A strings.Builder that the call itself has made: copyCheck and WriteRune, and what stays beside it.
-/
import Derived.Test.YtmjldihmcbjfhaaDoorDShelf
import Derived.Test.YtmjldihmcbjfhaaDoorHChar
import Derived.Lib.Builder
import Derived.Lib.RuneBytes
namespace Go.Proofs.YtmjldihmcbjfhaaDoor.H
open Go.RowKit Go.Proofs.YtmjldihmcbjfhaaDoorW.PrintWords Go.Proofs.YtmjldihmcbjfhaaDoorW.PrintLast Go.Proofs.YtmjldihmcbjfhaaDoorW.PrintMore
set_option linter.unusedVariables false
set_option linter.unusedSimpArgs false

/-- Block b is a builder with the address p and the bytes bs in v. -/
structure Bld (w : World) (B b : Nat) (p v : Value) (bs : List Value) : Prop where
  low : B ≤ b
  at_ : w.heap[b]? = some (.cells #[p, v] 46 (0, 0))
  own : w.ownsRow B 5 1 v bs.length bs
  ne : v.ownBlock ≠ some b
def selfP (b : Nat) : Value := .pointer (some ⟨b, 0, none⟩)
theorem Bld.builder {w : World} {B b : Nat} {p v : Value} {bs : List Value} (h : Bld w B b p v bs) (hp : p = .pointer none ∨ p = selfP b) : Lib.IsBuilder 46 5 B b bs w := by
  rcases hp with rfl | rfl
  · exact Or.inl ⟨h.low, v, h.at_, h.own, h.ne⟩
  · exact Or.inr ⟨h.low, v, h.at_, h.own, h.ne⟩
theorem blk2 {w : World} {b : Nat} {cs : Array Value} {t : TypeId} {fr : Nat × Nat} (h : w.heap[b]? = some (.cells cs t fr)) (j : Nat) : w.cell? ⟨b, j, none⟩ = cs[j]? := cell_of_row w b j cs t fr h
theorem blkf {w : World} {b : Nat} {cs : Array Value} {t : TypeId} (h : w.heap[b]? = some (.cells cs t (0, 0))) (j : Nat) : w.frozen? ⟨b, j, none⟩ = false := by simp [World.frozen?, h]
theorem blkl {w : World} {b : Nat} {o : Obj} (h : w.heap[b]? = some o) : b < w.heap.size := (Array.getElem?_eq_some_iff.1 h).1
/-- A row that is owned is no block that reads otherwise. -/
theorem own_ne {w : World} {B n g : Nat} {e : TypeId} {v : Value} {xs : List Value} {o : Obj} (h : w.ownsRow B e 1 v n xs) (hg : w.heap[g]? = some o) (ho : ∀ cur, o ≠ .cells cur e (0, 0)) : v.ownBlock ≠ some g := by
  obtain ⟨_, h⟩ := h
  rcases h with ⟨rfl, _⟩ | ⟨k, cap, cur, rfl, _, hk, _⟩
  · simp [Value.ownBlock]
  · intro e
    simp only [Value.ownBlock, Option.some.injEq] at e
    subst e
    rw [hg] at hk
    exact ho cur (Option.some.inj hk)
theorem own_setCell {w : World} {B n : Nat} {e : TypeId} {v : Value} {xs : List Value} (h : w.ownsRow B e 1 v n xs) {a : Addr} (ha : v.ownBlock ≠ some a.block) (u : Value) : (w.setCell a u).ownsRow B e 1 v n xs := by
  obtain ⟨h1, h2⟩ := h
  refine ⟨h1, ?_⟩
  rcases h2 with h2 | ⟨g, cap, cur, rfl, h3, h4, h5⟩
  · exact Or.inl h2
  · refine Or.inr ⟨g, cap, cur, rfl, h3, ?_, h5⟩
    rw [Below.heap_setCell w a u g (fun e => ha (by simp [Value.ownBlock, e])), h4]
theorem set_first {w : World} {b : Nat} {p v u : Value} {t : TypeId} (h : w.heap[b]? = some (.cells #[p, v] t (0, 0))) : (w.setCell ⟨b, 0, none⟩ u).heap[b]? = some (.cells #[u, v] t (0, 0)) := by
  simp [World.setCell, Array.getElem?_modify, h]
theorem set_second {w : World} {b : Nat} {p v u : Value} {t : TypeId} (h : w.heap[b]? = some (.cells #[p, v] t (0, 0))) : (w.setCell ⟨b, 1, none⟩ u).heap[b]? = some (.cells #[p, u] t (0, 0)) := by
  simp [World.setCell, Array.getElem?_modify, h]

set_option maxHeartbeats 1000000 in
set_option maxRecDepth 100000 in
theorem copyCheck_call (B b : Nat) (p v : Value) (bs : List Value) (w : World) (h : Bld w B b p v bs) (hp : p = .pointer none ∨ p = selfP b) :
    Calls Tryd.prog 32 #[selfP b] w fun e w' => e = .returned (.tuple #[]) ∧ Bld w' B b (selfP b) v bs ∧ Below B w w' ∧ (∀ g, g ≠ b → w'.heap[g]? = w.heap[g]?) ∧ w'.heap.size = w.heap.size := by
  have c0 : w.cell? ⟨b, 0, none⟩ = some p := by rw [blk2 h.at_]; rfl
  have f0 : w.frozen? ⟨b, 0, none⟩ = false := blkf h.at_ 0
  have hsh : w.shape? b = some (46, 2) := by simp [World.shape?, h.at_]
  have hsz : (Tryd.prog.info? 46).map (·.size) = some 2 := by kernel_rfl
  have hli : liesAt Tryd.prog Tryd.prog.depth 46 (2 / Tryd.prog.cellsOf 46) 0 46 1 = true := by kernel_rfl
  obtain ⟨j, hj, hjs⟩ := Option.map_eq_some_iff.1 hsz
  have H := Aside0.mk h
  clear h
  unfold selfP at hp ⊢
  rcases hp with rfl | rfl
  · go_enter Tryd.func32, Tryd.ntmps32
    go_wp2
    rw [Lib.run_to_unsafe w ⟨b, 0, none⟩ Tryd.underlying44 Tryd.underlying72 hj (by rw [hjs]; decide) hsh (Nat.zero_lt_succ 1)]
    simp only [Result.andThen]
    rw [Oper.upon_value]
    go_wp2
    rw [run_callFunc_extern Tryd.func37 (by kernel_rfl) (by kernel_rfl) (by kernel_rfl) (e := Extern.AbiNoEscape.same) (by kernel_rfl)]
    rw [Lib.run_noEscape]
    simp only [Result.andThen]
    rw [Oper.upon_value]
    go_wp2
    rw [Lib.run_from_unsafe w ⟨b, 0, none⟩ Tryd.underlying72 Tryd.underlying44 hj hsh hli]
    simp only [Result.andThen]
    rw [Oper.upon_value]
    go_wp2
    go_end0
    have h := H.out
    exact ⟨rfl, ⟨h.low, set_first h.at_, own_setCell h.own (a := ⟨b, 0, none⟩) h.ne _, h.ne⟩, (Below.refl _ _).setCell (p := ⟨b, 0, none⟩) h.low _, fun g hg => Below.heap_setCell _ _ _ _ hg, by simp [World.setCell]⟩
  · go_enter Tryd.func32, Tryd.ntmps32
    go_wp2
    rw [Lib.run_neq_ptr_same w _ Tryd.underlying44 hj]
    go_wp2
    go_end0
    exact ⟨rfl, H.out, Below.refl _ _, fun _ _ => rfl, rfl⟩

theorem runeCells_le (r : Int) : 1 ≤ (Lib.runeCells r).length ∧ (Lib.runeCells r).length ≤ 4 := Lib.runeCells_le r
theorem own_form {w : World} {B n : Nat} {e : TypeId} {v : Value} {xs : List Value} (h : w.ownsRow B e 1 v n xs) (hn : 0 < n) : ∃ g cap, v = .slice (some ⟨g, 0, none⟩) n cap := by
  rcases h.2 with ⟨_, h0⟩ | ⟨g, cap', cur, hv, _⟩
  · omega
  · exact ⟨g, cap', hv⟩
theorem still_there {w1 w2 : World} {B b : Nat} {p v : Value} {bs : List Value} {o : Obj} (h1 : Bld w1 B b p v bs) (hgrow : (w1.alloc o).grownBy w2 v.ownBlock) : w2.heap[b]? = some (.cells #[p, v] 46 (0, 0)) := by
  have hlt : b < w1.heap.size := blkl h1.at_
  rw [hgrow.block b (by simp; omega) (fun e => h1.ne e.symm), Lib.alloc_old w1 _ b hlt]
  exact h1.at_
def WrPost (B b : Nat) (v : Value) (bs : List Value) (r : Int) (w : World) (e : Ending) (w' : World) : Prop := ∃ v', e = .returned (.tuple #[.int .i64 (Lib.runeCells r).length, .nilIface]) ∧ Bld w' B b (selfP b) v' (bs ++ Lib.runeCells r) ∧ Below B w w' ∧
      (∀ g, g < w.heap.size → g ≠ b → v.ownBlock ≠ some g → w'.heap[g]? = w.heap[g]?)
set_option maxHeartbeats 2000000 in
set_option maxRecDepth 100000 in
theorem writeRune_call (B b : Nat) (p v : Value) (bs : List Value) (r : Int) (w : World) (h : Bld w B b p v bs) (hp : p = .pointer none ∨ p = selfP b) (hr0 : -2147483648 ≤ r) (hr1 : r ≤ 2147483647)
    (hlen : bs.length + 4 ≤ 140737488355328) (hB : B ≤ w.heap.size) :
    Calls Tryd.prog 22 #[.pointer (some ⟨b, 0, none⟩), .int .i32 r] w (WrPost B b v bs r w) := by
  have HC := Lib.hid (fun W (h : Bld W B b p v bs) => copyCheck_call B b p v bs W h hp)
  have HA := Lib.hid (fun W (h : W.ownsRow B 5 1 v bs.length bs) (hB : B ≤ W.heap.size) => Tryd.utf8_AppendRune_plain B v bs.length bs r hr0 hr1 W h hlen hB)
  have H := Aside0.mk h
  clear h hp
  obtain ⟨ao, cap, rfl⟩ : ∃ ao cap, v = .slice ao bs.length cap := by
    rcases H.out.own.2 with ⟨hv, h0⟩ | ⟨g, cap, cur, hv, _⟩
    · exact ⟨none, 0, by rw [hv, h0]⟩
    · exact ⟨_, _, hv⟩
  have hk4 := Lib.runeCells_le r
  generalize hrc : Lib.runeCells r = rc at HA hk4
  have HRC := Aside0.mk hrc
  clear hrc
  unfold selfP at HC
  go_enter Tryd.func22, Tryd.ntmps22
  go_wp2_with (first
    | (go_at_call 32; refine (HC.out _ H.out).mono ?_; rintro e w1 ⟨rfl, h1, hb1, hk1, hz1⟩; have H1 := Aside0.mk (And.intro h1 (And.intro hb1 (And.intro hk1 hz1))); (have c1 : w1.cell? ⟨b, 1, none⟩ = some (.slice ao bs.length cap) := by rw [blk2 h1.at_]; rfl); clear h1 hb1 hk1 hz1)
    | (go_at_call 33; refine (HA.out _ H1.out.1.own (by have := H1.out.2.1.size; omega)).mono ?_; rintro e w2 ⟨v', rfl, hown', o, hgrow⟩; obtain ⟨g, cap', rfl⟩ := own_form hown' (by omega); have hb2 := still_there H1.out.1 hgrow; (have d1 : w2.cell? ⟨b, 1, none⟩ = some (.slice ao bs.length cap) := by rw [blk2 hb2]; rfl); (have f1 : w2.frozen? ⟨b, 1, none⟩ = false := blkf hb2 1); have H2 := Aside0.mk (And.intro hb2 (And.intro hown' hgrow)); clear hb2 hown' hgrow))
  go_ret2
  obtain ⟨hb2, hown', hgrow⟩ := H2.out
  obtain ⟨h1, hb1, hk1, hz1⟩ := H1.out
  have hgne : g ≠ b := by
    have := own_ne hown' hb2 (fun cur => by simp)
    intro e
    exact this (by rw [e]; rfl)
  refine ⟨.slice (some ⟨g, 0, none⟩) (bs.length + rc.length) cap', ?_, ⟨h1.low, ?_, ?_, ?_⟩, ?_, ?_⟩
  · have e : ((bs.length : Int) + (rc.length : Int) - (bs.length : Int)) = (rc.length : Int) := by omega
    rw [HRC.out]
    simp [e]
  · exact set_second hb2
  · rw [HRC.out, List.length_append]
    exact own_setCell hown' (a := ⟨b, 1, none⟩) (by simpa [Value.ownBlock] using hgne) _
  · simpa [Value.ownBlock] using hgne
  · exact ((hb1.alloc (by have := hb1.size; omega) _).grown hgrow (by have := hb1.size; simp; omega) (fun k hk => by
      rcases h1.own.2 with ⟨hv, h0⟩ | ⟨q, cap2, cur, hv, hq, _⟩
      · rw [hv] at hk; simp [Value.ownBlock] at hk
      · rw [hv] at hk; simp only [Value.ownBlock, Option.some.injEq] at hk; omega)).setCell (p := ⟨b, 1, none⟩) h1.low _
  · intro k hk hkb hkv
    rw [Below.heap_setCell _ _ _ _ hkb, hgrow.block k (by simp; omega) (fun e => hkv e.symm), Lib.alloc_old w1 _ k (by omega), hk1 k hkb]
end Go.Proofs.YtmjldihmcbjfhaaDoor.H
