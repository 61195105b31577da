/-
  The tied card of the law ScreenMenus: for every input the call returns true, and what was there stays as it was; the variables that the row lists are as the program's text lays them.
-/
import Derived.Test.YtnkkccafdbaoeaaGreatDoorCards
import Derived.Test.YtnkkccafdbaoeaaGreatDoorSTie
import Derived.Test.YtnkkccafdbaoeaaGreatDoorSWitness
import Derived.Test.YtnkkccafdbaoeaaGreatDoorSGoes
import Derived.Test.YtnkkccafdbaoeaaGreatDoorSLawMenus
import Derived.WalkKit
import Derived.ProofKit
import Derived.OpenShut
import Derived.ShutString
import Derived.LaidMore
import Derived.SevenTiedAt
import Derived.Stop.Joined
import Derived.Lib.SmallJoins
namespace Go.Proofs.YtnkkccafdbaoeaaGreatDoor.screenMenus
open Go.ChangeShapes Go.WideShapes Go.ChangeAt Go.RowKit Go.Joins
open Go.ChangeMaps (open_string shut_string)
set_option linter.unusedVariables false

theorem own : ownKnob Tryz.prog.godebug = none := by kernel_rfl
theorem laidOut : laidOutB Tryz.prog = true := by kernel_rfl

set_option maxRecDepth 100000 in
theorem contract (H0 : Type) (enc : TypeId × Value → H0) (W : World) (base : Nat) (args : Array Value) (ds gs : List (DataW H0)) (before : List MemPlace)
    (hval0 : ∀ (j : Nat) t v, Tryz.f6.params[j]? = some t → args[j]? = some v → Value.okWide Tryz.prog W .any base t v)
    (hW : DataW.Whole enc Tryz.prog Tryz.f6.params.toList Rows.screenMenusSpec.vars false W args.toList ds gs before)
    (hsz : (DataW.weightsEach Tryz.prog (Tryz.f6.params.toList ++ Rows.screenMenusSpec.plain.varTypes Tryz.prog) (ds ++ gs)).all (· ≤ reachBytes) = true) :
    Calls Tryz.prog 6 args W fun e W' => ∃ v, e = .returned v ∧ Rows.screenMenusSpec.post enc Tryz.prog Tryz.f6 false true false false W args v W' := by
  have hval := hval0
  have hW' := hW
  obtain ⟨p, q, hA0, hV, rfl, hfz, hnd⟩ := hW
  have hA : DataW.TrodAll enc Tryz.prog W 0 (fun _ => true) true Tryz.f6.params.toList args.toList ds p := hA0
  rw [Tryz.params6] at hA hval hsz
  obtain ⟨v0, vs0, d0, ds0, p0, q0, hargs, rfl, rfl, h0, r0⟩ := trodAll_cons hA
  obtain ⟨v1, vs1, d1, ds1, p1, q1, rfl, rfl, rfl, h1, r1⟩ := trodAll_cons r0
  obtain ⟨v2, vs2, d2, ds2, p2, q2, rfl, rfl, rfl, h2, r2⟩ := trodAll_cons r1
  obtain ⟨rfl, rfl, rfl⟩ := trodAll_nil r2
  obtain rfl : args = #[v0, v1, v2] := by cases args; simp_all
  obtain ⟨rfl, rfl⟩ := trodVars_none hV
  have k0 := h0
  have lt0 : ∀ x ∈ p0, x.block < W.heap.size := by obtain ⟨m, hm⟩ := k0; exact DataW.trod_lt m _ _ _ hm
  have k1 := h1
  have lt1 : ∀ x ∈ p1, x.block < W.heap.size := by obtain ⟨m, hm⟩ := k1; exact DataW.trod_lt m _ _ _ hm
  have k2 := h2
  have lt2 : ∀ x ∈ p2, x.block < W.heap.size := by obtain ⟨m, hm⟩ := k2; exact DataW.trod_lt m _ _ _ hm
  obtain ⟨A0, n0, c0, xs0, rfl, hx0, hn0, hr0, hz0⟩ := Go.Proofs.YtnkkccafdbaoeaaGreatDoor.H.open_ls (hval 0 35 v0 rfl rfl) h0
  have z0 := H.sz_slice hsz (j := 0) rfl rfl Tryz.underlying35 (by rw [show Tryz.prog.bytesOf 9 = 16 by kernel_rfl]; decide) h0
  obtain ⟨A1, n1, c1, xs1, rfl, hx1, hn1, hr1⟩ := Go.Proofs.YtnkkccafdbaoeaaGreatDoor.H.open_lb (hval 1 36 v1 rfl rfl) h1
  have z1 := H.sz_slice hsz (j := 1) rfl rfl Tryz.underlying36 (by rw [show Tryz.prog.bytesOf 4 = 1 by kernel_rfl]; decide) h1
  obtain ⟨A2, n2, c2, xs2, rfl, hx2, hn2, hc2, hr2⟩ := Go.Proofs.YtnkkccafdbaoeaaGreatDoor.H.open_li (hval 2 30 v2 rfl rfl) h2
  have z2 := H.sz_slice hsz (j := 2) rfl rfl Tryz.underlying30 (by rw [show Tryz.prog.bytesOf 3 = 8 by kernel_rfl]; decide) h2
  clear hA0 hval0
  refine (Go.Proofs.YtnkkccafdbaoeaaGreatDoor.H.law_menus A0 n0 c0 xs0 A1 n1 c1 xs1 A2 n2 c2 xs2 W hx0 z0 hr0 hz0 hx1 z1 hr1 hx2 z2 hc2 hr2).mono fun e W' ⟨he, bel⟩ => ?_
  subst he
  exact ⟨_, rfl, _, _, _, [], _, [], hW', trodAll_mk1 (shut_bool Tryz.underlying4 _), (trodAll_cons_mk (Below.trod laidOut (by kernel_rfl) (of_decide_eq_true (by kernel_rfl)) k0 bel lt0) (trodAll_cons_mk (Below.trod laidOut (by kernel_rfl) (of_decide_eq_true (by kernel_rfl)) k1 bel lt1) (trodAll_cons_mk (Below.trod laidOut (by kernel_rfl) (of_decide_eq_true (by kernel_rfl)) k2 bel lt2) trodAll_mk0))), rfl, bel.frame _, fun h => by cases h⟩

theorem noInit : Tryz.prog.inits.idxOf? 6 = none := by kernel_rfl
theorem w1 (os : Os) : Input.okWideB Tryz.checked.prog ((H.laidWorld os).forCall (fun _ _ => 0) ⟨#[], #[.slice none 0 0, .slice none 0 0, .slice none 0 0], []⟩) 6 ⟨#[], #[.slice none 0 0, .slice none 0 0, .slice none 0 0], []⟩ = true := by kernel_rfl
theorem w2 (os : Os) {H0 : Type} (enc : TypeId × Value → H0) : Rows.screenMenusSpec.preB enc Tryz.checked.prog Tryz.f6 Rows.screenMenusRow.domain false ((H.laidWorld os).forCall (fun _ _ => 0) ⟨#[], #[.slice none 0 0, .slice none 0 0, .slice none 0 0], []⟩).memory #[.slice none 0 0, .slice none 0 0, .slice none 0 0] 8 = true := by kernel_rfl
theorem w3 (os : Os) {H0 : Type} (enc : TypeId × Value → H0) : Rows.screenMenusSpec.sizedB enc Tryz.checked.prog Tryz.f6 false ((H.laidWorld os).forCall (fun _ _ => 0) ⟨#[], #[.slice none 0 0, .slice none 0 0, .slice none 0 0], []⟩).memory #[.slice none 0 0, .slice none 0 0, .slice none 0 0] 8 = true := by kernel_rfl
set_option maxRecDepth 100000 in
theorem lifted (os : Os) (started : os.Started) (H0 : Type) (enc : TypeId × Value → H0) :
    ReturnsInHanded {} Tryz.checked os 6 .any (fun w args => (Rows.screenMenusSpec.pre enc Tryz.prog Tryz.f6 Rows.screenMenusRow.domain false w args ∧ laidMetH Tryz.prog Rows.screenMenusRow.laid w) ∧ sizedMet enc Tryz.prog Tryz.f6 (OpenSpec.ofChange Rows.screenMenusSpec) false w args)
      (Rows.screenMenusSpec.post enc Tryz.prog Tryz.f6 false true false false) := by
  refine returnsInHanded_of_change_and (C := Tryz.checked) (X := fun w _ => laidMetH Tryz.prog Rows.screenMenusRow.laid w) (fun _ _ _ hh h => h.of_heap hh) own started noInit Tryz.func6
    (ChangeSpec.witness_shaped (enc := enc) (C := Tryz.checked) (os := os) (X := fun w _ => laidMetH Tryz.prog Rows.screenMenusRow.laid w) false (H.laidWorld os) #[.slice none 0 0, .slice none 0 0, .slice none 0 0] 8 (H.laidWorld_os os) (H.laidWorld_shaped os _)
      (w1 os) (w2 os enc) (w3 os enc) (H.laidWorld_met os _)) ?_
  intro W base args ds gs before hval hW hc hsz hL _
  exact contract H0 enc W base args ds gs before hval hW hsz

theorem c0 : (Rows.screenMenusRow.wf (OpenSpec.ofChange Rows.screenMenusSpec)) = true := by kernel_rfl
theorem c1 : (laidOutB Tryz.pinned.checked.prog) = true := by kernel_rfl
theorem c2 : (mapsRowed Tryz.pinned.checked.prog) = true := by kernel_rfl
theorem c3 : (Tryz.f6.params.all (Tryz.pinned.checked.prog.readableRec ·)) = true := by kernel_rfl
theorem c4 : (namedTie Tryz.pinned.checked.prog Rows.screenMenusRow.named Rows.screenMenusSpec.vars) = true := by kernel_rfl
theorem c5 : ((Rows.screenMenusRow.stops == [])) = true := by kernel_rfl
theorem c6 : ((Tryz.pinned.checked.prog.stops == [])) = true := by kernel_rfl
theorem c7 : ((Rows.screenMenusRow.knobs == [])) = true := by kernel_rfl
theorem c8 : ((Tryz.pinned.checked.prog.stopKnobs == [])) = true := by kernel_rfl
theorem c9 : ((Rows.screenMenusRow.inPlace == Tryz.pinned.checked.prog.inPlace 6)) = true := by kernel_rfl
theorem c10 : ((Rows.screenMenusRow.unfollowed == Tryz.pinned.checked.prog.unfollowed 6)) = true := by kernel_rfl
theorem c11 : ((Rows.screenMenusRow.recurses == Tryz.pinned.checked.prog.recurses 6)) = true := by kernel_rfl
theorem c12 : ((Rows.screenMenusRow.named == Tryz.pinned.checked.prog.varsNamed 6)) = true := by kernel_rfl
theorem c13 : ((Rows.screenMenusRow.maps == (Tryz.f6.params.toList ++ Rows.screenMenusSpec.plain.varTypes Tryz.pinned.checked.prog).any (Tryz.pinned.checked.prog.mapsRec ·))) = true := by kernel_rfl
theorem c14 : ((Rows.screenMenusRow.ifaces == (Tryz.f6.params.toList ++ Rows.screenMenusSpec.plain.varTypes Tryz.pinned.checked.prog).any (Tryz.pinned.checked.prog.ifacesRec ·))) = true := by kernel_rfl
theorem c15 : ((Rows.screenMenusRow.mapsOut == Tryz.pinned.checked.prog.mapsAmong Tryz.f6.resultTypes.toList)) = true := by kernel_rfl
theorem c16 : ((Rows.screenMenusRow.loops == (Tryz.f6.params.toList ++ Rows.screenMenusSpec.plain.varTypes Tryz.pinned.checked.prog).any (Tryz.pinned.checked.prog.loopsFrom ·))) = true := by kernel_rfl
theorem c17 : ((Rows.screenMenusRow.wideKeys == (Tryz.f6.params.toList ++ Rows.screenMenusSpec.plain.varTypes Tryz.pinned.checked.prog ++ Tryz.f6.resultTypes.toList).any (Tryz.pinned.checked.prog.wideKeysFrom ·))) = true := by kernel_rfl
theorem c18 : (Rows.screenMenusSpec.vars.all (Tryz.pinned.checked.prog.varReadable ·)) = true := by kernel_rfl
theorem c19 : (Tryz.f6.resultTypes.all (fun t => Tryz.pinned.checked.prog.readableRec t && decide (t < Tryz.pinned.checked.prog.types.size))) = true := by kernel_rfl
theorem c20 : ((Rows.screenMenusRow.ifacesOut == Tryz.f6.resultTypes.toList.any (Tryz.pinned.checked.prog.ifacesRec ·))) = true := by kernel_rfl
theorem c21 : ((Rows.screenMenusRow.loopsOut == Tryz.f6.resultTypes.toList.any (Tryz.pinned.checked.prog.loopsFrom ·))) = true := by kernel_rfl
theorem c22 : ((Rows.screenMenusRow.plainKeys == Tryz.pinned.checked.prog.plainKeys)) = true := by kernel_rfl
theorem c23 : (Rows.screenMenusRow.shortTexts.isNone) = true := by kernel_rfl
theorem c24 : (Tryz.pinned.checked.prog.stopsHeard) = true := by kernel_rfl
theorem c25 : (Tryz.pinned.checked.prog.mayEnter) = true := by kernel_rfl
theorem c26 : ((Rows.screenMenusRow.lifted == Tryz.pinned.checked.prog.liftsFinal)) = true := by kernel_rfl
theorem c27 : ((Tryz.pinned.checked.prog.make == some Rows.screenMenusRow.make)) = true := by kernel_rfl
theorem c28 : ((Rows.screenMenusRow.kinds == (if Rows.screenMenusRow.domain.isEmpty then [] else Tryz.f6.params.toList.map fun t => match Tryz.pinned.checked.prog.underlying t with | some (.int k) => some k | _ => none))) = true := by kernel_rfl
theorem c29 : ((Rows.screenMenusRow.pinned == Rows.screenMenusRow.pinnedBy)) = true := by kernel_rfl
theorem c30 : ((Rows.screenMenusRow.veiled == (Tryz.f6.params.toList ++ Rows.screenMenusSpec.plain.varTypes Tryz.pinned.checked.prog ++ Tryz.f6.resultTypes.toList).any (Tryz.pinned.checked.prog.veiledRec ·))) = true := by kernel_rfl
theorem c31 : (Rows.screenMenusRow.veiledFits Tryz.pinned.checked.prog Tryz.f6.params.toList (Tryz.f6.params.toList ++ Rows.screenMenusSpec.plain.varTypes Tryz.pinned.checked.prog ++ Tryz.f6.resultTypes.toList)) = true := by kernel_rfl
theorem an {a b : Bool} (h : a = true) (k : b = true) : (a && b) = true := by rw [h, k]; rfl
set_option maxRecDepth 100000 in
theorem closed : joinedFacts Tryz.pinned.checked.prog 6 Tryz.f6 Rows.screenMenusSpec Rows.screenMenusRow = true := by
  unfold joinedFacts
  exact (an (an (an (an (an (an (an (an (an (an (an (an (an (an (an (an (an (an (an (an (an (an (an (an (an (an (an (an (an (an (an c0 c1) c2) c3) c4) c5) c6) c7) c8) c9) c10) c11) c12) c13) c14) c15) c16) c17) c18) c19) c20) c21) c22) c23) c24) c25) c26) c27) c28) c29) c30) c31)
theorem named : Tryz.prog.funcNamed "cabinetry/cabinetrylaw26.ScreenMenus" = some 6 := by kernel_rfl
theorem isInst : Tryz.f6.isInstance Tryz.pinned.checked.prog Rows.screenMenusRow.origin Rows.screenMenusRow.targs := of_decide_eq_true (by kernel_rfl)
theorem isWrap : Tryz.f6.isWrapper Tryz.pinned.checked.prog Rows.screenMenusRow.wrapper Rows.screenMenusRow.mainSum := by unfold Func.isWrapper; first | (rw [if_pos (by decide +kernel)]; kernel_rfl) | (rw [if_neg (by decide +kernel)]; exact ⟨rfl, rfl⟩)
theorem said : Rows.ScreenMenusSaid :=
  OpenClaim.holds_of_wide 6 Tryz.f6 rfl rfl rfl rfl rfl rfl rfl ⟨rfl, rfl, rfl, rfl, rfl⟩ rfl rfl rfl rfl rfl named Tryz.func6 closed isInst isWrap (fun os started H0 enc _ => lifted os started H0 enc)

theorem looks : true = Tryz.pinned.checked.prog.looks [] := by kernel_rfl
theorem noStand0 : Tryz.prog.wantsStandIn 35 = false := by kernel_rfl
theorem noStand1 : Tryz.prog.wantsStandIn 36 = false := by kernel_rfl
theorem noStand2 : Tryz.prog.wantsStandIn 30 = false := by kernel_rfl
theorem plain (f : FuncId) (fn : Func) (hf : Tryz.pinned.checked.prog.funcNamed "cabinetry/cabinetrylaw26.ScreenMenus" = some f) (hfn : Tryz.pinned.checked.prog.funcs[f]? = some fn) :
    true = Tryz.pinned.checked.prog.looks [] ∧ ∀ (j : Nat) t, fn.params[j]? = some t → Tryz.pinned.checked.prog.wantsStandIn t = false := by
  obtain rfl : f = 6 := Option.some.inj (named.symm.trans hf) |>.symm
  obtain rfl : fn = Tryz.f6 := (Option.some.inj (Tryz.func6.symm.trans hfn)).symm
  refine ⟨looks, fun j t ht => ?_⟩
  rw [Tryz.params6] at ht
  have hm := Array.mem_of_getElem? ht
  simp only [List.mem_toArray, List.mem_cons, List.not_mem_nil, or_false] at hm
  rcases hm with rfl | rfl | rfl
  · exact noStand0
  · exact noStand1
  · exact noStand2
theorem textFits : Rows.screenMenusRow.wfByText (OpenSpec.ofChange Rows.screenMenusSpec) = true := by kernel_rfl
theorem mainFits : Tryz.pinned.checked.prog.mainIs = some (Rows.screenMenusCard.stood.harness.1, Rows.screenMenusCard.stood.harness.2.toList) := by kernel_rfl
theorem goes : false = Rows.screenMenusRow.goesBy Tryz.pinned.checked.prog := H.goesBy_none H.no_goes _ rfl

/-- The given statement: the tied card of the law ScreenMenus. -/
theorem card : Rows.ScreenMenusCardSaid :=
  Claim7.holds_tied_plain_at .later [] _ _ _ _ said (fun _ h => by cases h) textFits (fun _ h => by cases h) screenMenus_row_tie rfl ⟨rfl, rfl⟩ mainFits rfl plain goes
#print axioms card
end Go.Proofs.YtnkkccafdbaoeaaGreatDoor.screenMenus
