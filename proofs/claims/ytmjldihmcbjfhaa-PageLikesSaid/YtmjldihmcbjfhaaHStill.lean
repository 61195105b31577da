/-
  That the reference's pair, IsLetter, upper and weight leave the world as it is: the printed walks with a stronger end.
-/
import Derived.Test.YtmjldihmcbjfhaaPPageOrdersx4
import Derived.Test.YtmjldihmcbjfhaaPPageOrdersx5
namespace Go.Proofs.Ytmjldihmcbjfhaa.Still
open Go.RowKit Go.Proofs.YtmjldihmcbjfhaaW.PrintWords Go.Proofs.YtmjldihmcbjfhaaW.PrintLast Go.Proofs.YtmjldihmcbjfhaaW.PrintMore Go.Proofs.Ytmjldihmcbjfhaa.PPageOrders
attribute [local go_sem] max2_int min2_int max_two min_two max_three min_three max_four min_four
set_option linter.unusedVariables false
set_option linter.unusedSimpArgs false
set_option maxHeartbeats 8000000 in
set_option maxRecDepth 100000 in
theorem cabinetryref02_pair (k : Nat) (a0 : Int) (a1 : Int) (r1 : Bool) (r2 : Bool) (r3 : Int) (w : World) (h : cabinetryref02_pair.f k a0 a1 = some (r1, r2, r3)) :
    Calls Try.prog 54 #[.int .u8 a0, .int .i64 a1] w fun e w' => e = .returned (.tuple #[.bool r1, .bool r2, .int .u8 r3]) ∧ w = w' := by
  have H : (if a0 ≥ 65 then (cabinetryref02_pair.j0 k a0 a1 (decide (a0 ≤ 90))) else (cabinetryref02_pair.j0 k a0 a1 false)) = some (r1, r2, r3) := h
  clear h
  have HC3 := Aside0.mk H
  clear H
  go_enter Try.func54, Try.ntmps54
  go_upto_region 1 with (fail)
  go_cut [7] (fun v7 wc => ∃ (kq : Nat) (x7_2 : Bool), v7 = .bool x7_2 ∧ Aside0 (cabinetryref02_pair.j0 kq a0 a1 x7_2 = some (r1, r2, r3)) ∧ Aside0 (kq ≤ k) ∧ w = wc)
  case first =>
    have H := HC3.out
    clear HC3
    by_cases c4 : a0 ≥ 65
    · rw [if_pos c4] at H
      have c4b0 : decide (65 ≤ a0) = true := decide_eq_true c4
      clear c4
      (first | rw [c4b0] | (simp only [i64_w, i32_w]; rw [c4b0]) | skip)
      have H' := Aside0.mk H
      clear H
      go_wp2
      go_meet
      case rel => exact ⟨_, (decide (a0 ≤ 90)), (by first | rfl | (simp; done) | (simp [*]; done)), H', ⟨by first | omega | exact Nat.le_refl _⟩, rfl⟩
    · rw [if_neg c4] at H
      have c4b0 : decide (65 ≤ a0) = false := decide_eq_false c4
      clear c4
      (first | rw [c4b0] | (simp only [i64_w, i32_w]; rw [c4b0]) | skip)
      have H' := Aside0.mk H
      clear H
      go_wp2
      go_meet
      case rel => exact ⟨_, (false), (by first | rfl | (simp; done) | (simp [*]; done)), H', ⟨by first | omega | exact Nat.le_refl _⟩, rfl⟩
  case rest =>
    clear HC3
    try clear p2
    try clear c4
    try clear c4b0
    obtain ⟨kq, x7_2, rfl, HA, HJ2, rfl⟩ := hcut
    cases kq with
    | zero => exact absurd HA.out (by simp [cabinetryref02_pair.j0])
    | succ kj2 =>
      have H := HA.out
      clear HA
      simp only [cabinetryref02_pair.j0] at H
      by_cases c5 : x7_2 = true
      · subst c5
        have H1 : (some (true, false, 32)) = some (r1, r2, r3) := by rw [if_pos rfl] at H; exact H
        clear H
        have H := H1
        clear H1
        simp only [Option.some.injEq, Prod.mk.injEq] at H
        obtain ⟨rfl, rfl, rfl⟩ := H
        go_wp2
        go_ret3
        exact ⟨by first | rfl | (simp; done) | (simp [*]; done), rfl⟩
      · replace c5 := Bool.eq_false_iff.mpr c5
        subst c5
        have H1 : (if a0 ≥ 97 then (cabinetryref02_pair.j1 kj2 a0 a1 (decide (a0 ≤ 122))) else (cabinetryref02_pair.j1 kj2 a0 a1 false)) = some (r1, r2, r3) := by rw [if_neg (show ¬ (false = true) by decide)] at H; exact H
        clear H
        have H := H1
        clear H1
        have HC6 := Aside0.mk H
        clear H
        go_upto_region 3 with (fail)
        go_cut [14] (fun v14 wc => ∃ (kq : Nat) (x14_5 : Bool), v14 = .bool x14_5 ∧ Aside0 (cabinetryref02_pair.j1 kq a0 a1 x14_5 = some (r1, r2, r3)) ∧ Aside0 (kq ≤ kj2) ∧ w = wc)
        case first =>
          have H := HC6.out
          clear HC6
          by_cases c7 : a0 ≥ 97
          · rw [if_pos c7] at H
            have c7b0 : decide (97 ≤ a0) = true := decide_eq_true c7
            clear c7
            (first | rw [c7b0] | (simp only [i64_w, i32_w]; rw [c7b0]) | skip)
            have H' := Aside0.mk H
            clear H
            go_wp2
            go_meet
            case rel => exact ⟨_, (decide (a0 ≤ 122)), (by first | rfl | (simp; done) | (simp [*]; done)), H', ⟨by have := HJ2.out; first | omega | exact Nat.le_refl _⟩, rfl⟩
          · rw [if_neg c7] at H
            have c7b0 : decide (97 ≤ a0) = false := decide_eq_false c7
            clear c7
            (first | rw [c7b0] | (simp only [i64_w, i32_w]; rw [c7b0]) | skip)
            have H' := Aside0.mk H
            clear H
            go_wp2
            go_meet
            case rel => exact ⟨_, (false), (by first | rfl | (simp; done) | (simp [*]; done)), H', ⟨by have := HJ2.out; first | omega | exact Nat.le_refl _⟩, rfl⟩
        case rest =>
          clear HC6
          try clear c2
          try clear p2
          try clear c4
          try clear c4b0
          try clear c5
          try clear c7
          try clear c7b0
          try clear p2
          obtain ⟨kq, x14_5, rfl, HA, HJ5, rfl⟩ := hcut
          cases kq with
          | zero => exact absurd HA.out (by simp [cabinetryref02_pair.j1])
          | succ kj5 =>
            have H := HA.out
            clear HA
            simp only [cabinetryref02_pair.j1] at H
            by_cases c8 : x14_5 = true
            · subst c8
              have H1 : (some (false, true, 32)) = some (r1, r2, r3) := by rw [if_pos rfl] at H; exact H
              clear H
              have H := H1
              clear H1
              simp only [Option.some.injEq, Prod.mk.injEq] at H
              obtain ⟨rfl, rfl, rfl⟩ := H
              go_wp2
              go_ret3
              exact ⟨by first | rfl | (simp; done) | (simp [*]; done), rfl⟩
            · replace c8 := Bool.eq_false_iff.mpr c8
              subst c8
              have H1 : (if a1 = 1 then (if a0 ≥ 192 then (if a0 ≤ 222 then (cabinetryref02_pair.j2 kj5 a0 a1 (a0 != 215)) else (cabinetryref02_pair.j2 kj5 a0 a1 false)) else (cabinetryref02_pair.j2 kj5 a0 a1 false)) else (cabinetryref02_pair.j2 kj5 a0 a1 false)) = some (r1, r2, r3) := by rw [if_neg (show ¬ (false = true) by decide)] at H; exact H
              clear H
              have H := H1
              clear H1
              have HC9 := Aside0.mk H
              clear H
              go_upto_region 5 with (fail)
              go_cut [21] (fun v21 wc => ∃ (kq : Nat) (x21_8 : Bool), v21 = .bool x21_8 ∧ Aside0 (cabinetryref02_pair.j2 kq a0 a1 x21_8 = some (r1, r2, r3)) ∧ Aside0 (kq ≤ kj5) ∧ w = wc)
              case first =>
                have H := HC9.out
                clear HC9
                by_cases c10 : a1 = 1
                · rw [if_pos c10] at H
                  have c10b0 : (a1 == 1) = true := beq_iff_eq.mpr c10
                  have c10b1 : (a1 != 1) = false := bne_eq_false_iff_eq.mpr c10
                  clear c10
                  (first | rw [c10b0] | (simp only [i64_w, i32_w]; rw [c10b0]) | skip)
                  by_cases c11 : a0 ≥ 192
                  · rw [if_pos c11] at H
                    have c11b0 : decide (192 ≤ a0) = true := decide_eq_true c11
                    clear c11
                    by_cases c12 : a0 ≤ 222
                    · rw [if_pos c12] at H
                      have c12b0 : decide (a0 ≤ 222) = true := decide_eq_true c12
                      clear c12
                      have H' := Aside0.mk H
                      clear H
                      go_wp2
                      go_meet
                      case rel => exact ⟨_, ((a0 != 215)), (by first | rfl | (simp; done) | (simp [*]; done)), H', ⟨by have := HJ2.out; have := HJ5.out; first | omega | exact Nat.le_refl _⟩, rfl⟩
                    · rw [if_neg c12] at H
                      have c12b0 : decide (a0 ≤ 222) = false := decide_eq_false c12
                      clear c12
                      have H' := Aside0.mk H
                      clear H
                      go_wp2
                      go_meet
                      case rel => exact ⟨_, (false), (by first | rfl | (simp; done) | (simp [*]; done)), H', ⟨by have := HJ2.out; have := HJ5.out; first | omega | exact Nat.le_refl _⟩, rfl⟩
                  · rw [if_neg c11] at H
                    have c11b0 : decide (192 ≤ a0) = false := decide_eq_false c11
                    clear c11
                    have H' := Aside0.mk H
                    clear H
                    go_wp2
                    go_meet
                    case rel => exact ⟨_, (false), (by first | rfl | (simp; done) | (simp [*]; done)), H', ⟨by have := HJ2.out; have := HJ5.out; first | omega | exact Nat.le_refl _⟩, rfl⟩
                · rw [if_neg c10] at H
                  have c10b0 : (a1 == 1) = false := beq_eq_false_iff_ne.mpr c10
                  have c10b1 : (a1 != 1) = true := bne_iff_ne.mpr c10
                  (first | rw [c10b0] | (simp only [i64_w, i32_w]; rw [c10b0]) | skip)
                  have H' := Aside0.mk H
                  clear H
                  go_wp2
                  go_meet
                  case rel => exact ⟨_, (false), (by first | rfl | (simp; done) | (simp [*]; done)), H', ⟨by have := HJ2.out; have := HJ5.out; first | omega | exact Nat.le_refl _⟩, rfl⟩
              case rest =>
                clear HC9
                try clear c1
                try clear c2
                try clear p2
                try clear c4
                try clear c4b0
                try clear c5
                try clear c7
                try clear c7b0
                try clear c8
                try clear c10
                try clear c10b0
                try clear c10b1
                try clear c11
                try clear c11b0
                try clear c12
                try clear c12b0
                try clear p2
                obtain ⟨kq, x21_8, rfl, HA, HJ8, rfl⟩ := hcut
                cases kq with
                | zero => exact absurd HA.out (by simp [cabinetryref02_pair.j2])
                | succ kj8 =>
                  have H := HA.out
                  clear HA
                  simp only [cabinetryref02_pair.j2] at H
                  by_cases c13 : x21_8 = true
                  · subst c13
                    have H1 : (some (true, false, 32)) = some (r1, r2, r3) := by rw [if_pos rfl] at H; exact H
                    clear H
                    have H := H1
                    clear H1
                    simp only [Option.some.injEq, Prod.mk.injEq] at H
                    obtain ⟨rfl, rfl, rfl⟩ := H
                    go_wp2
                    go_ret3
                    exact ⟨by first | rfl | (simp; done) | (simp [*]; done), rfl⟩
                  · replace c13 := Bool.eq_false_iff.mpr c13
                    subst c13
                    have H1 : (if a1 = 1 then (if a0 ≥ 224 then (if a0 ≤ 254 then (cabinetryref02_pair.j3 kj8 a0 a1 (a0 != 247)) else (cabinetryref02_pair.j3 kj8 a0 a1 false)) else (cabinetryref02_pair.j3 kj8 a0 a1 false)) else (cabinetryref02_pair.j3 kj8 a0 a1 false)) = some (r1, r2, r3) := by rw [if_neg (show ¬ (false = true) by decide)] at H; exact H
                    clear H
                    have H := H1
                    clear H1
                    have HC14 := Aside0.mk H
                    clear H
                    go_upto_region 7 with (fail)
                    go_cut [36] (fun v36 wc => ∃ (kq : Nat) (x36_13 : Bool), v36 = .bool x36_13 ∧ Aside0 (cabinetryref02_pair.j3 kq a0 a1 x36_13 = some (r1, r2, r3)) ∧ Aside0 (kq ≤ kj8) ∧ w = wc)
                    case first =>
                      have H := HC14.out
                      clear HC14
                      by_cases c15 : a1 = 1
                      · rw [if_pos c15] at H
                        have c15b0 : (a1 == 1) = true := beq_iff_eq.mpr c15
                        have c15b1 : (a1 != 1) = false := bne_eq_false_iff_eq.mpr c15
                        clear c15
                        (first | rw [c15b0] | (simp only [i64_w, i32_w]; rw [c15b0]) | skip)
                        by_cases c16 : a0 ≥ 224
                        · rw [if_pos c16] at H
                          have c16b0 : decide (224 ≤ a0) = true := decide_eq_true c16
                          clear c16
                          by_cases c17 : a0 ≤ 254
                          · rw [if_pos c17] at H
                            have c17b0 : decide (a0 ≤ 254) = true := decide_eq_true c17
                            clear c17
                            have H' := Aside0.mk H
                            clear H
                            go_wp2
                            go_meet
                            case rel => exact ⟨_, ((a0 != 247)), (by first | rfl | (simp; done) | (simp [*]; done)), H', ⟨by have := HJ2.out; have := HJ5.out; have := HJ8.out; first | omega | exact Nat.le_refl _⟩, rfl⟩
                          · rw [if_neg c17] at H
                            have c17b0 : decide (a0 ≤ 254) = false := decide_eq_false c17
                            clear c17
                            have H' := Aside0.mk H
                            clear H
                            go_wp2
                            go_meet
                            case rel => exact ⟨_, (false), (by first | rfl | (simp; done) | (simp [*]; done)), H', ⟨by have := HJ2.out; have := HJ5.out; have := HJ8.out; first | omega | exact Nat.le_refl _⟩, rfl⟩
                        · rw [if_neg c16] at H
                          have c16b0 : decide (224 ≤ a0) = false := decide_eq_false c16
                          clear c16
                          have H' := Aside0.mk H
                          clear H
                          go_wp2
                          go_meet
                          case rel => exact ⟨_, (false), (by first | rfl | (simp; done) | (simp [*]; done)), H', ⟨by have := HJ2.out; have := HJ5.out; have := HJ8.out; first | omega | exact Nat.le_refl _⟩, rfl⟩
                      · rw [if_neg c15] at H
                        have c15b0 : (a1 == 1) = false := beq_eq_false_iff_ne.mpr c15
                        have c15b1 : (a1 != 1) = true := bne_iff_ne.mpr c15
                        (first | rw [c15b0] | (simp only [i64_w, i32_w]; rw [c15b0]) | skip)
                        have H' := Aside0.mk H
                        clear H
                        go_wp2
                        go_meet
                        case rel => exact ⟨_, (false), (by first | rfl | (simp; done) | (simp [*]; done)), H', ⟨by have := HJ2.out; have := HJ5.out; have := HJ8.out; first | omega | exact Nat.le_refl _⟩, rfl⟩
                    case rest =>
                      clear HC14
                      try clear c1
                      try clear c2
                      try clear p2
                      try clear c4
                      try clear c4b0
                      try clear c5
                      try clear c7
                      try clear c7b0
                      try clear c8
                      try clear c10
                      try clear c10b0
                      try clear c10b1
                      try clear c11
                      try clear c11b0
                      try clear c12
                      try clear c12b0
                      try clear c13
                      try clear c15
                      try clear c15b0
                      try clear c15b1
                      try clear c16
                      try clear c16b0
                      try clear c17
                      try clear c17b0
                      try clear p2
                      obtain ⟨kq, x36_13, rfl, HA, HJ13, rfl⟩ := hcut
                      cases kq with
                      | zero => exact absurd HA.out (by simp [cabinetryref02_pair.j3])
                      | succ kj13 =>
                        have H := HA.out
                        clear HA
                        simp only [cabinetryref02_pair.j3] at H
                        by_cases c18 : x36_13 = true
                        · subst c18
                          have H1 : (some (false, true, 32)) = some (r1, r2, r3) := by rw [if_pos rfl] at H; exact H
                          clear H
                          have H := H1
                          clear H1
                          simp only [Option.some.injEq, Prod.mk.injEq] at H
                          obtain ⟨rfl, rfl, rfl⟩ := H
                          go_wp2
                          go_ret3
                          exact ⟨by first | rfl | (simp; done) | (simp [*]; done), rfl⟩
                        · replace c18 := Bool.eq_false_iff.mpr c18
                          subst c18
                          have H1 : (if a1 = 2 then (if a0 ≥ 128 then (cabinetryref02_pair.j4 kj13 a0 a1 (decide (a0 ≤ 143))) else (cabinetryref02_pair.j4 kj13 a0 a1 false)) else (cabinetryref02_pair.j4 kj13 a0 a1 false)) = some (r1, r2, r3) := by rw [if_neg (show ¬ (false = true) by decide)] at H; exact H
                          clear H
                          have H := H1
                          clear H1
                          have HC19 := Aside0.mk H
                          clear H
                          go_upto_region 9 with (fail)
                          go_cut [51] (fun v51 wc => ∃ (kq : Nat) (x51_18 : Bool), v51 = .bool x51_18 ∧ Aside0 (cabinetryref02_pair.j4 kq a0 a1 x51_18 = some (r1, r2, r3)) ∧ Aside0 (kq ≤ kj13) ∧ w = wc)
                          case first =>
                            have H := HC19.out
                            clear HC19
                            by_cases c20 : a1 = 2
                            · rw [if_pos c20] at H
                              have c20b0 : (a1 == 2) = true := beq_iff_eq.mpr c20
                              have c20b1 : (a1 != 2) = false := bne_eq_false_iff_eq.mpr c20
                              clear c20
                              (first | rw [c20b0] | (simp only [i64_w, i32_w]; rw [c20b0]) | skip)
                              by_cases c21 : a0 ≥ 128
                              · rw [if_pos c21] at H
                                have c21b0 : decide (128 ≤ a0) = true := decide_eq_true c21
                                clear c21
                                have H' := Aside0.mk H
                                clear H
                                go_wp2
                                go_meet
                                case rel => exact ⟨_, (decide (a0 ≤ 143)), (by first | rfl | (simp; done) | (simp [*]; done)), H', ⟨by have := HJ2.out; have := HJ5.out; have := HJ8.out; have := HJ13.out; first | omega | exact Nat.le_refl _⟩, rfl⟩
                              · rw [if_neg c21] at H
                                have c21b0 : decide (128 ≤ a0) = false := decide_eq_false c21
                                clear c21
                                have H' := Aside0.mk H
                                clear H
                                go_wp2
                                go_meet
                                case rel => exact ⟨_, (false), (by first | rfl | (simp; done) | (simp [*]; done)), H', ⟨by have := HJ2.out; have := HJ5.out; have := HJ8.out; have := HJ13.out; first | omega | exact Nat.le_refl _⟩, rfl⟩
                            · rw [if_neg c20] at H
                              have c20b0 : (a1 == 2) = false := beq_eq_false_iff_ne.mpr c20
                              have c20b1 : (a1 != 2) = true := bne_iff_ne.mpr c20
                              (first | rw [c20b0] | (simp only [i64_w, i32_w]; rw [c20b0]) | skip)
                              have H' := Aside0.mk H
                              clear H
                              go_wp2
                              go_meet
                              case rel => exact ⟨_, (false), (by first | rfl | (simp; done) | (simp [*]; done)), H', ⟨by have := HJ2.out; have := HJ5.out; have := HJ8.out; have := HJ13.out; first | omega | exact Nat.le_refl _⟩, rfl⟩
                          case rest =>
                            clear HC19
                            try clear c1
                            try clear c2
                            try clear p2
                            try clear c4
                            try clear c4b0
                            try clear c5
                            try clear c7
                            try clear c7b0
                            try clear c8
                            try clear c10
                            try clear c10b0
                            try clear c10b1
                            try clear c11
                            try clear c11b0
                            try clear c12
                            try clear c12b0
                            try clear c13
                            try clear c15
                            try clear c15b0
                            try clear c15b1
                            try clear c16
                            try clear c16b0
                            try clear c17
                            try clear c17b0
                            try clear c18
                            try clear c20
                            try clear c20b0
                            try clear c20b1
                            try clear c21
                            try clear c21b0
                            try clear p2
                            obtain ⟨kq, x51_18, rfl, HA, HJ18, rfl⟩ := hcut
                            cases kq with
                            | zero => exact absurd HA.out (by simp [cabinetryref02_pair.j4])
                            | succ kj18 =>
                              have H := HA.out
                              clear HA
                              simp only [cabinetryref02_pair.j4] at H
                              by_cases c22 : x51_18 = true
                              · subst c22
                                have H1 : (some (true, false, 32)) = some (r1, r2, r3) := by rw [if_pos rfl] at H; exact H
                                clear H
                                have H := H1
                                clear H1
                                simp only [Option.some.injEq, Prod.mk.injEq] at H
                                obtain ⟨rfl, rfl, rfl⟩ := H
                                go_wp2
                                go_ret3
                                exact ⟨by first | rfl | (simp; done) | (simp [*]; done), rfl⟩
                              · replace c22 := Bool.eq_false_iff.mpr c22
                                subst c22
                                have H1 : (if a1 = 2 then (if a0 ≥ 144 then (cabinetryref02_pair.j5 kj18 a0 a1 (decide (a0 ≤ 159))) else (cabinetryref02_pair.j5 kj18 a0 a1 false)) else (cabinetryref02_pair.j5 kj18 a0 a1 false)) = some (r1, r2, r3) := by rw [if_neg (show ¬ (false = true) by decide)] at H; exact H
                                clear H
                                have H := H1
                                clear H1
                                have HC23 := Aside0.mk H
                                clear H
                                go_upto_region 11 with (fail)
                                go_cut [62] (fun v62 wc => ∃ (kq : Nat) (x62_22 : Bool), v62 = .bool x62_22 ∧ Aside0 (cabinetryref02_pair.j5 kq a0 a1 x62_22 = some (r1, r2, r3)) ∧ Aside0 (kq ≤ kj18) ∧ w = wc)
                                case first =>
                                  have H := HC23.out
                                  clear HC23
                                  by_cases c24 : a1 = 2
                                  · rw [if_pos c24] at H
                                    have c24b0 : (a1 == 2) = true := beq_iff_eq.mpr c24
                                    have c24b1 : (a1 != 2) = false := bne_eq_false_iff_eq.mpr c24
                                    clear c24
                                    (first | rw [c24b0] | (simp only [i64_w, i32_w]; rw [c24b0]) | skip)
                                    by_cases c25 : a0 ≥ 144
                                    · rw [if_pos c25] at H
                                      have c25b0 : decide (144 ≤ a0) = true := decide_eq_true c25
                                      clear c25
                                      have H' := Aside0.mk H
                                      clear H
                                      go_wp2
                                      go_meet
                                      case rel => exact ⟨_, (decide (a0 ≤ 159)), (by first | rfl | (simp; done) | (simp [*]; done)), H', ⟨by have := HJ2.out; have := HJ5.out; have := HJ8.out; have := HJ13.out; have := HJ18.out; first | omega | exact Nat.le_refl _⟩, rfl⟩
                                    · rw [if_neg c25] at H
                                      have c25b0 : decide (144 ≤ a0) = false := decide_eq_false c25
                                      clear c25
                                      have H' := Aside0.mk H
                                      clear H
                                      go_wp2
                                      go_meet
                                      case rel => exact ⟨_, (false), (by first | rfl | (simp; done) | (simp [*]; done)), H', ⟨by have := HJ2.out; have := HJ5.out; have := HJ8.out; have := HJ13.out; have := HJ18.out; first | omega | exact Nat.le_refl _⟩, rfl⟩
                                  · rw [if_neg c24] at H
                                    have c24b0 : (a1 == 2) = false := beq_eq_false_iff_ne.mpr c24
                                    have c24b1 : (a1 != 2) = true := bne_iff_ne.mpr c24
                                    (first | rw [c24b0] | (simp only [i64_w, i32_w]; rw [c24b0]) | skip)
                                    have H' := Aside0.mk H
                                    clear H
                                    go_wp2
                                    go_meet
                                    case rel => exact ⟨_, (false), (by first | rfl | (simp; done) | (simp [*]; done)), H', ⟨by have := HJ2.out; have := HJ5.out; have := HJ8.out; have := HJ13.out; have := HJ18.out; first | omega | exact Nat.le_refl _⟩, rfl⟩
                                case rest =>
                                  clear HC23
                                  try clear c1
                                  try clear c2
                                  try clear p2
                                  try clear c4
                                  try clear c4b0
                                  try clear c5
                                  try clear c7
                                  try clear c7b0
                                  try clear c8
                                  try clear c10
                                  try clear c10b0
                                  try clear c10b1
                                  try clear c11
                                  try clear c11b0
                                  try clear c12
                                  try clear c12b0
                                  try clear c13
                                  try clear c15
                                  try clear c15b0
                                  try clear c15b1
                                  try clear c16
                                  try clear c16b0
                                  try clear c17
                                  try clear c17b0
                                  try clear c18
                                  try clear c20
                                  try clear c20b0
                                  try clear c20b1
                                  try clear c21
                                  try clear c21b0
                                  try clear c22
                                  try clear c24
                                  try clear c24b0
                                  try clear c24b1
                                  try clear c25
                                  try clear c25b0
                                  try clear p2
                                  obtain ⟨kq, x62_22, rfl, HA, HJ22, rfl⟩ := hcut
                                  cases kq with
                                  | zero => exact absurd HA.out (by simp [cabinetryref02_pair.j5])
                                  | succ kj22 =>
                                    have H := HA.out
                                    clear HA
                                    simp only [cabinetryref02_pair.j5] at H
                                    by_cases c26 : x62_22 = true
                                    · subst c26
                                      have H1 : (some (true, false, 80)) = some (r1, r2, r3) := by rw [if_pos rfl] at H; exact H
                                      clear H
                                      have H := H1
                                      clear H1
                                      simp only [Option.some.injEq, Prod.mk.injEq] at H
                                      obtain ⟨rfl, rfl, rfl⟩ := H
                                      go_wp2
                                      go_ret3
                                      exact ⟨by first | rfl | (simp; done) | (simp [*]; done), rfl⟩
                                    · replace c26 := Bool.eq_false_iff.mpr c26
                                      subst c26
                                      have H1 : (if a1 = 2 then (if a0 ≥ 160 then (cabinetryref02_pair.j6 kj22 a0 a1 (decide (a0 ≤ 175))) else (cabinetryref02_pair.j6 kj22 a0 a1 false)) else (cabinetryref02_pair.j6 kj22 a0 a1 false)) = some (r1, r2, r3) := by rw [if_neg (show ¬ (false = true) by decide)] at H; exact H
                                      clear H
                                      have H := H1
                                      clear H1
                                      have HC27 := Aside0.mk H
                                      clear H
                                      go_upto_region 13 with (fail)
                                      go_cut [73] (fun v73 wc => ∃ (kq : Nat) (x73_26 : Bool), v73 = .bool x73_26 ∧ Aside0 (cabinetryref02_pair.j6 kq a0 a1 x73_26 = some (r1, r2, r3)) ∧ Aside0 (kq ≤ kj22) ∧ w = wc)
                                      case first =>
                                        have H := HC27.out
                                        clear HC27
                                        by_cases c28 : a1 = 2
                                        · rw [if_pos c28] at H
                                          have c28b0 : (a1 == 2) = true := beq_iff_eq.mpr c28
                                          have c28b1 : (a1 != 2) = false := bne_eq_false_iff_eq.mpr c28
                                          clear c28
                                          (first | rw [c28b0] | (simp only [i64_w, i32_w]; rw [c28b0]) | skip)
                                          by_cases c29 : a0 ≥ 160
                                          · rw [if_pos c29] at H
                                            have c29b0 : decide (160 ≤ a0) = true := decide_eq_true c29
                                            clear c29
                                            have H' := Aside0.mk H
                                            clear H
                                            go_wp2
                                            go_meet
                                            case rel => exact ⟨_, (decide (a0 ≤ 175)), (by first | rfl | (simp; done) | (simp [*]; done)), H', ⟨by have := HJ2.out; have := HJ5.out; have := HJ8.out; have := HJ13.out; have := HJ18.out; have := HJ22.out; first | omega | exact Nat.le_refl _⟩, rfl⟩
                                          · rw [if_neg c29] at H
                                            have c29b0 : decide (160 ≤ a0) = false := decide_eq_false c29
                                            clear c29
                                            have H' := Aside0.mk H
                                            clear H
                                            go_wp2
                                            go_meet
                                            case rel => exact ⟨_, (false), (by first | rfl | (simp; done) | (simp [*]; done)), H', ⟨by have := HJ2.out; have := HJ5.out; have := HJ8.out; have := HJ13.out; have := HJ18.out; have := HJ22.out; first | omega | exact Nat.le_refl _⟩, rfl⟩
                                        · rw [if_neg c28] at H
                                          have c28b0 : (a1 == 2) = false := beq_eq_false_iff_ne.mpr c28
                                          have c28b1 : (a1 != 2) = true := bne_iff_ne.mpr c28
                                          (first | rw [c28b0] | (simp only [i64_w, i32_w]; rw [c28b0]) | skip)
                                          have H' := Aside0.mk H
                                          clear H
                                          go_wp2
                                          go_meet
                                          case rel => exact ⟨_, (false), (by first | rfl | (simp; done) | (simp [*]; done)), H', ⟨by have := HJ2.out; have := HJ5.out; have := HJ8.out; have := HJ13.out; have := HJ18.out; have := HJ22.out; first | omega | exact Nat.le_refl _⟩, rfl⟩
                                      case rest =>
                                        clear HC27
                                        try clear c1
                                        try clear c2
                                        try clear p2
                                        try clear c4
                                        try clear c4b0
                                        try clear c5
                                        try clear c7
                                        try clear c7b0
                                        try clear c8
                                        try clear c10
                                        try clear c10b0
                                        try clear c10b1
                                        try clear c11
                                        try clear c11b0
                                        try clear c12
                                        try clear c12b0
                                        try clear c13
                                        try clear c15
                                        try clear c15b0
                                        try clear c15b1
                                        try clear c16
                                        try clear c16b0
                                        try clear c17
                                        try clear c17b0
                                        try clear c18
                                        try clear c20
                                        try clear c20b0
                                        try clear c20b1
                                        try clear c21
                                        try clear c21b0
                                        try clear c22
                                        try clear c24
                                        try clear c24b0
                                        try clear c24b1
                                        try clear c25
                                        try clear c25b0
                                        try clear c26
                                        try clear c28
                                        try clear c28b0
                                        try clear c28b1
                                        try clear c29
                                        try clear c29b0
                                        try clear p2
                                        obtain ⟨kq, x73_26, rfl, HA, HJ26, rfl⟩ := hcut
                                        cases kq with
                                        | zero => exact absurd HA.out (by simp [cabinetryref02_pair.j6])
                                        | succ kj26 =>
                                          have H := HA.out
                                          clear HA
                                          simp only [cabinetryref02_pair.j6] at H
                                          by_cases c30 : x73_26 = true
                                          · subst c30
                                            have H1 : (some (false, true, 32)) = some (r1, r2, r3) := by rw [if_pos rfl] at H; exact H
                                            clear H
                                            have H := H1
                                            clear H1
                                            simp only [Option.some.injEq, Prod.mk.injEq] at H
                                            obtain ⟨rfl, rfl, rfl⟩ := H
                                            go_wp2
                                            go_ret3
                                            exact ⟨by first | rfl | (simp; done) | (simp [*]; done), rfl⟩
                                          · replace c30 := Bool.eq_false_iff.mpr c30
                                            subst c30
                                            have H1 : (if a1 = 2 then (if a0 ≥ 224 then (if a0 ≤ 239 then (some (false, true, 80)) else (some (false, false, 0))) else (some (false, false, 0))) else (some (false, false, 0))) = some (r1, r2, r3) := by rw [if_neg (show ¬ (false = true) by decide)] at H; exact H
                                            clear H
                                            have H := H1
                                            clear H1
                                            by_cases c31 : a1 = 2
                                            · rw [if_pos c31] at H
                                              have c31b0 : (a1 == 2) = true := beq_iff_eq.mpr c31
                                              have c31b1 : (a1 != 2) = false := bne_eq_false_iff_eq.mpr c31
                                              clear c31
                                              by_cases c32 : a0 ≥ 224
                                              · rw [if_pos c32] at H
                                                have c32b0 : decide (224 ≤ a0) = true := decide_eq_true c32
                                                clear c32
                                                by_cases c33 : a0 ≤ 239
                                                · rw [if_pos c33] at H
                                                  have c33b0 : decide (a0 ≤ 239) = true := decide_eq_true c33
                                                  clear c33
                                                  simp only [Option.some.injEq, Prod.mk.injEq] at H
                                                  obtain ⟨rfl, rfl, rfl⟩ := H
                                                  go_wp2
                                                  go_ret3
                                                  exact ⟨by first | rfl | (simp; done) | (simp [*]; done), rfl⟩
                                                · rw [if_neg c33] at H
                                                  have c33b0 : decide (a0 ≤ 239) = false := decide_eq_false c33
                                                  clear c33
                                                  simp only [Option.some.injEq, Prod.mk.injEq] at H
                                                  obtain ⟨rfl, rfl, rfl⟩ := H
                                                  go_wp2
                                                  go_ret3
                                                  exact ⟨by first | rfl | (simp; done) | (simp [*]; done), rfl⟩
                                              · rw [if_neg c32] at H
                                                have c32b0 : decide (224 ≤ a0) = false := decide_eq_false c32
                                                clear c32
                                                simp only [Option.some.injEq, Prod.mk.injEq] at H
                                                obtain ⟨rfl, rfl, rfl⟩ := H
                                                go_wp2
                                                go_ret3
                                                exact ⟨by first | rfl | (simp; done) | (simp [*]; done), rfl⟩
                                            · rw [if_neg c31] at H
                                              have c31b0 : (a1 == 2) = false := beq_eq_false_iff_ne.mpr c31
                                              have c31b1 : (a1 != 2) = true := bne_iff_ne.mpr c31
                                              simp only [Option.some.injEq, Prod.mk.injEq] at H
                                              obtain ⟨rfl, rfl, rfl⟩ := H
                                              go_wp2
                                              go_ret3
                                              exact ⟨by first | rfl | (simp; done) | (simp [*]; done), rfl⟩

set_option maxHeartbeats 8000000 in
set_option maxRecDepth 100000 in
theorem cabinetryref02_IsLetter (k : Nat) (a0 : Int) (a1 : Int) (r : Bool) (w : World) (h : cabinetryref02_IsLetter.f k a0 a1 = some r) :
    Calls Try.prog 34 #[.int .u8 a0, .int .i64 a1] w fun e w' => e = .returned (.bool r) ∧ w = w' := by
  have H : ((cabinetryref02_pair.f k a0 a1).bind fun bt138 => (if bt138.1 = true then (some true) else (some bt138.2.1))) = some r := h
  clear h
  replace H := Option.bind_eq_some_iff.mp H
  obtain ⟨⟨t138, t139, t140⟩, A30, H⟩ := H
  replace H : (if t138 = true then (some true) else (some t139)) = some r := H
  have A3 := Aside0.mk A30
  clear A30
  by_cases c4 : t138 = true
  · subst c4
    have H1 : (some true) = some r := by rw [if_pos rfl] at H; exact H
    clear H
    have H := H1
    clear H1
    obtain rfl := Option.some.inj H
    go_enter Try.func34, Try.ntmps34
    go_wp2_with (first | ((with_reducible refine gate_callee (f := 54) rfl ?_); refine goesL_ (some 11) rfl rfl Try.func54 (by kernel_rfl) rfl #[.int .u8 a0, .int .i64 a1] rfl (by (try simp only [List.map_toArray, List.map_cons, List.map_nil]); first | done | rfl | (simp only [List.length_drop, List.length_take]; rfl)) ?_; (with_reducible refine (Still.cabinetryref02_pair k a0 a1 true t139 t140 _ A3.out).mono ?_); rintro e w' ⟨rfl, rfl⟩; refine ⟨_, rfl, ?_⟩))
    go_ret
    exact ⟨by first | rfl | (simp; done) | (simp [*]; done), rfl⟩
  · replace c4 := Bool.eq_false_iff.mpr c4
    subst c4
    have H1 : (some t139) = some r := by rw [if_neg (show ¬ (false = true) by decide)] at H; exact H
    clear H
    have H := H1
    clear H1
    obtain rfl := Option.some.inj H
    go_enter Try.func34, Try.ntmps34
    go_wp2_with (first | ((with_reducible refine gate_callee (f := 54) rfl ?_); refine goesL_ (some 11) rfl rfl Try.func54 (by kernel_rfl) rfl #[.int .u8 a0, .int .i64 a1] rfl (by (try simp only [List.map_toArray, List.map_cons, List.map_nil]); first | done | rfl | (simp only [List.length_drop, List.length_take]; rfl)) ?_; (with_reducible refine (Still.cabinetryref02_pair k a0 a1 false t139 t140 _ A3.out).mono ?_); rintro e w' ⟨rfl, rfl⟩; refine ⟨_, rfl, ?_⟩))
    go_ret
    exact ⟨by first | rfl | (simp; done) | (simp [*]; done), rfl⟩

set_option maxHeartbeats 8000000 in
set_option maxRecDepth 100000 in
theorem cabinetryref02_upper (k : Nat) (a0 : Int) (a1 : Int) (r : Int) (w : World) (h : cabinetryref02_upper.f k a0 a1 = some r) :
    Calls Try.prog 35 #[.int .u8 a0, .int .i64 a1] w fun e w' => e = .returned (.int .u8 r) ∧ w = w' := by
  have H : ((cabinetryref02_pair.f k a0 a1).bind fun bt141 => (if bt141.2.1 = true then (some ((a0 - bt141.2.2) % 256)) else (some a0))) = some r := h
  clear h
  replace H := Option.bind_eq_some_iff.mp H
  obtain ⟨⟨t141, t142, t143⟩, A30, H⟩ := H
  replace H : (if t142 = true then (some ((a0 - t143) % 256)) else (some a0)) = some r := H
  have A3 := Aside0.mk A30
  clear A30
  by_cases c4 : t142 = true
  · subst c4
    have H1 : (some ((a0 - t143) % 256)) = some r := by rw [if_pos rfl] at H; exact H
    clear H
    have H := H1
    clear H1
    obtain rfl := Option.some.inj H
    go_enter Try.func35, Try.ntmps35
    go_wp2_with (first | ((with_reducible refine gate_callee (f := 54) rfl ?_); refine goesL_ (some 11) rfl rfl Try.func54 (by kernel_rfl) rfl #[.int .u8 a0, .int .i64 a1] rfl (by (try simp only [List.map_toArray, List.map_cons, List.map_nil]); first | done | rfl | (simp only [List.length_drop, List.length_take]; rfl)) ?_; (with_reducible refine (Still.cabinetryref02_pair k a0 a1 t141 true t143 _ A3.out).mono ?_); rintro e w' ⟨rfl, rfl⟩; refine ⟨_, rfl, ?_⟩))
    go_ret
    exact ⟨by first | rfl | (simp; done) | (simp [*]; done), rfl⟩
  · replace c4 := Bool.eq_false_iff.mpr c4
    subst c4
    have H1 : (some a0) = some r := by rw [if_neg (show ¬ (false = true) by decide)] at H; exact H
    clear H
    have H := H1
    clear H1
    obtain rfl := Option.some.inj H
    go_enter Try.func35, Try.ntmps35
    go_wp2_with (first | ((with_reducible refine gate_callee (f := 54) rfl ?_); refine goesL_ (some 11) rfl rfl Try.func54 (by kernel_rfl) rfl #[.int .u8 a0, .int .i64 a1] rfl (by (try simp only [List.map_toArray, List.map_cons, List.map_nil]); first | done | rfl | (simp only [List.length_drop, List.length_take]; rfl)) ?_; (with_reducible refine (Still.cabinetryref02_pair k a0 a1 t141 false t143 _ A3.out).mono ?_); rintro e w' ⟨rfl, rfl⟩; refine ⟨_, rfl, ?_⟩))
    go_ret
    exact ⟨by first | rfl | (simp; done) | (simp [*]; done), rfl⟩

set_option maxHeartbeats 8000000 in
set_option maxRecDepth 100000 in
theorem cabinetryref02_weight (k : Nat) (a0 : Int) (a1 : Int) (a2 : Int) (r : Int) (w : World) (h : cabinetryref02_weight.f k a0 a1 a2 = some r) :
    Calls Try.prog 40 #[.int .u8 a0, .int .i64 a1, .int .i64 a2] w fun e w' => e = .returned (.int .u8 r) ∧ w = w' := by
  have H : (if a2 = 0 then (cabinetryref02_weight.j0 k a0 a1 true) else ((cabinetryref02_IsLetter.f k a0 a1).bind fun t144 => (cabinetryref02_weight.j0 k a0 a1 (!t144)))) = some r := h
  clear h
  have HC4 := Aside0.mk H
  clear H
  go_enter Try.func40, Try.ntmps40
  go_upto_region 1 with (fail)
  go_cut [15] (fun v15 wc => ∃ (kq : Nat) (x15_3 : Bool), v15 = .bool x15_3 ∧ Aside0 (cabinetryref02_weight.j0 kq a0 a1 x15_3 = some r) ∧ Aside0 (kq ≤ k) ∧ w = wc)
  case first =>
    have H := HC4.out
    clear HC4
    by_cases c5 : a2 = 0
    · rw [if_pos c5] at H
      have c5b0 : (a2 == 0) = true := beq_iff_eq.mpr c5
      have c5b1 : (a2 != 0) = false := bne_eq_false_iff_eq.mpr c5
      clear c5
      (first | rw [c5b0] | (simp only [i64_w, i32_w]; rw [c5b0]) | skip)
      have H' := Aside0.mk H
      clear H
      go_wp2
      go_meet
      case rel => exact ⟨_, (true), (by first | rfl | (simp; done) | (simp [*]; done)), H', ⟨by first | omega | exact Nat.le_refl _⟩, rfl⟩
    · rw [if_neg c5] at H
      have c5b0 : (a2 == 0) = false := beq_eq_false_iff_ne.mpr c5
      have c5b1 : (a2 != 0) = true := bne_iff_ne.mpr c5
      (first | rw [c5b0] | (simp only [i64_w, i32_w]; rw [c5b0]) | skip)
      replace H := Option.bind_eq_some_iff.mp H
      obtain ⟨t144, A60, H⟩ := H
      replace H : (cabinetryref02_weight.j0 k a0 a1 (!t144)) = some r := H
      have A6 := Aside0.mk A60
      clear A60
      have H' := Aside0.mk H
      clear H
      go_wp2_with (first | (go_at_call 34; (with_reducible refine (Still.cabinetryref02_IsLetter k a0 a1 t144 _ A6.out).mono ?_); rintro e w' ⟨rfl, rfl⟩))
      go_meet
      case rel => exact ⟨_, (!t144), (by first | rfl | (simp; done) | (simp [*]; done)), H', ⟨by first | omega | exact Nat.le_refl _⟩, rfl⟩
  case rest =>
    clear HC4
    try clear p2
    try clear c4
    try clear c5
    try clear c5b0
    try clear c5b1
    obtain ⟨kq, x15_3, rfl, HA, HJ3, rfl⟩ := hcut
    cases kq with
    | zero => exact absurd HA.out (by simp [cabinetryref02_weight.j0])
    | succ kj3 =>
      have H := HA.out
      clear HA
      simp only [cabinetryref02_weight.j0] at H
      by_cases c7 : x15_3 = true
      · subst c7
        have H1 : (some a0) = some r := by rw [if_pos rfl] at H; exact H
        clear H
        have H := H1
        clear H1
        obtain rfl := Option.some.inj H
        go_wp2
        go_ret
        exact ⟨by first | rfl | (simp; done) | (simp [*]; done), rfl⟩
      · replace c7 := Bool.eq_false_iff.mpr c7
        subst c7
        have H1 : ((cabinetryref02_upper.f kj3 a0 a1).bind fun t145 => (if a1 = 1 then (if t145 ≥ 192 then (cabinetryref02_weight.j1 kj3 t145 (decide (t145 ≤ 197))) else (cabinetryref02_weight.j1 kj3 t145 false)) else (some t145))) = some r := by rw [if_neg (show ¬ (false = true) by decide)] at H; exact H
        clear H
        have H := H1
        clear H1
        replace H := Option.bind_eq_some_iff.mp H
        obtain ⟨t145, A80, H⟩ := H
        replace H : (if a1 = 1 then (if t145 ≥ 192 then (cabinetryref02_weight.j1 kj3 t145 (decide (t145 ≤ 197))) else (cabinetryref02_weight.j1 kj3 t145 false)) else (some t145)) = some r := H
        have A8 := Aside0.mk A80
        clear A80
        by_cases c9 : a1 = 1
        · rw [if_pos c9] at H
          have c9b0 : (a1 == 1) = true := beq_iff_eq.mpr c9
          have c9b1 : (a1 != 1) = false := bne_eq_false_iff_eq.mpr c9
          clear c9
          have HC10 := Aside0.mk H
          clear H
          go_upto_region 6 with (first | ((with_reducible refine gate_callee (f := 35) rfl ?_); refine goesL_ (some 19) rfl rfl Try.func35 (by kernel_rfl) rfl #[.int .u8 a0, .int .i64 a1] rfl (by (try simp only [List.map_toArray, List.map_cons, List.map_nil]); first | done | rfl | (simp only [List.length_drop, List.length_take]; rfl)) ?_; (with_reducible refine (Still.cabinetryref02_upper kj3 a0 a1 t145 _ A8.out).mono ?_); rintro e w' ⟨rfl, rfl⟩; refine ⟨_, rfl, ?_⟩))
          (try simp only [Act.put, List.setIfInBounds_toArray, List.set_cons_zero, List.set_cons_succ])
          go_cut [23] (fun v23 wc => ∃ (kq : Nat) (x23_9 : Bool), v23 = .bool x23_9 ∧ Aside0 (cabinetryref02_weight.j1 kq t145 x23_9 = some r) ∧ Aside0 (kq ≤ kj3) ∧ w = wc)
          case first =>
            have H := HC10.out
            clear HC10
            by_cases c11 : t145 ≥ 192
            · rw [if_pos c11] at H
              have c11b0 : decide (192 ≤ t145) = true := decide_eq_true c11
              clear c11
              (first | rw [c11b0] | (simp only [i64_w, i32_w]; rw [c11b0]) | skip)
              have H' := Aside0.mk H
              clear H
              go_wp2
              go_meet
              case rel => exact ⟨_, (decide (t145 ≤ 197)), (by first | rfl | (simp; done) | (simp [*]; done)), H', ⟨by have := HJ3.out; first | omega | exact Nat.le_refl _⟩, rfl⟩
            · rw [if_neg c11] at H
              have c11b0 : decide (192 ≤ t145) = false := decide_eq_false c11
              clear c11
              (first | rw [c11b0] | (simp only [i64_w, i32_w]; rw [c11b0]) | skip)
              have H' := Aside0.mk H
              clear H
              go_wp2
              go_meet
              case rel => exact ⟨_, (false), (by first | rfl | (simp; done) | (simp [*]; done)), H', ⟨by have := HJ3.out; first | omega | exact Nat.le_refl _⟩, rfl⟩
          case rest =>
            clear HC10
            try clear c1
            try clear p2
            try clear c3
            try clear c4
            try clear c5
            try clear c5b0
            try clear c5b1
            try clear c7
            try clear c9
            try clear c9b0
            try clear c9b1
            try clear c11
            try clear c11b0
            try clear p2
            obtain ⟨kq, x23_9, rfl, HA, HJ9, rfl⟩ := hcut
            cases kq with
            | zero => exact absurd HA.out (by simp [cabinetryref02_weight.j1])
            | succ kj9 =>
              have H := HA.out
              clear HA
              simp only [cabinetryref02_weight.j1] at H
              by_cases c12 : x23_9 = true
              · subst c12
                have H1 : (some 65) = some r := by rw [if_pos rfl] at H; exact H
                clear H
                have H := H1
                clear H1
                obtain rfl := Option.some.inj H
                go_wp2
                go_ret
                exact ⟨by first | rfl | (simp; done) | (simp [*]; done), rfl⟩
              · replace c12 := Bool.eq_false_iff.mpr c12
                subst c12
                have H1 : (if t145 = 199 then (some 67) else (if t145 ≥ 200 then (cabinetryref02_weight.j2 kj9 t145 (decide (t145 ≤ 203))) else (cabinetryref02_weight.j2 kj9 t145 false))) = some r := by rw [if_neg (show ¬ (false = true) by decide)] at H; exact H
                clear H
                have H := H1
                clear H1
                by_cases c13 : t145 = 199
                · rw [if_pos c13] at H
                  have c13b0 : (t145 == 199) = true := beq_iff_eq.mpr c13
                  have c13b1 : (t145 != 199) = false := bne_eq_false_iff_eq.mpr c13
                  clear c13
                  obtain rfl := Option.some.inj H
                  go_wp2
                  go_ret
                  exact ⟨by first | rfl | (simp; done) | (simp [*]; done), rfl⟩
                · rw [if_neg c13] at H
                  have c13b0 : (t145 == 199) = false := beq_eq_false_iff_ne.mpr c13
                  have c13b1 : (t145 != 199) = true := bne_iff_ne.mpr c13
                  have HC14 := Aside0.mk H
                  clear H
                  go_upto_region 10 with (fail)
                  go_cut [33] (fun v33 wc => ∃ (kq : Nat) (x33_13 : Bool), v33 = .bool x33_13 ∧ Aside0 (cabinetryref02_weight.j2 kq t145 x33_13 = some r) ∧ Aside0 (kq ≤ kj9) ∧ w = wc)
                  case first =>
                    have H := HC14.out
                    clear HC14
                    by_cases c15 : t145 ≥ 200
                    · rw [if_pos c15] at H
                      have c15b0 : decide (200 ≤ t145) = true := decide_eq_true c15
                      clear c15
                      (first | rw [c15b0] | (simp only [i64_w, i32_w]; rw [c15b0]) | skip)
                      have H' := Aside0.mk H
                      clear H
                      go_wp2
                      go_meet
                      case rel => exact ⟨_, (decide (t145 ≤ 203)), (by first | rfl | (simp; done) | (simp [*]; done)), H', ⟨by have := HJ3.out; have := HJ9.out; first | omega | exact Nat.le_refl _⟩, rfl⟩
                    · rw [if_neg c15] at H
                      have c15b0 : decide (200 ≤ t145) = false := decide_eq_false c15
                      clear c15
                      (first | rw [c15b0] | (simp only [i64_w, i32_w]; rw [c15b0]) | skip)
                      have H' := Aside0.mk H
                      clear H
                      go_wp2
                      go_meet
                      case rel => exact ⟨_, (false), (by first | rfl | (simp; done) | (simp [*]; done)), H', ⟨by have := HJ3.out; have := HJ9.out; first | omega | exact Nat.le_refl _⟩, rfl⟩
                  case rest =>
                    clear HC14
                    try clear c1
                    try clear p2
                    try clear c3
                    try clear c4
                    try clear c5
                    try clear c5b0
                    try clear c5b1
                    try clear c7
                    try clear c9
                    try clear c9b0
                    try clear c9b1
                    try clear c11
                    try clear c11b0
                    try clear c12
                    try clear c13
                    try clear c13b0
                    try clear c13b1
                    try clear c15
                    try clear c15b0
                    try clear p2
                    obtain ⟨kq, x33_13, rfl, HA, HJ13, rfl⟩ := hcut
                    cases kq with
                    | zero => exact absurd HA.out (by simp [cabinetryref02_weight.j2])
                    | succ kj13 =>
                      have H := HA.out
                      clear HA
                      simp only [cabinetryref02_weight.j2] at H
                      by_cases c16 : x33_13 = true
                      · subst c16
                        have H1 : (some 69) = some r := by rw [if_pos rfl] at H; exact H
                        clear H
                        have H := H1
                        clear H1
                        obtain rfl := Option.some.inj H
                        go_wp2
                        go_ret
                        exact ⟨by first | rfl | (simp; done) | (simp [*]; done), rfl⟩
                      · replace c16 := Bool.eq_false_iff.mpr c16
                        subst c16
                        have H1 : (if t145 ≥ 204 then (cabinetryref02_weight.j3 kj13 t145 (decide (t145 ≤ 207))) else (cabinetryref02_weight.j3 kj13 t145 false)) = some r := by rw [if_neg (show ¬ (false = true) by decide)] at H; exact H
                        clear H
                        have H := H1
                        clear H1
                        have HC17 := Aside0.mk H
                        clear H
                        go_upto_region 12 with (fail)
                        go_cut [40] (fun v40 wc => ∃ (kq : Nat) (x40_16 : Bool), v40 = .bool x40_16 ∧ Aside0 (cabinetryref02_weight.j3 kq t145 x40_16 = some r) ∧ Aside0 (kq ≤ kj13) ∧ w = wc)
                        case first =>
                          have H := HC17.out
                          clear HC17
                          by_cases c18 : t145 ≥ 204
                          · rw [if_pos c18] at H
                            have c18b0 : decide (204 ≤ t145) = true := decide_eq_true c18
                            clear c18
                            (first | rw [c18b0] | (simp only [i64_w, i32_w]; rw [c18b0]) | skip)
                            have H' := Aside0.mk H
                            clear H
                            go_wp2
                            go_meet
                            case rel => exact ⟨_, (decide (t145 ≤ 207)), (by first | rfl | (simp; done) | (simp [*]; done)), H', ⟨by have := HJ3.out; have := HJ9.out; have := HJ13.out; first | omega | exact Nat.le_refl _⟩, rfl⟩
                          · rw [if_neg c18] at H
                            have c18b0 : decide (204 ≤ t145) = false := decide_eq_false c18
                            clear c18
                            (first | rw [c18b0] | (simp only [i64_w, i32_w]; rw [c18b0]) | skip)
                            have H' := Aside0.mk H
                            clear H
                            go_wp2
                            go_meet
                            case rel => exact ⟨_, (false), (by first | rfl | (simp; done) | (simp [*]; done)), H', ⟨by have := HJ3.out; have := HJ9.out; have := HJ13.out; first | omega | exact Nat.le_refl _⟩, rfl⟩
                        case rest =>
                          clear HC17
                          try clear c1
                          try clear p2
                          try clear c3
                          try clear c4
                          try clear c5
                          try clear c5b0
                          try clear c5b1
                          try clear c7
                          try clear c9
                          try clear c9b0
                          try clear c9b1
                          try clear c11
                          try clear c11b0
                          try clear c12
                          try clear c13
                          try clear c13b0
                          try clear c13b1
                          try clear c15
                          try clear c15b0
                          try clear c16
                          try clear c18
                          try clear c18b0
                          try clear p2
                          obtain ⟨kq, x40_16, rfl, HA, HJ16, rfl⟩ := hcut
                          cases kq with
                          | zero => exact absurd HA.out (by simp [cabinetryref02_weight.j3])
                          | succ kj16 =>
                            have H := HA.out
                            clear HA
                            simp only [cabinetryref02_weight.j3] at H
                            by_cases c19 : x40_16 = true
                            · subst c19
                              have H1 : (some 73) = some r := by rw [if_pos rfl] at H; exact H
                              clear H
                              have H := H1
                              clear H1
                              obtain rfl := Option.some.inj H
                              go_wp2
                              go_ret
                              exact ⟨by first | rfl | (simp; done) | (simp [*]; done), rfl⟩
                            · replace c19 := Bool.eq_false_iff.mpr c19
                              subst c19
                              have H1 : (if t145 = 209 then (some 78) else (if t145 ≥ 210 then (cabinetryref02_weight.j4 kj16 t145 (decide (t145 ≤ 214))) else (cabinetryref02_weight.j4 kj16 t145 false))) = some r := by rw [if_neg (show ¬ (false = true) by decide)] at H; exact H
                              clear H
                              have H := H1
                              clear H1
                              by_cases c20 : t145 = 209
                              · rw [if_pos c20] at H
                                have c20b0 : (t145 == 209) = true := beq_iff_eq.mpr c20
                                have c20b1 : (t145 != 209) = false := bne_eq_false_iff_eq.mpr c20
                                clear c20
                                obtain rfl := Option.some.inj H
                                go_wp2
                                go_ret
                                exact ⟨by first | rfl | (simp; done) | (simp [*]; done), rfl⟩
                              · rw [if_neg c20] at H
                                have c20b0 : (t145 == 209) = false := beq_eq_false_iff_ne.mpr c20
                                have c20b1 : (t145 != 209) = true := bne_iff_ne.mpr c20
                                have HC21 := Aside0.mk H
                                clear H
                                go_upto_region 16 with (fail)
                                go_cut [50] (fun v50 wc => ∃ (kq : Nat) (x50_20 : Bool), v50 = .bool x50_20 ∧ Aside0 (cabinetryref02_weight.j4 kq t145 x50_20 = some r) ∧ Aside0 (kq ≤ kj16) ∧ w = wc)
                                case first =>
                                  have H := HC21.out
                                  clear HC21
                                  by_cases c22 : t145 ≥ 210
                                  · rw [if_pos c22] at H
                                    have c22b0 : decide (210 ≤ t145) = true := decide_eq_true c22
                                    clear c22
                                    (first | rw [c22b0] | (simp only [i64_w, i32_w]; rw [c22b0]) | skip)
                                    have H' := Aside0.mk H
                                    clear H
                                    go_wp2
                                    go_meet
                                    case rel => exact ⟨_, (decide (t145 ≤ 214)), (by first | rfl | (simp; done) | (simp [*]; done)), H', ⟨by have := HJ3.out; have := HJ9.out; have := HJ13.out; have := HJ16.out; first | omega | exact Nat.le_refl _⟩, rfl⟩
                                  · rw [if_neg c22] at H
                                    have c22b0 : decide (210 ≤ t145) = false := decide_eq_false c22
                                    clear c22
                                    (first | rw [c22b0] | (simp only [i64_w, i32_w]; rw [c22b0]) | skip)
                                    have H' := Aside0.mk H
                                    clear H
                                    go_wp2
                                    go_meet
                                    case rel => exact ⟨_, (false), (by first | rfl | (simp; done) | (simp [*]; done)), H', ⟨by have := HJ3.out; have := HJ9.out; have := HJ13.out; have := HJ16.out; first | omega | exact Nat.le_refl _⟩, rfl⟩
                                case rest =>
                                  clear HC21
                                  try clear c1
                                  try clear c2
                                  try clear p2
                                  try clear c3
                                  try clear c4
                                  try clear c5
                                  try clear c5b0
                                  try clear c5b1
                                  try clear c7
                                  try clear c9
                                  try clear c9b0
                                  try clear c9b1
                                  try clear c11
                                  try clear c11b0
                                  try clear c12
                                  try clear c13
                                  try clear c13b0
                                  try clear c13b1
                                  try clear c15
                                  try clear c15b0
                                  try clear c16
                                  try clear c18
                                  try clear c18b0
                                  try clear c19
                                  try clear c20
                                  try clear c20b0
                                  try clear c20b1
                                  try clear c22
                                  try clear c22b0
                                  try clear p2
                                  obtain ⟨kq, x50_20, rfl, HA, HJ20, rfl⟩ := hcut
                                  cases kq with
                                  | zero => exact absurd HA.out (by simp [cabinetryref02_weight.j4])
                                  | succ kj20 =>
                                    have H := HA.out
                                    clear HA
                                    simp only [cabinetryref02_weight.j4] at H
                                    by_cases c23 : x50_20 = true
                                    · subst c23
                                      have H1 : (some 79) = some r := by rw [if_pos rfl] at H; exact H
                                      clear H
                                      have H := H1
                                      clear H1
                                      obtain rfl := Option.some.inj H
                                      go_wp2
                                      go_ret
                                      exact ⟨by first | rfl | (simp; done) | (simp [*]; done), rfl⟩
                                    · replace c23 := Bool.eq_false_iff.mpr c23
                                      subst c23
                                      have H1 : (if t145 ≥ 217 then (cabinetryref02_weight.j5 kj20 t145 (decide (t145 ≤ 220))) else (cabinetryref02_weight.j5 kj20 t145 false)) = some r := by rw [if_neg (show ¬ (false = true) by decide)] at H; exact H
                                      clear H
                                      have H := H1
                                      clear H1
                                      have HC24 := Aside0.mk H
                                      clear H
                                      go_upto_region 18 with (fail)
                                      go_cut [57] (fun v57 wc => ∃ (kq : Nat) (x57_23 : Bool), v57 = .bool x57_23 ∧ Aside0 (cabinetryref02_weight.j5 kq t145 x57_23 = some r) ∧ Aside0 (kq ≤ kj20) ∧ w = wc)
                                      case first =>
                                        have H := HC24.out
                                        clear HC24
                                        by_cases c25 : t145 ≥ 217
                                        · rw [if_pos c25] at H
                                          have c25b0 : decide (217 ≤ t145) = true := decide_eq_true c25
                                          clear c25
                                          (first | rw [c25b0] | (simp only [i64_w, i32_w]; rw [c25b0]) | skip)
                                          have H' := Aside0.mk H
                                          clear H
                                          go_wp2
                                          go_meet
                                          case rel => exact ⟨_, (decide (t145 ≤ 220)), (by first | rfl | (simp; done) | (simp [*]; done)), H', ⟨by have := HJ3.out; have := HJ9.out; have := HJ13.out; have := HJ16.out; have := HJ20.out; first | omega | exact Nat.le_refl _⟩, rfl⟩
                                        · rw [if_neg c25] at H
                                          have c25b0 : decide (217 ≤ t145) = false := decide_eq_false c25
                                          clear c25
                                          (first | rw [c25b0] | (simp only [i64_w, i32_w]; rw [c25b0]) | skip)
                                          have H' := Aside0.mk H
                                          clear H
                                          go_wp2
                                          go_meet
                                          case rel => exact ⟨_, (false), (by first | rfl | (simp; done) | (simp [*]; done)), H', ⟨by have := HJ3.out; have := HJ9.out; have := HJ13.out; have := HJ16.out; have := HJ20.out; first | omega | exact Nat.le_refl _⟩, rfl⟩
                                      case rest =>
                                        clear HC24
                                        try clear c1
                                        try clear c2
                                        try clear p2
                                        try clear c3
                                        try clear c4
                                        try clear c5
                                        try clear c5b0
                                        try clear c5b1
                                        try clear c7
                                        try clear c9
                                        try clear c9b0
                                        try clear c9b1
                                        try clear c11
                                        try clear c11b0
                                        try clear c12
                                        try clear c13
                                        try clear c13b0
                                        try clear c13b1
                                        try clear c15
                                        try clear c15b0
                                        try clear c16
                                        try clear c18
                                        try clear c18b0
                                        try clear c19
                                        try clear c20
                                        try clear c20b0
                                        try clear c20b1
                                        try clear c22
                                        try clear c22b0
                                        try clear c23
                                        try clear c25
                                        try clear c25b0
                                        try clear p2
                                        obtain ⟨kq, x57_23, rfl, HA, HJ23, rfl⟩ := hcut
                                        cases kq with
                                        | zero => exact absurd HA.out (by simp [cabinetryref02_weight.j5])
                                        | succ kj23 =>
                                          have H := HA.out
                                          clear HA
                                          simp only [cabinetryref02_weight.j5] at H
                                          by_cases c26 : x57_23 = true
                                          · subst c26
                                            have H1 : (some 85) = some r := by rw [if_pos rfl] at H; exact H
                                            clear H
                                            have H := H1
                                            clear H1
                                            obtain rfl := Option.some.inj H
                                            go_wp2
                                            go_ret
                                            exact ⟨by first | rfl | (simp; done) | (simp [*]; done), rfl⟩
                                          · replace c26 := Bool.eq_false_iff.mpr c26
                                            subst c26
                                            have H1 : (if t145 = 221 then (some 89) else (some t145)) = some r := by rw [if_neg (show ¬ (false = true) by decide)] at H; exact H
                                            clear H
                                            have H := H1
                                            clear H1
                                            by_cases c27 : t145 = 221
                                            · rw [if_pos c27] at H
                                              have c27b0 : (t145 == 221) = true := beq_iff_eq.mpr c27
                                              have c27b1 : (t145 != 221) = false := bne_eq_false_iff_eq.mpr c27
                                              clear c27
                                              obtain rfl := Option.some.inj H
                                              go_wp2
                                              go_ret
                                              exact ⟨by first | rfl | (simp; done) | (simp [*]; done), rfl⟩
                                            · rw [if_neg c27] at H
                                              have c27b0 : (t145 == 221) = false := beq_eq_false_iff_ne.mpr c27
                                              have c27b1 : (t145 != 221) = true := bne_iff_ne.mpr c27
                                              obtain rfl := Option.some.inj H
                                              go_wp2
                                              go_ret
                                              exact ⟨by first | rfl | (simp; done) | (simp [*]; done), rfl⟩
        · rw [if_neg c9] at H
          have c9b0 : (a1 == 1) = false := beq_eq_false_iff_ne.mpr c9
          have c9b1 : (a1 != 1) = true := bne_iff_ne.mpr c9
          obtain rfl := Option.some.inj H
          go_wp2_with (first | ((with_reducible refine gate_callee (f := 35) rfl ?_); refine goesL_ (some 19) rfl rfl Try.func35 (by kernel_rfl) rfl #[.int .u8 a0, .int .i64 a1] rfl (by (try simp only [List.map_toArray, List.map_cons, List.map_nil]); first | done | rfl | (simp only [List.length_drop, List.length_take]; rfl)) ?_; (with_reducible refine (Still.cabinetryref02_upper kj3 a0 a1 t145 _ A8.out).mono ?_); rintro e w' ⟨rfl, rfl⟩; refine ⟨_, rfl, ?_⟩))
          go_ret
          exact ⟨by first | rfl | (simp; done) | (simp [*]; done), rfl⟩

-- NOT PRINTED: function 15 (cabinetryref02_Weights)

-- NOT PRINTED: function 57 (bytealg_abigen_runtime_cmpstring)

-- NOT PRINTED: function 55 (bytealg_CompareString)

-- NOT PRINTED: function 41 (strings_Compare)

-- NOT PRINTED: function 16 (page_Order)

end Go.Proofs.Ytmjldihmcbjfhaa.Still
