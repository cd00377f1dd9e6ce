/- What a printer of the kit wrote for some functions that DotsGo reaches (print.sh; picked by pick.py): as Lean functions with their contracts. -/
import Derived.Test.YtakdjflhhaefiaaGreatDoorPDotsGox0
namespace Go.Proofs.YtakdjflhhaefiaaGreatDoor.PDotsGo
open Go.RowKit Go.Proofs.YtakdjflhhaefiaaGreatDoorW.PrintWords Go.Proofs.YtakdjflhhaefiaaGreatDoorW.PrintLast Go.Proofs.YtakdjflhhaefiaaGreatDoorW.PrintMore
attribute [local go_sem] max2_int min2_int max_two min_two max_three min_three max_four min_four   -- for this text's walks alone
set_option linter.unusedVariables false
set_option linter.unusedSimpArgs false

/-! ### mantrapref16_begins: function 79 -/
def mantrapref16_begins.f (a0 : ByteArray) (a1 : ByteArray) : Option (Bool) := if (a0.size : Int) ≥ (a1.size : Int) then (if 0 ≤ (a1.size : Int) then (if (a1.size : Int) ≤ (a0.size : Int) then (some ((a0.extract 0 ((a1.size : Int) : Int).toNat).toList == a1.toList)) else (none)) else (none)) else (some false)
set_option maxHeartbeats 8000000 in
set_option maxRecDepth 100000 in
theorem mantrapref16_begins.calls (a0 : ByteArray) (a1 : ByteArray) (r : Bool) (w : World) (h : mantrapref16_begins.f a0 a1 = some r) :
    Calls Tryz.prog 79 #[.string a0, .string a1] w fun e w' => e = .returned (.bool r) ∧ Drawn0 w w' := by
  have H : (if (a0.size : Int) ≥ (a1.size : Int) then (if 0 ≤ (a1.size : Int) then (if (a1.size : Int) ≤ (a0.size : Int) then (some ((a0.extract 0 ((a1.size : Int) : Int).toNat).toList == a1.toList)) else (none)) else (none)) else (some false)) = some r := h
  clear h
  by_cases c3 : (a0.size : Int) ≥ (a1.size : Int)
  · rw [if_pos c3] at H
    have c3b0 : decide ((a1.size : Int) ≤ (a0.size : Int)) = true := decide_eq_true c3
    have c3b1 : decide (a1.size ≤ a0.size) = true := decide_eq_true (Int.ofNat_le.mp c3)
    clear c3
    by_cases c4 : 0 ≤ (a1.size : Int)
    · rw [if_pos c4] at H
      have c4b0 := eq_true c4
      have c4b1 : decide (0 ≤ (a1.size : Int)) = true := decide_eq_true c4
      clear c4
      by_cases c5 : (a1.size : Int) ≤ (a0.size : Int)
      · rw [if_pos c5] at H
        have c5b0 := eq_true c5
        have c5b1 : decide ((a1.size : Int) ≤ (a0.size : Int)) = true := decide_eq_true c5
        clear c5
        obtain rfl := Option.some.inj H
        go_enter Tryz.func79, Tryz.ntmps79
        go_wp2
        go_ret
        exact ⟨by first | rfl | (simp; done) | (simp [*]; done), by repeat (first | exact Drawn0.refl _ | apply Drawn0.step)⟩
      · rw [if_neg c5] at H
        exact absurd H (by simp)
    · rw [if_neg c4] at H
      exact absurd H (by simp)
  · rw [if_neg c3] at H
    have c3b0 : decide ((a1.size : Int) ≤ (a0.size : Int)) = false := decide_eq_false c3
    have c3b1 : decide (a1.size ≤ a0.size) = false := decide_eq_false (fun h => c3 (Int.ofNat_le.mpr h))
    clear c3
    obtain rfl := Option.some.inj H
    go_enter Tryz.func79, Tryz.ntmps79
    go_wp2
    go_ret
    exact ⟨by first | rfl | (simp; done) | (simp [*]; done), by repeat (first | exact Drawn0.refl _ | apply Drawn0.step)⟩

/-! ### mantrapref16_Remove: function 27 -/
mutual
def mantrapref16_Remove.l0 : Nat → ByteArray → List ByteArray → Option (ByteArray)
  | 0, _, _ => none
  | k + 1, x0, x3 => if x0.toList = ([] : List UInt8) then (mantrapref16_Remove.l2 k (⟨#[]⟩ : ByteArray) x3 (x3.length : Int) 0) else ((mantrapref16_begins.f x0 (⟨#[47, 46, 46, 47]⟩ : ByteArray)).bind fun t244 => (if t244 = true then (mantrapref16_Remove.j1 k x0 x3 true) else (mantrapref16_Remove.j1 k x0 x3 (x0.toList == ([47, 46, 46] : List UInt8)))))
def mantrapref16_Remove.l2 : Nat → ByteArray → List ByteArray → Int → Int → Option (ByteArray)
  | 0, _, _, _, _ => none
  | k + 1, x6, x77, x78, x79 => if x79 < x78 then (if 0 ≤ x79 then (if x79 < (x77.length : Int) then (if x6.size + (rdOf ByteArray.empty x77 x79).size ≤ 9223372036854775807 then (mantrapref16_Remove.l2 k (x6 ++ (rdOf ByteArray.empty x77 x79)) x77 x78 (wrap64 (x79 + 1))) else (none)) else (none)) else (none)) else (some x6)
def mantrapref16_Remove.j1 : Nat → ByteArray → List ByteArray → Bool → Option (ByteArray)
  | 0, _, _, _ => none
  | k + 1, x0, x3, x4 => (mantrapref16_begins.f x0 (⟨#[46, 46, 47]⟩ : ByteArray)).bind fun t245 => (if t245 = true then (if 3 ≤ (x0.size : Int) then (if x4 = true then (if (x3.length : Int) > 0 then (if 0 ≤ (wrap64 ((x3.length : Int) - 1)) then (if (wrap64 ((x3.length : Int) - 1)) ≤ (x3.length : Int) then (mantrapref16_Remove.l0 k (x0.extract 3 x0.size) (x3.take ((wrap64 ((x3.length : Int) - 1)) : Int).toNat)) else (none)) else (none)) else (mantrapref16_Remove.l0 k (x0.extract 3 x0.size) x3)) else (mantrapref16_Remove.l0 k (x0.extract 3 x0.size) x3)) else (none)) else ((mantrapref16_begins.f x0 (⟨#[46, 47]⟩ : ByteArray)).bind fun t249 => (if t249 = true then (if 2 ≤ (x0.size : Int) then (if x4 = true then (if (x3.length : Int) > 0 then (if 0 ≤ (wrap64 ((x3.length : Int) - 1)) then (if (wrap64 ((x3.length : Int) - 1)) ≤ (x3.length : Int) then (mantrapref16_Remove.l0 k (x0.extract 2 x0.size) (x3.take ((wrap64 ((x3.length : Int) - 1)) : Int).toNat)) else (none)) else (none)) else (mantrapref16_Remove.l0 k (x0.extract 2 x0.size) x3)) else (mantrapref16_Remove.l0 k (x0.extract 2 x0.size) x3)) else (none)) else (if x0.toList = ([47, 46] : List UInt8) then (mantrapref16_Remove.j2 k x0 x3 x4 true) else (mantrapref16_Remove.j2 k x0 x3 x4 (x0.toList == ([47, 46, 46] : List UInt8)))))))
def mantrapref16_Remove.j2 : Nat → ByteArray → List ByteArray → Bool → Bool → Option (ByteArray)
  | 0, _, _, _, _ => none
  | k + 1, x0, x3, x4, x30 => if x30 = true then (if x4 = true then (if (x3.length : Int) > 0 then (if 0 ≤ (wrap64 ((x3.length : Int) - 1)) then (if (wrap64 ((x3.length : Int) - 1)) ≤ (x3.length : Int) then (mantrapref16_Remove.l0 k (⟨#[47]⟩ : ByteArray) (x3.take ((wrap64 ((x3.length : Int) - 1)) : Int).toNat)) else (none)) else (none)) else (mantrapref16_Remove.l0 k (⟨#[47]⟩ : ByteArray) x3)) else (mantrapref16_Remove.l0 k (⟨#[47]⟩ : ByteArray) x3)) else ((mantrapref16_begins.f x0 (⟨#[47, 46, 47]⟩ : ByteArray)).bind fun t256 => (if t256 = true then (if 2 ≤ (x0.size : Int) then (if x4 = true then (if (x3.length : Int) > 0 then (if 0 ≤ (wrap64 ((x3.length : Int) - 1)) then (if (wrap64 ((x3.length : Int) - 1)) ≤ (x3.length : Int) then (mantrapref16_Remove.l0 k (x0.extract 2 x0.size) (x3.take ((wrap64 ((x3.length : Int) - 1)) : Int).toNat)) else (none)) else (none)) else (mantrapref16_Remove.l0 k (x0.extract 2 x0.size) x3)) else (mantrapref16_Remove.l0 k (x0.extract 2 x0.size) x3)) else (none)) else ((mantrapref16_begins.f x0 (⟨#[47, 46, 46, 47]⟩ : ByteArray)).bind fun t260 => (if t260 = true then (if 3 ≤ (x0.size : Int) then (if x4 = true then (if (x3.length : Int) > 0 then (if 0 ≤ (wrap64 ((x3.length : Int) - 1)) then (if (wrap64 ((x3.length : Int) - 1)) ≤ (x3.length : Int) then (mantrapref16_Remove.l0 k (x0.extract 3 x0.size) (x3.take ((wrap64 ((x3.length : Int) - 1)) : Int).toNat)) else (none)) else (none)) else (mantrapref16_Remove.l0 k (x0.extract 3 x0.size) x3)) else (mantrapref16_Remove.l0 k (x0.extract 3 x0.size) x3)) else (none)) else (if x0.toList = ([46] : List UInt8) then (mantrapref16_Remove.j3 k x0 x3 x4 true) else (mantrapref16_Remove.j3 k x0 x3 x4 (x0.toList == ([46, 46] : List UInt8))))))))
def mantrapref16_Remove.j3 : Nat → ByteArray → List ByteArray → Bool → Bool → Option (ByteArray)
  | 0, _, _, _, _ => none
  | k + 1, x0, x3, x4, x44 => if x44 = true then (if x4 = true then (if (x3.length : Int) > 0 then (if 0 ≤ (wrap64 ((x3.length : Int) - 1)) then (if (wrap64 ((x3.length : Int) - 1)) ≤ (x3.length : Int) then (mantrapref16_Remove.l0 k (⟨#[]⟩ : ByteArray) (x3.take ((wrap64 ((x3.length : Int) - 1)) : Int).toNat)) else (none)) else (none)) else (mantrapref16_Remove.l0 k (⟨#[]⟩ : ByteArray) x3)) else (mantrapref16_Remove.l0 k (⟨#[]⟩ : ByteArray) x3)) else (mantrapref16_Remove.l1 k x0 x3 x4 1)
def mantrapref16_Remove.l1 : Nat → ByteArray → List ByteArray → Bool → Int → Option (ByteArray)
  | 0, _, _, _, _ => none
  | k + 1, x0, x3, x4, x5 => if x5 < (x0.size : Int) then (if 0 ≤ x5 then (if (bt x0 x5) = 47 then (if x5 ≤ (x0.size : Int) then (if x3.length < 8796093022208 then ((some (x3 ++ [x0.extract 0 (x5 : Int).toNat] : List ByteArray)).bind fun y267 => (if x4 = true then (if (y267.length : Int) > 0 then (if 0 ≤ (wrap64 ((y267.length : Int) - 1)) then (if (wrap64 ((y267.length : Int) - 1)) ≤ (y267.length : Int) then (mantrapref16_Remove.l0 k (x0.extract (x5 : Int).toNat x0.size) (y267.take ((wrap64 ((y267.length : Int) - 1)) : Int).toNat)) else (none)) else (none)) else (mantrapref16_Remove.l0 k (x0.extract (x5 : Int).toNat x0.size) y267)) else (mantrapref16_Remove.l0 k (x0.extract (x5 : Int).toNat x0.size) y267))) else (none)) else (none)) else (mantrapref16_Remove.l1 k x0 x3 x4 (wrap64 (x5 + 1)))) else (none)) else (if 0 ≤ x5 then (if x5 ≤ (x0.size : Int) then (if x3.length < 8796093022208 then ((some (x3 ++ [x0.extract 0 (x5 : Int).toNat] : List ByteArray)).bind fun y273 => (if x4 = true then (if (y273.length : Int) > 0 then (if 0 ≤ (wrap64 ((y273.length : Int) - 1)) then (if (wrap64 ((y273.length : Int) - 1)) ≤ (y273.length : Int) then (mantrapref16_Remove.l0 k (x0.extract (x5 : Int).toNat x0.size) (y273.take ((wrap64 ((y273.length : Int) - 1)) : Int).toNat)) else (none)) else (none)) else (mantrapref16_Remove.l0 k (x0.extract (x5 : Int).toNat x0.size) y273)) else (mantrapref16_Remove.l0 k (x0.extract (x5 : Int).toNat x0.size) y273))) else (none)) else (none)) else (none))
end
def mantrapref16_Remove.f (k : Nat) (a0 : ByteArray) : Option (ByteArray) := mantrapref16_Remove.l0 k a0 ([] : List ByteArray)
theorem mantrapref16_Remove.mono_l : ∀ k, (∀ y0 y1, LeO (mantrapref16_Remove.l0 k y0 y1) (mantrapref16_Remove.l0 (k + 1) y0 y1)) ∧ (∀ y0 y1 y2 y3, LeO (mantrapref16_Remove.l2 k y0 y1 y2 y3) (mantrapref16_Remove.l2 (k + 1) y0 y1 y2 y3)) ∧ (∀ y0 y1 y2, LeO (mantrapref16_Remove.j1 k y0 y1 y2) (mantrapref16_Remove.j1 (k + 1) y0 y1 y2)) ∧ (∀ y0 y1 y2 y3, LeO (mantrapref16_Remove.j2 k y0 y1 y2 y3) (mantrapref16_Remove.j2 (k + 1) y0 y1 y2 y3)) ∧ (∀ y0 y1 y2 y3, LeO (mantrapref16_Remove.j3 k y0 y1 y2 y3) (mantrapref16_Remove.j3 (k + 1) y0 y1 y2 y3)) ∧ (∀ y0 y1 y2 y3, LeO (mantrapref16_Remove.l1 k y0 y1 y2 y3) (mantrapref16_Remove.l1 (k + 1) y0 y1 y2 y3))
  | 0 => ⟨fun _ _ r h => by simp [mantrapref16_Remove.l0] at h, fun _ _ _ _ r h => by simp [mantrapref16_Remove.l2] at h, fun _ _ _ r h => by simp [mantrapref16_Remove.j1] at h, fun _ _ _ _ r h => by simp [mantrapref16_Remove.j2] at h, fun _ _ _ _ r h => by simp [mantrapref16_Remove.j3] at h, fun _ _ _ _ r h => by simp [mantrapref16_Remove.l1] at h⟩
  | k + 1 => by
    obtain ⟨ih0, ih1, ih2, ih3, ih4, ih5⟩ := mantrapref16_Remove.mono_l k
    refine ⟨?_, ?_, ?_, ?_, ?_, ?_⟩
    · intro y0 y1
      unfold mantrapref16_Remove.l0
      repeat' first
      | (with_reducible exact ih0 _ _)
      | (with_reducible exact ih1 _ _ _ _)
      | (with_reducible exact ih2 _ _ _)
      | (with_reducible exact ih3 _ _ _ _)
      | (with_reducible exact ih4 _ _ _ _)
      | (with_reducible exact ih5 _ _ _ _)
      | (with_reducible exact LeO.refl _)
      | (with_reducible exact LeO.none _)
      | (with_reducible refine LeO.ite ?_ ?_)
      | (with_reducible refine LeO.bind ?_ (fun _ => ?_))
      | exact ih0 _ _
      | exact ih1 _ _ _ _
      | exact ih2 _ _ _
      | exact ih3 _ _ _ _
      | exact ih4 _ _ _ _
      | exact ih5 _ _ _ _
      | exact LeO.none _
      | refine LeO.ite ?_ ?_
      | refine LeO.bind ?_ (fun _ => ?_)
    · intro y0 y1 y2 y3
      unfold mantrapref16_Remove.l2
      repeat' first
      | (with_reducible exact ih0 _ _)
      | (with_reducible exact ih1 _ _ _ _)
      | (with_reducible exact ih2 _ _ _)
      | (with_reducible exact ih3 _ _ _ _)
      | (with_reducible exact ih4 _ _ _ _)
      | (with_reducible exact ih5 _ _ _ _)
      | (with_reducible exact LeO.refl _)
      | (with_reducible exact LeO.none _)
      | (with_reducible refine LeO.ite ?_ ?_)
      | (with_reducible refine LeO.bind ?_ (fun _ => ?_))
      | exact ih0 _ _
      | exact ih1 _ _ _ _
      | exact ih2 _ _ _
      | exact ih3 _ _ _ _
      | exact ih4 _ _ _ _
      | exact ih5 _ _ _ _
      | exact LeO.none _
      | refine LeO.ite ?_ ?_
      | refine LeO.bind ?_ (fun _ => ?_)
    · intro y0 y1 y2
      unfold mantrapref16_Remove.j1
      repeat' first
      | (with_reducible exact ih0 _ _)
      | (with_reducible exact ih1 _ _ _ _)
      | (with_reducible exact ih2 _ _ _)
      | (with_reducible exact ih3 _ _ _ _)
      | (with_reducible exact ih4 _ _ _ _)
      | (with_reducible exact ih5 _ _ _ _)
      | (with_reducible exact LeO.refl _)
      | (with_reducible exact LeO.none _)
      | (with_reducible refine LeO.ite ?_ ?_)
      | (with_reducible refine LeO.bind ?_ (fun _ => ?_))
      | exact ih0 _ _
      | exact ih1 _ _ _ _
      | exact ih2 _ _ _
      | exact ih3 _ _ _ _
      | exact ih4 _ _ _ _
      | exact ih5 _ _ _ _
      | exact LeO.none _
      | refine LeO.ite ?_ ?_
      | refine LeO.bind ?_ (fun _ => ?_)
    · intro y0 y1 y2 y3
      unfold mantrapref16_Remove.j2
      repeat' first
      | (with_reducible exact ih0 _ _)
      | (with_reducible exact ih1 _ _ _ _)
      | (with_reducible exact ih2 _ _ _)
      | (with_reducible exact ih3 _ _ _ _)
      | (with_reducible exact ih4 _ _ _ _)
      | (with_reducible exact ih5 _ _ _ _)
      | (with_reducible exact LeO.refl _)
      | (with_reducible exact LeO.none _)
      | (with_reducible refine LeO.ite ?_ ?_)
      | (with_reducible refine LeO.bind ?_ (fun _ => ?_))
      | exact ih0 _ _
      | exact ih1 _ _ _ _
      | exact ih2 _ _ _
      | exact ih3 _ _ _ _
      | exact ih4 _ _ _ _
      | exact ih5 _ _ _ _
      | exact LeO.none _
      | refine LeO.ite ?_ ?_
      | refine LeO.bind ?_ (fun _ => ?_)
    · intro y0 y1 y2 y3
      unfold mantrapref16_Remove.j3
      repeat' first
      | (with_reducible exact ih0 _ _)
      | (with_reducible exact ih1 _ _ _ _)
      | (with_reducible exact ih2 _ _ _)
      | (with_reducible exact ih3 _ _ _ _)
      | (with_reducible exact ih4 _ _ _ _)
      | (with_reducible exact ih5 _ _ _ _)
      | (with_reducible exact LeO.refl _)
      | (with_reducible exact LeO.none _)
      | (with_reducible refine LeO.ite ?_ ?_)
      | (with_reducible refine LeO.bind ?_ (fun _ => ?_))
      | exact ih0 _ _
      | exact ih1 _ _ _ _
      | exact ih2 _ _ _
      | exact ih3 _ _ _ _
      | exact ih4 _ _ _ _
      | exact ih5 _ _ _ _
      | exact LeO.none _
      | refine LeO.ite ?_ ?_
      | refine LeO.bind ?_ (fun _ => ?_)
    · intro y0 y1 y2 y3
      unfold mantrapref16_Remove.l1
      repeat' first
      | (with_reducible exact ih0 _ _)
      | (with_reducible exact ih1 _ _ _ _)
      | (with_reducible exact ih2 _ _ _)
      | (with_reducible exact ih3 _ _ _ _)
      | (with_reducible exact ih4 _ _ _ _)
      | (with_reducible exact ih5 _ _ _ _)
      | (with_reducible exact LeO.refl _)
      | (with_reducible exact LeO.none _)
      | (with_reducible refine LeO.ite ?_ ?_)
      | (with_reducible refine LeO.bind ?_ (fun _ => ?_))
      | exact ih0 _ _
      | exact ih1 _ _ _ _
      | exact ih2 _ _ _
      | exact ih3 _ _ _ _
      | exact ih4 _ _ _ _
      | exact ih5 _ _ _ _
      | exact LeO.none _
      | refine LeO.ite ?_ ?_
      | refine LeO.bind ?_ (fun _ => ?_)
theorem mantrapref16_Remove.mono : ∀ a0 k, LeO (mantrapref16_Remove.f k a0) (mantrapref16_Remove.f (k + 1) a0) := by
  intro a0 k
  obtain ⟨ih0, ih1, ih2, ih3, ih4, ih5⟩ := mantrapref16_Remove.mono_l k
  unfold mantrapref16_Remove.f
  repeat' first
      | (with_reducible exact ih0 _ _)
      | (with_reducible exact ih1 _ _ _ _)
      | (with_reducible exact ih2 _ _ _)
      | (with_reducible exact ih3 _ _ _ _)
      | (with_reducible exact ih4 _ _ _ _)
      | (with_reducible exact ih5 _ _ _ _)
      | (with_reducible exact LeO.refl _)
      | (with_reducible exact LeO.none _)
      | (with_reducible refine LeO.ite ?_ ?_)
      | (with_reducible refine LeO.bind ?_ (fun _ => ?_))
      | exact ih0 _ _
      | exact ih1 _ _ _ _
      | exact ih2 _ _ _
      | exact ih3 _ _ _ _
      | exact ih4 _ _ _ _
      | exact ih5 _ _ _ _
      | exact LeO.none _
      | refine LeO.ite ?_ ?_
      | refine LeO.bind ?_ (fun _ => ?_)
set_option maxHeartbeats 8000000 in
set_option maxRecDepth 100000 in
theorem mantrapref16_Remove.calls (k : Nat) (a0 : ByteArray) (r : ByteArray) (w : World) (h : mantrapref16_Remove.f k a0 = some r) :
    Calls Tryz.prog 27 #[.string a0] w fun e w' => e = .returned (.string r) ∧ Below w.heap.size w w' := by
  have HB := Aside0.mk (Below.refl w.heap.size w)
  have H : (mantrapref16_Remove.l0 k a0 ([] : List ByteArray)) = some r := h
  clear h
  have H' := Aside0.mk H
  clear H
  go_enter Tryz.func27, Tryz.ntmps27
  go_wp2
  go_loopg [0, 3] k (fun kq v0 v3 w' => ∃ (x0_1 : ByteArray) (x3_1 : List ByteArray), v0 = .string x0_1 ∧ Aside0 (mantrapref16_Remove.l0 kq x0_1 x3_1 = some r) ∧ Aside0 (kq ≤ k) ∧ Aside0 (Kd.R Kd.string 9 w' w.heap.size (fun _ => True) v3 x3_1) ∧ Aside0 (Below w.heap.size w w'))
  case atStart => exact ⟨(a0), (([] : List ByteArray)), (by first | rfl | (simp; done) | (simp [*]; done)), H', ⟨Nat.le_refl _⟩, ⟨by first | exact Kd.R_nil _ _ _ _ _ | exact Kd.N_nil _ _ _ _ _ | exact Kd.V_nil _ _ _ _ _ | exact Kd.Q_nil _ _ _ _ _ | exact Kd.S_nil _ _ _ _ _⟩, ⟨by repeat (first | (with_reducible first | exact HB.out | apply below_alloc | apply pw_below_drewN | apply below_drew1) | exact HB.out)⟩⟩
  case round =>
    clear H'
    obtain ⟨x0_1, x3_1, rfl, HA, HK1, HO_3, HB⟩ := hrel
    cases gk with
    | zero => exact absurd HA.out (by simp [mantrapref16_Remove.l0])
    | succ k1 =>
      have H := HA.out
      clear HA
      simp only [mantrapref16_Remove.l0] at H
      by_cases c2 : x0_1.toList = ([] : List UInt8)
      · rw [if_pos c2] at H
        have c2b0 : (x0_1.toList == ([] : List UInt8)) = true := beq_iff_eq.mpr c2
        have c2b1 : (x0_1.toList != ([] : List UInt8)) = false := bne_eq_false_iff_eq.mpr c2
        clear c2
        have H' := Aside0.mk H
        clear H
        obtain ⟨Ao3, co3, eo3⟩ := Kd.R_slice HO_3.out
        subst eo3
        go_wp2
        go_loopg [6, 79] k1 (fun kq v6 v79 w' => ∃ (x6_2 : ByteArray) (x79_2 : Int), v6 = .string x6_2 ∧ v79 = .int .i64 x79_2 ∧ Aside0 (mantrapref16_Remove.l2 kq x6_2 x3_1 (x3_1.length : Int) x79_2 = some r) ∧ Aside0 (kq ≤ k1) ∧ Aside0 (Kd.R Kd.string 9 w' w.heap.size (fun _ => True) (.slice Ao3 x3_1.length co3) x3_1) ∧ Aside0 (Below w.heap.size w w'))
        case atStart => exact ⟨((⟨#[]⟩ : ByteArray)), (0), (by first | rfl | (simp; done) | (simp [*]; done)), (by first | rfl | (simp; done) | (simp [*]; done)), H', ⟨Nat.le_refl _⟩, ⟨by (with_reducible repeat (first | apply Kd.R_alloc | apply Kd.R_drewN | apply Kd.R_drew)); exact HO_3.out⟩, ⟨by repeat (first | (with_reducible first | exact HB.out | apply below_alloc | apply pw_below_drewN | apply below_drew1) | exact HB.out)⟩⟩
        case round =>
          clear H'
          try clear c2
          try clear c2b0
          try clear c2b1
          try clear p2
          obtain ⟨x6_2, x79_2, rfl, rfl, HA, HK2, HO_77, HB⟩ := hrel
          cases gk with
          | zero => exact absurd HA.out (by simp [mantrapref16_Remove.l2])
          | succ k2 =>
            have H := HA.out
            clear HA
            simp only [mantrapref16_Remove.l2] at H
            by_cases c4 : x79_2 < (x3_1.length : Int)
            · rw [if_pos c4] at H
              have c4b0 : decide (x79_2 < (x3_1.length : Int)) = true := decide_eq_true c4
              clear c4
              by_cases c5 : 0 ≤ x79_2
              · rw [if_pos c5] at H
                have c5b0 : decide (0 ≤ x79_2) = true := decide_eq_true c5
                clear c5
                by_cases c6 : x79_2 < (x3_1.length : Int)
                · rw [if_pos c6] at H
                  have c6b0 : decide (x79_2 < (x3_1.length : Int)) = true := decide_eq_true c6
                  clear c6
                  by_cases c7 : x6_2.size + (rdOf ByteArray.empty x3_1 x79_2).size ≤ 9223372036854775807
                  · rw [if_pos c7] at H
                    have c7b0 := eq_true c7
                    have c7b1 : decide (x6_2.size + (rdOf ByteArray.empty x3_1 x79_2).size ≤ 9223372036854775807) = true := decide_eq_true c7
                    try have c7b2 : (9223372036854775807 < x6_2.size + (rdOf ByteArray.empty x3_1 x79_2).size) = False := eq_false (Nat.not_lt.2 c7)
                    have H' := Aside0.mk H
                    clear H
                    have p279 : 0 ≤ (x79_2 : Int) := of_decide_eq_true (by first | (with_reducible assumption) | assumption)
                    have q279 : x79_2 < (x3_1.length : Int) := of_decide_eq_true (by first | (with_reducible assumption) | assumption)
                    obtain ⟨ad279, e279, hx279_0⟩ := Kd.at_string (Kd.R_reads' HO_77.out).2.2 x79_2 p279 q279
                    cases e279
                    replace p279 := eq_true p279
                    replace q279 := eq_true q279
                    go_wp2
                    go_roundg k2
                    case measure => have := HK1.out; have := HK2.out; omega
                    case rel => exact ⟨(x6_2 ++ (rdOf ByteArray.empty x3_1 x79_2)), (wrap64 (x79_2 + 1)), (by first | rfl | (simp; done) | (simp [*]; done)), (by first | rfl | (simp; done) | (simp [*]; done)), H', ⟨by have := HK1.out; have := HK2.out; omega⟩, ⟨by (with_reducible repeat (first | apply Kd.R_alloc | apply Kd.R_drewN | apply Kd.R_drew)); exact HO_77.out⟩, ⟨by repeat (first | (with_reducible first | exact HB.out | apply below_alloc | apply pw_below_drewN | apply below_drew1) | exact HB.out)⟩⟩
                  · rw [if_neg c7] at H
                    exact absurd H (by simp)
                · rw [if_neg c6] at H
                  exact absurd H (by simp)
              · rw [if_neg c5] at H
                exact absurd H (by simp)
            · rw [if_neg c4] at H
              have c4b0 : decide (x79_2 < (x3_1.length : Int)) = false := decide_eq_false c4
              clear c4
              obtain rfl := Option.some.inj H
              go_wp2
              go_ret
              exact ⟨by first | rfl | (simp [errW_none, errW_some] <;> rfl) | (simp [*, errW_none, errW_some] <;> rfl), by repeat (first | (with_reducible first | exact HB.out | apply below_alloc | apply pw_below_drewN | apply below_drew1) | exact HB.out)⟩
      · rw [if_neg c2] at H
        have c2b0 : (x0_1.toList == ([] : List UInt8)) = false := beq_eq_false_iff_ne.mpr c2
        have c2b1 : (x0_1.toList != ([] : List UInt8)) = true := bne_iff_ne.mpr c2
        have HC8 := Aside0.mk H
        clear H
        go_upto_region 3 with (fail)
        go_cut [4] (fun v4 wc => ∃ (kq : Nat) (x4_7 : Bool), v4 = .bool x4_7 ∧ Aside0 (mantrapref16_Remove.j1 kq x0_1 x3_1 x4_7 = some r) ∧ Aside0 (kq ≤ k1) ∧ Aside0 (Kd.R Kd.string 9 wc w.heap.size (fun _ => True) u3 x3_1) ∧ Aside0 (Below w.heap.size w wc))
        case first =>
          have H := HC8.out
          clear HC8
          replace H := Option.bind_eq_some_iff.mp H
          obtain ⟨t244, A90, H⟩ := H
          replace H : (if t244 = true then (mantrapref16_Remove.j1 k1 x0_1 x3_1 true) else (mantrapref16_Remove.j1 k1 x0_1 x3_1 (x0_1.toList == ([47, 46, 46] : List UInt8)))) = some r := H
          have A9 := Aside0.mk A90
          clear A90
          by_cases c10 : t244 = true
          · subst c10
            have H1 : (mantrapref16_Remove.j1 k1 x0_1 x3_1 true) = some r := by rw [if_pos rfl] at H; exact H
            clear H
            have H := H1
            clear H1
            have H' := Aside0.mk H
            clear H
            go_wp2_with (first | ((with_reducible refine gate_callee (f := 79) rfl ?_); refine goesL_ (some 12) rfl rfl Tryz.func79 (by kernel_rfl) rfl #[.string x0_1, .string (⟨#[47, 46, 46, 47]⟩ : ByteArray)] rfl (by (try simp only [List.map_toArray, List.map_cons, List.map_nil]); first | done | rfl | (simp only [List.length_drop, List.length_take]; rfl)) ?_; (with_reducible refine (mantrapref16_begins.calls x0_1 (⟨#[47, 46, 46, 47]⟩ : ByteArray) true _ A9.out).mono ?_); rintro e w' ⟨rfl, ⟨nd, rfl⟩⟩; refine ⟨_, rfl, ?_⟩))
            go_meet
            case rel => exact ⟨_, (true), (by first | rfl | (simp; done) | (simp [*]; done)), H', ⟨by have := HK1.out; first | omega | exact Nat.le_refl _⟩, ⟨by (with_reducible repeat (first | apply Kd.R_alloc | apply Kd.R_drewN | apply Kd.R_drew)); exact HO_3.out⟩, ⟨by repeat (first | (with_reducible first | exact HB.out | apply below_alloc | apply pw_below_drewN | apply below_drew1) | exact HB.out)⟩⟩
          · replace c10 := Bool.eq_false_iff.mpr c10
            subst c10
            have H1 : (mantrapref16_Remove.j1 k1 x0_1 x3_1 (x0_1.toList == ([47, 46, 46] : List UInt8))) = some r := by rw [if_neg (show ¬ (false = true) by decide)] at H; exact H
            clear H
            have H := H1
            clear H1
            have H' := Aside0.mk H
            clear H
            go_wp2_with (first | ((with_reducible refine gate_callee (f := 79) rfl ?_); refine goesL_ (some 12) rfl rfl Tryz.func79 (by kernel_rfl) rfl #[.string x0_1, .string (⟨#[47, 46, 46, 47]⟩ : ByteArray)] rfl (by (try simp only [List.map_toArray, List.map_cons, List.map_nil]); first | done | rfl | (simp only [List.length_drop, List.length_take]; rfl)) ?_; (with_reducible refine (mantrapref16_begins.calls x0_1 (⟨#[47, 46, 46, 47]⟩ : ByteArray) false _ A9.out).mono ?_); rintro e w' ⟨rfl, ⟨nd, rfl⟩⟩; refine ⟨_, rfl, ?_⟩))
            go_meet
            case rel => exact ⟨_, ((x0_1.toList == ([47, 46, 46] : List UInt8))), (by first | rfl | (simp; done) | (simp [*]; done)), H', ⟨by have := HK1.out; first | omega | exact Nat.le_refl _⟩, ⟨by (with_reducible repeat (first | apply Kd.R_alloc | apply Kd.R_drewN | apply Kd.R_drew)); exact HO_3.out⟩, ⟨by repeat (first | (with_reducible first | exact HB.out | apply below_alloc | apply pw_below_drewN | apply below_drew1) | exact HB.out)⟩⟩
        case rest =>
          clear HC8
          try clear c1
          try clear c2
          try clear c2b0
          try clear c2b1
          try clear p2
          try clear q2
          try clear hx2
          try clear c4
          try clear c4b0
          try clear c5
          try clear c5b0
          try clear c6
          try clear c6b0
          try clear p6
          try clear c7
          try clear c7b0
          try clear c7b1
          try clear c7b2
          try clear c10
          try clear hx279_0
          try clear p2
          try clear p279
          try clear q279
          obtain ⟨kq, x4_7, rfl, HA, HJ7, HO_3, HB⟩ := hcut
          cases kq with
          | zero => exact absurd HA.out (by simp [mantrapref16_Remove.j1])
          | succ kj7 =>
            have H := HA.out
            clear HA
            simp only [mantrapref16_Remove.j1] at H
            replace H := Option.bind_eq_some_iff.mp H
            obtain ⟨t245, A110, H⟩ := H
            replace H : (if t245 = true then (if 3 ≤ (x0_1.size : Int) then (if x4_7 = true then (if (x3_1.length : Int) > 0 then (if 0 ≤ (wrap64 ((x3_1.length : Int) - 1)) then (if (wrap64 ((x3_1.length : Int) - 1)) ≤ (x3_1.length : Int) then (mantrapref16_Remove.l0 kj7 (x0_1.extract 3 x0_1.size) (x3_1.take ((wrap64 ((x3_1.length : Int) - 1)) : Int).toNat)) else (none)) else (none)) else (mantrapref16_Remove.l0 kj7 (x0_1.extract 3 x0_1.size) x3_1)) else (mantrapref16_Remove.l0 kj7 (x0_1.extract 3 x0_1.size) x3_1)) else (none)) else ((mantrapref16_begins.f x0_1 (⟨#[46, 47]⟩ : ByteArray)).bind fun t249 => (if t249 = true then (if 2 ≤ (x0_1.size : Int) then (if x4_7 = true then (if (x3_1.length : Int) > 0 then (if 0 ≤ (wrap64 ((x3_1.length : Int) - 1)) then (if (wrap64 ((x3_1.length : Int) - 1)) ≤ (x3_1.length : Int) then (mantrapref16_Remove.l0 kj7 (x0_1.extract 2 x0_1.size) (x3_1.take ((wrap64 ((x3_1.length : Int) - 1)) : Int).toNat)) else (none)) else (none)) else (mantrapref16_Remove.l0 kj7 (x0_1.extract 2 x0_1.size) x3_1)) else (mantrapref16_Remove.l0 kj7 (x0_1.extract 2 x0_1.size) x3_1)) else (none)) else (if x0_1.toList = ([47, 46] : List UInt8) then (mantrapref16_Remove.j2 kj7 x0_1 x3_1 x4_7 true) else (mantrapref16_Remove.j2 kj7 x0_1 x3_1 x4_7 (x0_1.toList == ([47, 46, 46] : List UInt8))))))) = some r := H
            have A11 := Aside0.mk A110
            clear A110
            by_cases c12 : t245 = true
            · subst c12
              have H1 : (if 3 ≤ (x0_1.size : Int) then (if x4_7 = true then (if (x3_1.length : Int) > 0 then (if 0 ≤ (wrap64 ((x3_1.length : Int) - 1)) then (if (wrap64 ((x3_1.length : Int) - 1)) ≤ (x3_1.length : Int) then (mantrapref16_Remove.l0 kj7 (x0_1.extract 3 x0_1.size) (x3_1.take ((wrap64 ((x3_1.length : Int) - 1)) : Int).toNat)) else (none)) else (none)) else (mantrapref16_Remove.l0 kj7 (x0_1.extract 3 x0_1.size) x3_1)) else (mantrapref16_Remove.l0 kj7 (x0_1.extract 3 x0_1.size) x3_1)) else (none)) = some r := by rw [if_pos rfl] at H; exact H
              clear H
              have H := H1
              clear H1
              by_cases c13 : 3 ≤ (x0_1.size : Int)
              · rw [if_pos c13] at H
                have c13b0 := eq_true c13
                have c13b1 : decide (3 ≤ (x0_1.size : Int)) = true := decide_eq_true c13
                clear c13
                by_cases c14 : x4_7 = true
                · subst c14
                  have H1 : (if (x3_1.length : Int) > 0 then (if 0 ≤ (wrap64 ((x3_1.length : Int) - 1)) then (if (wrap64 ((x3_1.length : Int) - 1)) ≤ (x3_1.length : Int) then (mantrapref16_Remove.l0 kj7 (x0_1.extract 3 x0_1.size) (x3_1.take ((wrap64 ((x3_1.length : Int) - 1)) : Int).toNat)) else (none)) else (none)) else (mantrapref16_Remove.l0 kj7 (x0_1.extract 3 x0_1.size) x3_1)) = some r := by rw [if_pos rfl] at H; exact H
                  clear H
                  have H := H1
                  clear H1
                  by_cases c15 : (x3_1.length : Int) > 0
                  · rw [if_pos c15] at H
                    have c15b0 : decide (0 < (x3_1.length : Int)) = true := decide_eq_true c15
                    have c15b1 : decide (0 < x3_1.length) = true := decide_eq_true (by omega)
                    clear c15
                    obtain ⟨ji16, hji16⟩ : ∃ j_ : Int, (wrap64 ((x3_1.length : Int) - 1)) = j_ := ⟨_, rfl⟩
                    replace H : (if 0 ≤ (ji16) then (if (ji16) ≤ (x3_1.length : Int) then (mantrapref16_Remove.l0 kj7 (x0_1.extract 3 x0_1.size) (x3_1.take ((ji16) : Int).toNat)) else (none)) else (none)) = some r := by first | (rw [hji16] at H; exact H) | (simp only [hji16] at H ⊢; exact H)
                    (try rw [hji16] at A11)
                    have hji16w : (IntKind.i64.wrap ((x3_1.length : Int) - 1)) = ji16 := (i64_w _).trans hji16
                    by_cases c17 : 0 ≤ (ji16)
                    · rw [if_pos c17] at H
                      have c17b0 := eq_true c17
                      have c17b1 : decide (0 ≤ (ji16)) = true := decide_eq_true c17
                      clear c17
                      by_cases c18 : (ji16) ≤ (x3_1.length : Int)
                      · rw [if_pos c18] at H
                        have c18b0 := eq_true c18
                        have c18b1 : decide ((ji16) ≤ (x3_1.length : Int)) = true := decide_eq_true c18
                        clear c18
                        obtain ⟨y246, hy246⟩ : ∃ y_ : List ByteArray, y_ = (x3_1.take ((ji16) : Int).toNat) := ⟨_, rfl⟩
                        replace H : (mantrapref16_Remove.l0 kj7 (x0_1.extract 3 x0_1.size) y246) = some r := by first | (rw [hy246]; with_reducible exact H) | (have H2_ := (Option.bind_some _ _).symm.trans H; rw [hy246]; with_reducible exact H2_) | (have H2_ := (Option.bind_some _ _).symm.trans H; with_reducible exact H2_) | with_reducible exact H | (rw [hy246]; exact H) | exact H
                        have Ny246 := Aside0.mk hy246
                        clear hy246
                        have H' := Aside0.mk H
                        clear H
                        go_wp2_with (first | ((with_reducible refine gate_callee (f := 79) rfl ?_); refine goesL_ (some 18) rfl rfl Tryz.func79 (by kernel_rfl) rfl #[.string x0_1, .string (⟨#[46, 46, 47]⟩ : ByteArray)] rfl (by (try simp only [List.map_toArray, List.map_cons, List.map_nil]); first | done | rfl | (simp only [List.length_drop, List.length_take]; rfl)) ?_; (with_reducible refine (mantrapref16_begins.calls x0_1 (⟨#[46, 46, 47]⟩ : ByteArray) true _ A11.out).mono ?_); rintro e w' ⟨rfl, ⟨nd, rfl⟩⟩; refine ⟨_, rfl, ?_⟩; obtain ⟨Ao19, co19, eo19⟩ := Kd.R_slice HO_3.out; subst eo19; have q20 : ((ji16) : Int) ≤ ((x3_1.length : Int) : Int) := of_decide_eq_true (by first | (with_reducible assumption) | assumption); obtain ⟨i020, hi020, _, hsz20, _⟩ := info_parts info9; have hcut20 := cut_to (P := Tryz.prog) 48 9 .i64 Tryz.underlying48 hi020 Ao19 x3_1.length co19 (ji16) (of_decide_eq_true (by first | (with_reducible assumption) | assumption)) q20 (Kd.R_reads' HO_3.out).2.1; have hr20 := Kd.R_take (m := ((ji16) : Int).toNat) HO_3.out (by omega); have hy20 : y246.length = ((ji16) : Int).toNat := (by rw [Ny246.out, List.length_take]; omega); rw [← Ny246.out] at hr20; rw [← hy20] at hr20 hcut20; clear hy20 hi020 hsz20 HO_3; have HO248 := Aside0.mk hr20; clear hr20; replace q20 := eq_true q20))
                        go_roundg kj7
                        case measure => have := HK1.out; have := HJ7.out; omega
                        case rel => exact ⟨(x0_1.extract 3 x0_1.size), (y246), (by first | rfl | (simp; done) | (simp [*]; done)), H', ⟨by have := HK1.out; have := HJ7.out; omega⟩, ⟨by (with_reducible repeat (first | apply Kd.R_alloc | apply Kd.R_drewN | apply Kd.R_drew)); exact HO248.out⟩, ⟨by repeat (first | (with_reducible first | exact HB.out | apply below_alloc | apply pw_below_drewN | apply below_drew1) | exact HB.out)⟩⟩
                      · rw [if_neg c18] at H
                        exact absurd H (by simp)
                    · rw [if_neg c17] at H
                      exact absurd H (by simp)
                  · rw [if_neg c15] at H
                    have c15b0 : decide (0 < (x3_1.length : Int)) = false := decide_eq_false c15
                    have c15b1 : decide (0 < x3_1.length) = false := decide_eq_false (by omega)
                    clear c15
                    have H' := Aside0.mk H
                    clear H
                    go_wp2_with (first | ((with_reducible refine gate_callee (f := 79) rfl ?_); refine goesL_ (some 18) rfl rfl Tryz.func79 (by kernel_rfl) rfl #[.string x0_1, .string (⟨#[46, 46, 47]⟩ : ByteArray)] rfl (by (try simp only [List.map_toArray, List.map_cons, List.map_nil]); first | done | rfl | (simp only [List.length_drop, List.length_take]; rfl)) ?_; (with_reducible refine (mantrapref16_begins.calls x0_1 (⟨#[46, 46, 47]⟩ : ByteArray) true _ A11.out).mono ?_); rintro e w' ⟨rfl, ⟨nd, rfl⟩⟩; refine ⟨_, rfl, ?_⟩; obtain ⟨Ao21, co21, eo21⟩ := Kd.R_slice HO_3.out; subst eo21))
                    go_roundg kj7
                    case measure => have := HK1.out; have := HJ7.out; omega
                    case rel => exact ⟨(x0_1.extract 3 x0_1.size), (x3_1), (by first | rfl | (simp; done) | (simp [*]; done)), H', ⟨by have := HK1.out; have := HJ7.out; omega⟩, ⟨by (with_reducible repeat (first | apply Kd.R_alloc | apply Kd.R_drewN | apply Kd.R_drew)); exact HO_3.out⟩, ⟨by repeat (first | (with_reducible first | exact HB.out | apply below_alloc | apply pw_below_drewN | apply below_drew1) | exact HB.out)⟩⟩
                · replace c14 := Bool.eq_false_iff.mpr c14
                  subst c14
                  have H1 : (mantrapref16_Remove.l0 kj7 (x0_1.extract 3 x0_1.size) x3_1) = some r := by rw [if_neg (show ¬ (false = true) by decide)] at H; exact H
                  clear H
                  have H := H1
                  clear H1
                  have H' := Aside0.mk H
                  clear H
                  go_wp2_with (first | ((with_reducible refine gate_callee (f := 79) rfl ?_); refine goesL_ (some 18) rfl rfl Tryz.func79 (by kernel_rfl) rfl #[.string x0_1, .string (⟨#[46, 46, 47]⟩ : ByteArray)] rfl (by (try simp only [List.map_toArray, List.map_cons, List.map_nil]); first | done | rfl | (simp only [List.length_drop, List.length_take]; rfl)) ?_; (with_reducible refine (mantrapref16_begins.calls x0_1 (⟨#[46, 46, 47]⟩ : ByteArray) true _ A11.out).mono ?_); rintro e w' ⟨rfl, ⟨nd, rfl⟩⟩; refine ⟨_, rfl, ?_⟩))
                  go_roundg kj7
                  case measure => have := HK1.out; have := HJ7.out; omega
                  case rel => exact ⟨(x0_1.extract 3 x0_1.size), (x3_1), (by first | rfl | (simp; done) | (simp [*]; done)), H', ⟨by have := HK1.out; have := HJ7.out; omega⟩, ⟨by (with_reducible repeat (first | apply Kd.R_alloc | apply Kd.R_drewN | apply Kd.R_drew)); exact HO_3.out⟩, ⟨by repeat (first | (with_reducible first | exact HB.out | apply below_alloc | apply pw_below_drewN | apply below_drew1) | exact HB.out)⟩⟩
              · rw [if_neg c13] at H
                exact absurd H (by simp)
            · replace c12 := Bool.eq_false_iff.mpr c12
              subst c12
              have H1 : ((mantrapref16_begins.f x0_1 (⟨#[46, 47]⟩ : ByteArray)).bind fun t249 => (if t249 = true then (if 2 ≤ (x0_1.size : Int) then (if x4_7 = true then (if (x3_1.length : Int) > 0 then (if 0 ≤ (wrap64 ((x3_1.length : Int) - 1)) then (if (wrap64 ((x3_1.length : Int) - 1)) ≤ (x3_1.length : Int) then (mantrapref16_Remove.l0 kj7 (x0_1.extract 2 x0_1.size) (x3_1.take ((wrap64 ((x3_1.length : Int) - 1)) : Int).toNat)) else (none)) else (none)) else (mantrapref16_Remove.l0 kj7 (x0_1.extract 2 x0_1.size) x3_1)) else (mantrapref16_Remove.l0 kj7 (x0_1.extract 2 x0_1.size) x3_1)) else (none)) else (if x0_1.toList = ([47, 46] : List UInt8) then (mantrapref16_Remove.j2 kj7 x0_1 x3_1 x4_7 true) else (mantrapref16_Remove.j2 kj7 x0_1 x3_1 x4_7 (x0_1.toList == ([47, 46, 46] : List UInt8)))))) = some r := by rw [if_neg (show ¬ (false = true) by decide)] at H; exact H
              clear H
              have H := H1
              clear H1
              replace H := Option.bind_eq_some_iff.mp H
              obtain ⟨t249, A220, H⟩ := H
              replace H : (if t249 = true then (if 2 ≤ (x0_1.size : Int) then (if x4_7 = true then (if (x3_1.length : Int) > 0 then (if 0 ≤ (wrap64 ((x3_1.length : Int) - 1)) then (if (wrap64 ((x3_1.length : Int) - 1)) ≤ (x3_1.length : Int) then (mantrapref16_Remove.l0 kj7 (x0_1.extract 2 x0_1.size) (x3_1.take ((wrap64 ((x3_1.length : Int) - 1)) : Int).toNat)) else (none)) else (none)) else (mantrapref16_Remove.l0 kj7 (x0_1.extract 2 x0_1.size) x3_1)) else (mantrapref16_Remove.l0 kj7 (x0_1.extract 2 x0_1.size) x3_1)) else (none)) else (if x0_1.toList = ([47, 46] : List UInt8) then (mantrapref16_Remove.j2 kj7 x0_1 x3_1 x4_7 true) else (mantrapref16_Remove.j2 kj7 x0_1 x3_1 x4_7 (x0_1.toList == ([47, 46, 46] : List UInt8))))) = some r := H
              have A22 := Aside0.mk A220
              clear A220
              by_cases c23 : t249 = true
              · subst c23
                have H1 : (if 2 ≤ (x0_1.size : Int) then (if x4_7 = true then (if (x3_1.length : Int) > 0 then (if 0 ≤ (wrap64 ((x3_1.length : Int) - 1)) then (if (wrap64 ((x3_1.length : Int) - 1)) ≤ (x3_1.length : Int) then (mantrapref16_Remove.l0 kj7 (x0_1.extract 2 x0_1.size) (x3_1.take ((wrap64 ((x3_1.length : Int) - 1)) : Int).toNat)) else (none)) else (none)) else (mantrapref16_Remove.l0 kj7 (x0_1.extract 2 x0_1.size) x3_1)) else (mantrapref16_Remove.l0 kj7 (x0_1.extract 2 x0_1.size) x3_1)) else (none)) = some r := by rw [if_pos rfl] at H; exact H
                clear H
                have H := H1
                clear H1
                by_cases c24 : 2 ≤ (x0_1.size : Int)
                · rw [if_pos c24] at H
                  have c24b0 := eq_true c24
                  have c24b1 : decide (2 ≤ (x0_1.size : Int)) = true := decide_eq_true c24
                  clear c24
                  by_cases c25 : x4_7 = true
                  · subst c25
                    have H1 : (if (x3_1.length : Int) > 0 then (if 0 ≤ (wrap64 ((x3_1.length : Int) - 1)) then (if (wrap64 ((x3_1.length : Int) - 1)) ≤ (x3_1.length : Int) then (mantrapref16_Remove.l0 kj7 (x0_1.extract 2 x0_1.size) (x3_1.take ((wrap64 ((x3_1.length : Int) - 1)) : Int).toNat)) else (none)) else (none)) else (mantrapref16_Remove.l0 kj7 (x0_1.extract 2 x0_1.size) x3_1)) = some r := by rw [if_pos rfl] at H; exact H
                    clear H
                    have H := H1
                    clear H1
                    by_cases c26 : (x3_1.length : Int) > 0
                    · rw [if_pos c26] at H
                      have c26b0 : decide (0 < (x3_1.length : Int)) = true := decide_eq_true c26
                      have c26b1 : decide (0 < x3_1.length) = true := decide_eq_true (by omega)
                      clear c26
                      obtain ⟨ji27, hji27⟩ : ∃ j_ : Int, (wrap64 ((x3_1.length : Int) - 1)) = j_ := ⟨_, rfl⟩
                      replace H : (if 0 ≤ (ji27) then (if (ji27) ≤ (x3_1.length : Int) then (mantrapref16_Remove.l0 kj7 (x0_1.extract 2 x0_1.size) (x3_1.take ((ji27) : Int).toNat)) else (none)) else (none)) = some r := by first | (rw [hji27] at H; exact H) | (simp only [hji27] at H ⊢; exact H)
                      (try rw [hji27] at A11)
                      (try rw [hji27] at A22)
                      have hji27w : (IntKind.i64.wrap ((x3_1.length : Int) - 1)) = ji27 := (i64_w _).trans hji27
                      by_cases c28 : 0 ≤ (ji27)
                      · rw [if_pos c28] at H
                        have c28b0 := eq_true c28
                        have c28b1 : decide (0 ≤ (ji27)) = true := decide_eq_true c28
                        clear c28
                        by_cases c29 : (ji27) ≤ (x3_1.length : Int)
                        · rw [if_pos c29] at H
                          have c29b0 := eq_true c29
                          have c29b1 : decide ((ji27) ≤ (x3_1.length : Int)) = true := decide_eq_true c29
                          clear c29
                          obtain ⟨y250, hy250⟩ : ∃ y_ : List ByteArray, y_ = (x3_1.take ((ji27) : Int).toNat) := ⟨_, rfl⟩
                          replace H : (mantrapref16_Remove.l0 kj7 (x0_1.extract 2 x0_1.size) y250) = some r := by first | (rw [hy250]; with_reducible exact H) | (have H2_ := (Option.bind_some _ _).symm.trans H; rw [hy250]; with_reducible exact H2_) | (have H2_ := (Option.bind_some _ _).symm.trans H; with_reducible exact H2_) | with_reducible exact H | (rw [hy250]; exact H) | exact H
                          have Ny250 := Aside0.mk hy250
                          clear hy250
                          have H' := Aside0.mk H
                          clear H
                          go_wp2_with (first | ((with_reducible refine gate_callee (f := 79) rfl ?_); refine goesL_ (some 18) rfl rfl Tryz.func79 (by kernel_rfl) rfl #[.string x0_1, .string (⟨#[46, 46, 47]⟩ : ByteArray)] rfl (by (try simp only [List.map_toArray, List.map_cons, List.map_nil]); first | done | rfl | (simp only [List.length_drop, List.length_take]; rfl)) ?_; (with_reducible refine (mantrapref16_begins.calls x0_1 (⟨#[46, 46, 47]⟩ : ByteArray) false _ A11.out).mono ?_); rintro e w' ⟨rfl, ⟨nd, rfl⟩⟩; refine ⟨_, rfl, ?_⟩) | ((with_reducible refine gate_callee (f := 79) rfl ?_); refine goesL_ (some 22) rfl rfl Tryz.func79 (by kernel_rfl) rfl #[.string x0_1, .string (⟨#[46, 47]⟩ : ByteArray)] rfl (by (try simp only [List.map_toArray, List.map_cons, List.map_nil]); first | done | rfl | (simp only [List.length_drop, List.length_take]; rfl)) ?_; (with_reducible refine (mantrapref16_begins.calls x0_1 (⟨#[46, 47]⟩ : ByteArray) true _ A22.out).mono ?_); rintro e w' ⟨rfl, ⟨nd, rfl⟩⟩; refine ⟨_, rfl, ?_⟩; obtain ⟨Ao30, co30, eo30⟩ := Kd.R_slice HO_3.out; subst eo30; have q31 : ((ji27) : Int) ≤ ((x3_1.length : Int) : Int) := of_decide_eq_true (by first | (with_reducible assumption) | assumption); obtain ⟨i031, hi031, _, hsz31, _⟩ := info_parts info9; have hcut31 := cut_to (P := Tryz.prog) 48 9 .i64 Tryz.underlying48 hi031 Ao30 x3_1.length co30 (ji27) (of_decide_eq_true (by first | (with_reducible assumption) | assumption)) q31 (Kd.R_reads' HO_3.out).2.1; have hr31 := Kd.R_take (m := ((ji27) : Int).toNat) HO_3.out (by omega); have hy31 : y250.length = ((ji27) : Int).toNat := (by rw [Ny250.out, List.length_take]; omega); rw [← Ny250.out] at hr31; rw [← hy31] at hr31 hcut31; clear hy31 hi031 hsz31 HO_3; have HO252 := Aside0.mk hr31; clear hr31; replace q31 := eq_true q31))
                          go_roundg kj7
                          case measure => have := HK1.out; have := HJ7.out; omega
                          case rel => exact ⟨(x0_1.extract 2 x0_1.size), (y250), (by first | rfl | (simp; done) | (simp [*]; done)), H', ⟨by have := HK1.out; have := HJ7.out; omega⟩, ⟨by (with_reducible repeat (first | apply Kd.R_alloc | apply Kd.R_drewN | apply Kd.R_drew)); exact HO252.out⟩, ⟨by repeat (first | (with_reducible first | exact HB.out | apply below_alloc | apply pw_below_drewN | apply below_drew1) | exact HB.out)⟩⟩
                        · rw [if_neg c29] at H
                          exact absurd H (by simp)
                      · rw [if_neg c28] at H
                        exact absurd H (by simp)
                    · rw [if_neg c26] at H
                      have c26b0 : decide (0 < (x3_1.length : Int)) = false := decide_eq_false c26
                      have c26b1 : decide (0 < x3_1.length) = false := decide_eq_false (by omega)
                      clear c26
                      have H' := Aside0.mk H
                      clear H
                      go_wp2_with (first | ((with_reducible refine gate_callee (f := 79) rfl ?_); refine goesL_ (some 18) rfl rfl Tryz.func79 (by kernel_rfl) rfl #[.string x0_1, .string (⟨#[46, 46, 47]⟩ : ByteArray)] rfl (by (try simp only [List.map_toArray, List.map_cons, List.map_nil]); first | done | rfl | (simp only [List.length_drop, List.length_take]; rfl)) ?_; (with_reducible refine (mantrapref16_begins.calls x0_1 (⟨#[46, 46, 47]⟩ : ByteArray) false _ A11.out).mono ?_); rintro e w' ⟨rfl, ⟨nd, rfl⟩⟩; refine ⟨_, rfl, ?_⟩) | ((with_reducible refine gate_callee (f := 79) rfl ?_); refine goesL_ (some 22) rfl rfl Tryz.func79 (by kernel_rfl) rfl #[.string x0_1, .string (⟨#[46, 47]⟩ : ByteArray)] rfl (by (try simp only [List.map_toArray, List.map_cons, List.map_nil]); first | done | rfl | (simp only [List.length_drop, List.length_take]; rfl)) ?_; (with_reducible refine (mantrapref16_begins.calls x0_1 (⟨#[46, 47]⟩ : ByteArray) true _ A22.out).mono ?_); rintro e w' ⟨rfl, ⟨nd, rfl⟩⟩; refine ⟨_, rfl, ?_⟩; obtain ⟨Ao32, co32, eo32⟩ := Kd.R_slice HO_3.out; subst eo32))
                      go_roundg kj7
                      case measure => have := HK1.out; have := HJ7.out; omega
                      case rel => exact ⟨(x0_1.extract 2 x0_1.size), (x3_1), (by first | rfl | (simp; done) | (simp [*]; done)), H', ⟨by have := HK1.out; have := HJ7.out; omega⟩, ⟨by (with_reducible repeat (first | apply Kd.R_alloc | apply Kd.R_drewN | apply Kd.R_drew)); exact HO_3.out⟩, ⟨by repeat (first | (with_reducible first | exact HB.out | apply below_alloc | apply pw_below_drewN | apply below_drew1) | exact HB.out)⟩⟩
                  · replace c25 := Bool.eq_false_iff.mpr c25
                    subst c25
                    have H1 : (mantrapref16_Remove.l0 kj7 (x0_1.extract 2 x0_1.size) x3_1) = some r := by rw [if_neg (show ¬ (false = true) by decide)] at H; exact H
                    clear H
                    have H := H1
                    clear H1
                    have H' := Aside0.mk H
                    clear H
                    go_wp2_with (first | ((with_reducible refine gate_callee (f := 79) rfl ?_); refine goesL_ (some 18) rfl rfl Tryz.func79 (by kernel_rfl) rfl #[.string x0_1, .string (⟨#[46, 46, 47]⟩ : ByteArray)] rfl (by (try simp only [List.map_toArray, List.map_cons, List.map_nil]); first | done | rfl | (simp only [List.length_drop, List.length_take]; rfl)) ?_; (with_reducible refine (mantrapref16_begins.calls x0_1 (⟨#[46, 46, 47]⟩ : ByteArray) false _ A11.out).mono ?_); rintro e w' ⟨rfl, ⟨nd, rfl⟩⟩; refine ⟨_, rfl, ?_⟩) | ((with_reducible refine gate_callee (f := 79) rfl ?_); refine goesL_ (some 22) rfl rfl Tryz.func79 (by kernel_rfl) rfl #[.string x0_1, .string (⟨#[46, 47]⟩ : ByteArray)] rfl (by (try simp only [List.map_toArray, List.map_cons, List.map_nil]); first | done | rfl | (simp only [List.length_drop, List.length_take]; rfl)) ?_; (with_reducible refine (mantrapref16_begins.calls x0_1 (⟨#[46, 47]⟩ : ByteArray) true _ A22.out).mono ?_); rintro e w' ⟨rfl, ⟨nd, rfl⟩⟩; refine ⟨_, rfl, ?_⟩))
                    go_roundg kj7
                    case measure => have := HK1.out; have := HJ7.out; omega
                    case rel => exact ⟨(x0_1.extract 2 x0_1.size), (x3_1), (by first | rfl | (simp; done) | (simp [*]; done)), H', ⟨by have := HK1.out; have := HJ7.out; omega⟩, ⟨by (with_reducible repeat (first | apply Kd.R_alloc | apply Kd.R_drewN | apply Kd.R_drew)); exact HO_3.out⟩, ⟨by repeat (first | (with_reducible first | exact HB.out | apply below_alloc | apply pw_below_drewN | apply below_drew1) | exact HB.out)⟩⟩
                · rw [if_neg c24] at H
                  exact absurd H (by simp)
              · replace c23 := Bool.eq_false_iff.mpr c23
                subst c23
                have H1 : (if x0_1.toList = ([47, 46] : List UInt8) then (mantrapref16_Remove.j2 kj7 x0_1 x3_1 x4_7 true) else (mantrapref16_Remove.j2 kj7 x0_1 x3_1 x4_7 (x0_1.toList == ([47, 46, 46] : List UInt8)))) = some r := by rw [if_neg (show ¬ (false = true) by decide)] at H; exact H
                clear H
                have H := H1
                clear H1
                have HC33 := Aside0.mk H
                clear H
                go_upto_region 8 with (first | ((with_reducible refine gate_callee (f := 79) rfl ?_); refine goesL_ (some 18) rfl rfl Tryz.func79 (by kernel_rfl) rfl #[.string x0_1, .string (⟨#[46, 46, 47]⟩ : ByteArray)] rfl (by (try simp only [List.map_toArray, List.map_cons, List.map_nil]); first | done | rfl | (simp only [List.length_drop, List.length_take]; rfl)) ?_; (with_reducible refine (mantrapref16_begins.calls x0_1 (⟨#[46, 46, 47]⟩ : ByteArray) false _ A11.out).mono ?_); rintro e w' ⟨rfl, ⟨nd, rfl⟩⟩; refine ⟨_, rfl, ?_⟩) | ((with_reducible refine gate_callee (f := 79) rfl ?_); refine goesL_ (some 22) rfl rfl Tryz.func79 (by kernel_rfl) rfl #[.string x0_1, .string (⟨#[46, 47]⟩ : ByteArray)] rfl (by (try simp only [List.map_toArray, List.map_cons, List.map_nil]); first | done | rfl | (simp only [List.length_drop, List.length_take]; rfl)) ?_; (with_reducible refine (mantrapref16_begins.calls x0_1 (⟨#[46, 47]⟩ : ByteArray) false _ A22.out).mono ?_); rintro e w' ⟨rfl, ⟨nd, rfl⟩⟩; refine ⟨_, rfl, ?_⟩))
                (try simp only [Act.put, List.setIfInBounds_toArray, List.set_cons_zero, List.set_cons_succ])
                go_cut [30] (fun v30 wc => ∃ (kq : Nat) (x30_32 : Bool), v30 = .bool x30_32 ∧ Aside0 (mantrapref16_Remove.j2 kq x0_1 x3_1 x4_7 x30_32 = some r) ∧ Aside0 (kq ≤ kj7) ∧ Aside0 (Kd.R Kd.string 9 wc w.heap.size (fun _ => True) u3 x3_1) ∧ Aside0 (Below w.heap.size w wc))
                case first =>
                  have H := HC33.out
                  clear HC33
                  by_cases c34 : x0_1.toList = ([47, 46] : List UInt8)
                  · rw [if_pos c34] at H
                    have c34b0 : (x0_1.toList == ([47, 46] : List UInt8)) = true := beq_iff_eq.mpr c34
                    have c34b1 : (x0_1.toList != ([47, 46] : List UInt8)) = false := bne_eq_false_iff_eq.mpr c34
                    clear c34
                    (first | rw [c34b0] | (simp only [i64_w, i32_w]; rw [c34b0]) | skip)
                    have H' := Aside0.mk H
                    clear H
                    go_wp2
                    go_meet
                    case rel => exact ⟨_, (true), (by first | rfl | (simp; done) | (simp [*]; done)), H', ⟨by have := HK1.out; have := HJ7.out; first | omega | exact Nat.le_refl _⟩, ⟨by (with_reducible repeat (first | apply Kd.R_alloc | apply Kd.R_drewN | apply Kd.R_drew)); exact HO_3.out⟩, ⟨by repeat (first | (with_reducible first | exact HB.out | apply below_alloc | apply pw_below_drewN | apply below_drew1) | exact HB.out)⟩⟩
                  · rw [if_neg c34] at H
                    have c34b0 : (x0_1.toList == ([47, 46] : List UInt8)) = false := beq_eq_false_iff_ne.mpr c34
                    have c34b1 : (x0_1.toList != ([47, 46] : List UInt8)) = true := bne_iff_ne.mpr c34
                    (first | rw [c34b0] | (simp only [i64_w, i32_w]; rw [c34b0]) | skip)
                    have H' := Aside0.mk H
                    clear H
                    go_wp2
                    go_meet
                    case rel => exact ⟨_, ((x0_1.toList == ([47, 46, 46] : List UInt8))), (by first | rfl | (simp; done) | (simp [*]; done)), H', ⟨by have := HK1.out; have := HJ7.out; first | omega | exact Nat.le_refl _⟩, ⟨by (with_reducible repeat (first | apply Kd.R_alloc | apply Kd.R_drewN | apply Kd.R_drew)); exact HO_3.out⟩, ⟨by repeat (first | (with_reducible first | exact HB.out | apply below_alloc | apply pw_below_drewN | apply below_drew1) | exact HB.out)⟩⟩
                case rest =>
                  clear HC33
                  try clear c1
                  try clear c2
                  try clear c2b0
                  try clear c2b1
                  try clear p2
                  try clear q2
                  try clear hx2
                  try clear c3
                  try clear q3
                  try clear c4
                  try clear c4b0
                  try clear c5
                  try clear c5b0
                  try clear c6
                  try clear c6b0
                  try clear p6
                  try clear c7
                  try clear c7b0
                  try clear c7b1
                  try clear c7b2
                  try clear c10
                  try clear c12
                  try clear c13
                  try clear c13b0
                  try clear c13b1
                  try clear c14
                  try clear c15
                  try clear c15b0
                  try clear c15b1
                  try clear c17
                  try clear c17b0
                  try clear c17b1
                  try clear c18
                  try clear c18b0
                  try clear c18b1
                  try clear q20
                  try clear c23
                  try clear c24
                  try clear c24b0
                  try clear c24b1
                  try clear c25
                  try clear c26
                  try clear c26b0
                  try clear c26b1
                  try clear c27
                  try clear p27
                  try clear q27
                  try clear hx27
                  try clear c28
                  try clear c28b0
                  try clear c28b1
                  try clear c29
                  try clear c29b0
                  try clear c29b1
                  try clear q31
                  try clear c34
                  try clear c34b0
                  try clear c34b1
                  try clear hx279_0
                  try clear p2
                  try clear p279
                  try clear p6
                  try clear q2
                  try clear q20
                  try clear q279
                  try clear q31
                  obtain ⟨kq, x30_32, rfl, HA, HJ32, HO_3, HB⟩ := hcut
                  cases kq with
                  | zero => exact absurd HA.out (by simp [mantrapref16_Remove.j2])
                  | succ kj32 =>
                    have H := HA.out
                    clear HA
                    simp only [mantrapref16_Remove.j2] at H
                    by_cases c35 : x30_32 = true
                    · subst c35
                      have H1 : (if x4_7 = true then (if (x3_1.length : Int) > 0 then (if 0 ≤ (wrap64 ((x3_1.length : Int) - 1)) then (if (wrap64 ((x3_1.length : Int) - 1)) ≤ (x3_1.length : Int) then (mantrapref16_Remove.l0 kj32 (⟨#[47]⟩ : ByteArray) (x3_1.take ((wrap64 ((x3_1.length : Int) - 1)) : Int).toNat)) else (none)) else (none)) else (mantrapref16_Remove.l0 kj32 (⟨#[47]⟩ : ByteArray) x3_1)) else (mantrapref16_Remove.l0 kj32 (⟨#[47]⟩ : ByteArray) x3_1)) = some r := by rw [if_pos rfl] at H; exact H
                      clear H
                      have H := H1
                      clear H1
                      by_cases c36 : x4_7 = true
                      · subst c36
                        have H1 : (if (x3_1.length : Int) > 0 then (if 0 ≤ (wrap64 ((x3_1.length : Int) - 1)) then (if (wrap64 ((x3_1.length : Int) - 1)) ≤ (x3_1.length : Int) then (mantrapref16_Remove.l0 kj32 (⟨#[47]⟩ : ByteArray) (x3_1.take ((wrap64 ((x3_1.length : Int) - 1)) : Int).toNat)) else (none)) else (none)) else (mantrapref16_Remove.l0 kj32 (⟨#[47]⟩ : ByteArray) x3_1)) = some r := by rw [if_pos rfl] at H; exact H
                        clear H
                        have H := H1
                        clear H1
                        by_cases c37 : (x3_1.length : Int) > 0
                        · rw [if_pos c37] at H
                          have c37b0 : decide (0 < (x3_1.length : Int)) = true := decide_eq_true c37
                          have c37b1 : decide (0 < x3_1.length) = true := decide_eq_true (by omega)
                          clear c37
                          obtain ⟨ji38, hji38⟩ : ∃ j_ : Int, (wrap64 ((x3_1.length : Int) - 1)) = j_ := ⟨_, rfl⟩
                          replace H : (if 0 ≤ (ji38) then (if (ji38) ≤ (x3_1.length : Int) then (mantrapref16_Remove.l0 kj32 (⟨#[47]⟩ : ByteArray) (x3_1.take ((ji38) : Int).toNat)) else (none)) else (none)) = some r := by first | (rw [hji38] at H; exact H) | (simp only [hji38] at H ⊢; exact H)
                          have hji38w : (IntKind.i64.wrap ((x3_1.length : Int) - 1)) = ji38 := (i64_w _).trans hji38
                          by_cases c39 : 0 ≤ (ji38)
                          · rw [if_pos c39] at H
                            have c39b0 := eq_true c39
                            have c39b1 : decide (0 ≤ (ji38)) = true := decide_eq_true c39
                            clear c39
                            by_cases c40 : (ji38) ≤ (x3_1.length : Int)
                            · rw [if_pos c40] at H
                              have c40b0 := eq_true c40
                              have c40b1 : decide ((ji38) ≤ (x3_1.length : Int)) = true := decide_eq_true c40
                              clear c40
                              obtain ⟨y253, hy253⟩ : ∃ y_ : List ByteArray, y_ = (x3_1.take ((ji38) : Int).toNat) := ⟨_, rfl⟩
                              replace H : (mantrapref16_Remove.l0 kj32 (⟨#[47]⟩ : ByteArray) y253) = some r := by first | (rw [hy253]; with_reducible exact H) | (have H2_ := (Option.bind_some _ _).symm.trans H; rw [hy253]; with_reducible exact H2_) | (have H2_ := (Option.bind_some _ _).symm.trans H; with_reducible exact H2_) | with_reducible exact H | (rw [hy253]; exact H) | exact H
                              have Ny253 := Aside0.mk hy253
                              clear hy253
                              have H' := Aside0.mk H
                              clear H
                              obtain ⟨Ao41, co41, eo41⟩ := Kd.R_slice HO_3.out
                              subst eo41
                              have q42 : ((ji38) : Int) ≤ ((x3_1.length : Int) : Int) := of_decide_eq_true (by first | (with_reducible assumption) | assumption)
                              obtain ⟨i042, hi042, _, hsz42, _⟩ := info_parts info9
                              have hcut42 := cut_to (P := Tryz.prog) 48 9 .i64 Tryz.underlying48 hi042 Ao41 x3_1.length co41 (ji38) (of_decide_eq_true (by first | (with_reducible assumption) | assumption)) q42 (Kd.R_reads' HO_3.out).2.1
                              have hr42 := Kd.R_take (m := ((ji38) : Int).toNat) HO_3.out (by omega)
                              have hy42 : y253.length = ((ji38) : Int).toNat := (by rw [Ny253.out, List.length_take]; omega)
                              rw [← Ny253.out] at hr42
                              rw [← hy42] at hr42 hcut42
                              clear hy42 hi042 hsz42 HO_3
                              have HO255 := Aside0.mk hr42
                              clear hr42
                              replace q42 := eq_true q42
                              go_wp2
                              go_roundg kj32
                              case measure => have := HK1.out; have := HJ7.out; have := HJ32.out; omega
                              case rel => exact ⟨((⟨#[47]⟩ : ByteArray)), (y253), (by first | rfl | (simp; done) | (simp [*]; done)), H', ⟨by have := HK1.out; have := HJ7.out; have := HJ32.out; omega⟩, ⟨by (with_reducible repeat (first | apply Kd.R_alloc | apply Kd.R_drewN | apply Kd.R_drew)); exact HO255.out⟩, ⟨by repeat (first | (with_reducible first | exact HB.out | apply below_alloc | apply pw_below_drewN | apply below_drew1) | exact HB.out)⟩⟩
                            · rw [if_neg c40] at H
                              exact absurd H (by simp)
                          · rw [if_neg c39] at H
                            exact absurd H (by simp)
                        · rw [if_neg c37] at H
                          have c37b0 : decide (0 < (x3_1.length : Int)) = false := decide_eq_false c37
                          have c37b1 : decide (0 < x3_1.length) = false := decide_eq_false (by omega)
                          clear c37
                          have H' := Aside0.mk H
                          clear H
                          obtain ⟨Ao43, co43, eo43⟩ := Kd.R_slice HO_3.out
                          subst eo43
                          go_wp2
                          go_roundg kj32
                          case measure => have := HK1.out; have := HJ7.out; have := HJ32.out; omega
                          case rel => exact ⟨((⟨#[47]⟩ : ByteArray)), (x3_1), (by first | rfl | (simp; done) | (simp [*]; done)), H', ⟨by have := HK1.out; have := HJ7.out; have := HJ32.out; omega⟩, ⟨by (with_reducible repeat (first | apply Kd.R_alloc | apply Kd.R_drewN | apply Kd.R_drew)); exact HO_3.out⟩, ⟨by repeat (first | (with_reducible first | exact HB.out | apply below_alloc | apply pw_below_drewN | apply below_drew1) | exact HB.out)⟩⟩
                      · replace c36 := Bool.eq_false_iff.mpr c36
                        subst c36
                        have H1 : (mantrapref16_Remove.l0 kj32 (⟨#[47]⟩ : ByteArray) x3_1) = some r := by rw [if_neg (show ¬ (false = true) by decide)] at H; exact H
                        clear H
                        have H := H1
                        clear H1
                        have H' := Aside0.mk H
                        clear H
                        go_wp2
                        go_roundg kj32
                        case measure => have := HK1.out; have := HJ7.out; have := HJ32.out; omega
                        case rel => exact ⟨((⟨#[47]⟩ : ByteArray)), (x3_1), (by first | rfl | (simp; done) | (simp [*]; done)), H', ⟨by have := HK1.out; have := HJ7.out; have := HJ32.out; omega⟩, ⟨by (with_reducible repeat (first | apply Kd.R_alloc | apply Kd.R_drewN | apply Kd.R_drew)); exact HO_3.out⟩, ⟨by repeat (first | (with_reducible first | exact HB.out | apply below_alloc | apply pw_below_drewN | apply below_drew1) | exact HB.out)⟩⟩
                    · replace c35 := Bool.eq_false_iff.mpr c35
                      subst c35
                      have H1 : ((mantrapref16_begins.f x0_1 (⟨#[47, 46, 47]⟩ : ByteArray)).bind fun t256 => (if t256 = true then (if 2 ≤ (x0_1.size : Int) then (if x4_7 = true then (if (x3_1.length : Int) > 0 then (if 0 ≤ (wrap64 ((x3_1.length : Int) - 1)) then (if (wrap64 ((x3_1.length : Int) - 1)) ≤ (x3_1.length : Int) then (mantrapref16_Remove.l0 kj32 (x0_1.extract 2 x0_1.size) (x3_1.take ((wrap64 ((x3_1.length : Int) - 1)) : Int).toNat)) else (none)) else (none)) else (mantrapref16_Remove.l0 kj32 (x0_1.extract 2 x0_1.size) x3_1)) else (mantrapref16_Remove.l0 kj32 (x0_1.extract 2 x0_1.size) x3_1)) else (none)) else ((mantrapref16_begins.f x0_1 (⟨#[47, 46, 46, 47]⟩ : ByteArray)).bind fun t260 => (if t260 = true then (if 3 ≤ (x0_1.size : Int) then (if x4_7 = true then (if (x3_1.length : Int) > 0 then (if 0 ≤ (wrap64 ((x3_1.length : Int) - 1)) then (if (wrap64 ((x3_1.length : Int) - 1)) ≤ (x3_1.length : Int) then (mantrapref16_Remove.l0 kj32 (x0_1.extract 3 x0_1.size) (x3_1.take ((wrap64 ((x3_1.length : Int) - 1)) : Int).toNat)) else (none)) else (none)) else (mantrapref16_Remove.l0 kj32 (x0_1.extract 3 x0_1.size) x3_1)) else (mantrapref16_Remove.l0 kj32 (x0_1.extract 3 x0_1.size) x3_1)) else (none)) else (if x0_1.toList = ([46] : List UInt8) then (mantrapref16_Remove.j3 kj32 x0_1 x3_1 x4_7 true) else (mantrapref16_Remove.j3 kj32 x0_1 x3_1 x4_7 (x0_1.toList == ([46, 46] : List UInt8)))))))) = some r := by rw [if_neg (show ¬ (false = true) by decide)] at H; exact H
                      clear H
                      have H := H1
                      clear H1
                      replace H := Option.bind_eq_some_iff.mp H
                      obtain ⟨t256, A440, H⟩ := H
                      replace H : (if t256 = true then (if 2 ≤ (x0_1.size : Int) then (if x4_7 = true then (if (x3_1.length : Int) > 0 then (if 0 ≤ (wrap64 ((x3_1.length : Int) - 1)) then (if (wrap64 ((x3_1.length : Int) - 1)) ≤ (x3_1.length : Int) then (mantrapref16_Remove.l0 kj32 (x0_1.extract 2 x0_1.size) (x3_1.take ((wrap64 ((x3_1.length : Int) - 1)) : Int).toNat)) else (none)) else (none)) else (mantrapref16_Remove.l0 kj32 (x0_1.extract 2 x0_1.size) x3_1)) else (mantrapref16_Remove.l0 kj32 (x0_1.extract 2 x0_1.size) x3_1)) else (none)) else ((mantrapref16_begins.f x0_1 (⟨#[47, 46, 46, 47]⟩ : ByteArray)).bind fun t260 => (if t260 = true then (if 3 ≤ (x0_1.size : Int) then (if x4_7 = true then (if (x3_1.length : Int) > 0 then (if 0 ≤ (wrap64 ((x3_1.length : Int) - 1)) then (if (wrap64 ((x3_1.length : Int) - 1)) ≤ (x3_1.length : Int) then (mantrapref16_Remove.l0 kj32 (x0_1.extract 3 x0_1.size) (x3_1.take ((wrap64 ((x3_1.length : Int) - 1)) : Int).toNat)) else (none)) else (none)) else (mantrapref16_Remove.l0 kj32 (x0_1.extract 3 x0_1.size) x3_1)) else (mantrapref16_Remove.l0 kj32 (x0_1.extract 3 x0_1.size) x3_1)) else (none)) else (if x0_1.toList = ([46] : List UInt8) then (mantrapref16_Remove.j3 kj32 x0_1 x3_1 x4_7 true) else (mantrapref16_Remove.j3 kj32 x0_1 x3_1 x4_7 (x0_1.toList == ([46, 46] : List UInt8))))))) = some r := H
                      have A44 := Aside0.mk A440
                      clear A440
                      by_cases c45 : t256 = true
                      · subst c45
                        have H1 : (if 2 ≤ (x0_1.size : Int) then (if x4_7 = true then (if (x3_1.length : Int) > 0 then (if 0 ≤ (wrap64 ((x3_1.length : Int) - 1)) then (if (wrap64 ((x3_1.length : Int) - 1)) ≤ (x3_1.length : Int) then (mantrapref16_Remove.l0 kj32 (x0_1.extract 2 x0_1.size) (x3_1.take ((wrap64 ((x3_1.length : Int) - 1)) : Int).toNat)) else (none)) else (none)) else (mantrapref16_Remove.l0 kj32 (x0_1.extract 2 x0_1.size) x3_1)) else (mantrapref16_Remove.l0 kj32 (x0_1.extract 2 x0_1.size) x3_1)) else (none)) = some r := by rw [if_pos rfl] at H; exact H
                        clear H
                        have H := H1
                        clear H1
                        by_cases c46 : 2 ≤ (x0_1.size : Int)
                        · rw [if_pos c46] at H
                          have c46b0 := eq_true c46
                          have c46b1 : decide (2 ≤ (x0_1.size : Int)) = true := decide_eq_true c46
                          clear c46
                          by_cases c47 : x4_7 = true
                          · subst c47
                            have H1 : (if (x3_1.length : Int) > 0 then (if 0 ≤ (wrap64 ((x3_1.length : Int) - 1)) then (if (wrap64 ((x3_1.length : Int) - 1)) ≤ (x3_1.length : Int) then (mantrapref16_Remove.l0 kj32 (x0_1.extract 2 x0_1.size) (x3_1.take ((wrap64 ((x3_1.length : Int) - 1)) : Int).toNat)) else (none)) else (none)) else (mantrapref16_Remove.l0 kj32 (x0_1.extract 2 x0_1.size) x3_1)) = some r := by rw [if_pos rfl] at H; exact H
                            clear H
                            have H := H1
                            clear H1
                            by_cases c48 : (x3_1.length : Int) > 0
                            · rw [if_pos c48] at H
                              have c48b0 : decide (0 < (x3_1.length : Int)) = true := decide_eq_true c48
                              have c48b1 : decide (0 < x3_1.length) = true := decide_eq_true (by omega)
                              clear c48
                              obtain ⟨ji49, hji49⟩ : ∃ j_ : Int, (wrap64 ((x3_1.length : Int) - 1)) = j_ := ⟨_, rfl⟩
                              replace H : (if 0 ≤ (ji49) then (if (ji49) ≤ (x3_1.length : Int) then (mantrapref16_Remove.l0 kj32 (x0_1.extract 2 x0_1.size) (x3_1.take ((ji49) : Int).toNat)) else (none)) else (none)) = some r := by first | (rw [hji49] at H; exact H) | (simp only [hji49] at H ⊢; exact H)
                              (try rw [hji49] at A44)
                              have hji49w : (IntKind.i64.wrap ((x3_1.length : Int) - 1)) = ji49 := (i64_w _).trans hji49
                              by_cases c50 : 0 ≤ (ji49)
                              · rw [if_pos c50] at H
                                have c50b0 := eq_true c50
                                have c50b1 : decide (0 ≤ (ji49)) = true := decide_eq_true c50
                                clear c50
                                by_cases c51 : (ji49) ≤ (x3_1.length : Int)
                                · rw [if_pos c51] at H
                                  have c51b0 := eq_true c51
                                  have c51b1 : decide ((ji49) ≤ (x3_1.length : Int)) = true := decide_eq_true c51
                                  clear c51
                                  obtain ⟨y257, hy257⟩ : ∃ y_ : List ByteArray, y_ = (x3_1.take ((ji49) : Int).toNat) := ⟨_, rfl⟩
                                  replace H : (mantrapref16_Remove.l0 kj32 (x0_1.extract 2 x0_1.size) y257) = some r := by first | (rw [hy257]; with_reducible exact H) | (have H2_ := (Option.bind_some _ _).symm.trans H; rw [hy257]; with_reducible exact H2_) | (have H2_ := (Option.bind_some _ _).symm.trans H; with_reducible exact H2_) | with_reducible exact H | (rw [hy257]; exact H) | exact H
                                  have Ny257 := Aside0.mk hy257
                                  clear hy257
                                  have H' := Aside0.mk H
                                  clear H
                                  go_wp2_with (first | ((with_reducible refine gate_callee (f := 79) rfl ?_); refine goesL_ (some 32) rfl rfl Tryz.func79 (by kernel_rfl) rfl #[.string x0_1, .string (⟨#[47, 46, 47]⟩ : ByteArray)] rfl (by (try simp only [List.map_toArray, List.map_cons, List.map_nil]); first | done | rfl | (simp only [List.length_drop, List.length_take]; rfl)) ?_; (with_reducible refine (mantrapref16_begins.calls x0_1 (⟨#[47, 46, 47]⟩ : ByteArray) true _ A44.out).mono ?_); rintro e w' ⟨rfl, ⟨nd, rfl⟩⟩; refine ⟨_, rfl, ?_⟩; obtain ⟨Ao52, co52, eo52⟩ := Kd.R_slice HO_3.out; subst eo52; have q53 : ((ji49) : Int) ≤ ((x3_1.length : Int) : Int) := of_decide_eq_true (by first | (with_reducible assumption) | assumption); obtain ⟨i053, hi053, _, hsz53, _⟩ := info_parts info9; have hcut53 := cut_to (P := Tryz.prog) 48 9 .i64 Tryz.underlying48 hi053 Ao52 x3_1.length co52 (ji49) (of_decide_eq_true (by first | (with_reducible assumption) | assumption)) q53 (Kd.R_reads' HO_3.out).2.1; have hr53 := Kd.R_take (m := ((ji49) : Int).toNat) HO_3.out (by omega); have hy53 : y257.length = ((ji49) : Int).toNat := (by rw [Ny257.out, List.length_take]; omega); rw [← Ny257.out] at hr53; rw [← hy53] at hr53 hcut53; clear hy53 hi053 hsz53 HO_3; have HO259 := Aside0.mk hr53; clear hr53; replace q53 := eq_true q53))
                                  go_roundg kj32
                                  case measure => have := HK1.out; have := HJ7.out; have := HJ32.out; omega
                                  case rel => exact ⟨(x0_1.extract 2 x0_1.size), (y257), (by first | rfl | (simp; done) | (simp [*]; done)), H', ⟨by have := HK1.out; have := HJ7.out; have := HJ32.out; omega⟩, ⟨by (with_reducible repeat (first | apply Kd.R_alloc | apply Kd.R_drewN | apply Kd.R_drew)); exact HO259.out⟩, ⟨by repeat (first | (with_reducible first | exact HB.out | apply below_alloc | apply pw_below_drewN | apply below_drew1) | exact HB.out)⟩⟩
                                · rw [if_neg c51] at H
                                  exact absurd H (by simp)
                              · rw [if_neg c50] at H
                                exact absurd H (by simp)
                            · rw [if_neg c48] at H
                              have c48b0 : decide (0 < (x3_1.length : Int)) = false := decide_eq_false c48
                              have c48b1 : decide (0 < x3_1.length) = false := decide_eq_false (by omega)
                              clear c48
                              have H' := Aside0.mk H
                              clear H
                              go_wp2_with (first | ((with_reducible refine gate_callee (f := 79) rfl ?_); refine goesL_ (some 32) rfl rfl Tryz.func79 (by kernel_rfl) rfl #[.string x0_1, .string (⟨#[47, 46, 47]⟩ : ByteArray)] rfl (by (try simp only [List.map_toArray, List.map_cons, List.map_nil]); first | done | rfl | (simp only [List.length_drop, List.length_take]; rfl)) ?_; (with_reducible refine (mantrapref16_begins.calls x0_1 (⟨#[47, 46, 47]⟩ : ByteArray) true _ A44.out).mono ?_); rintro e w' ⟨rfl, ⟨nd, rfl⟩⟩; refine ⟨_, rfl, ?_⟩; obtain ⟨Ao54, co54, eo54⟩ := Kd.R_slice HO_3.out; subst eo54))
                              go_roundg kj32
                              case measure => have := HK1.out; have := HJ7.out; have := HJ32.out; omega
                              case rel => exact ⟨(x0_1.extract 2 x0_1.size), (x3_1), (by first | rfl | (simp; done) | (simp [*]; done)), H', ⟨by have := HK1.out; have := HJ7.out; have := HJ32.out; omega⟩, ⟨by (with_reducible repeat (first | apply Kd.R_alloc | apply Kd.R_drewN | apply Kd.R_drew)); exact HO_3.out⟩, ⟨by repeat (first | (with_reducible first | exact HB.out | apply below_alloc | apply pw_below_drewN | apply below_drew1) | exact HB.out)⟩⟩
                          · replace c47 := Bool.eq_false_iff.mpr c47
                            subst c47
                            have H1 : (mantrapref16_Remove.l0 kj32 (x0_1.extract 2 x0_1.size) x3_1) = some r := by rw [if_neg (show ¬ (false = true) by decide)] at H; exact H
                            clear H
                            have H := H1
                            clear H1
                            have H' := Aside0.mk H
                            clear H
                            go_wp2_with (first | ((with_reducible refine gate_callee (f := 79) rfl ?_); refine goesL_ (some 32) rfl rfl Tryz.func79 (by kernel_rfl) rfl #[.string x0_1, .string (⟨#[47, 46, 47]⟩ : ByteArray)] rfl (by (try simp only [List.map_toArray, List.map_cons, List.map_nil]); first | done | rfl | (simp only [List.length_drop, List.length_take]; rfl)) ?_; (with_reducible refine (mantrapref16_begins.calls x0_1 (⟨#[47, 46, 47]⟩ : ByteArray) true _ A44.out).mono ?_); rintro e w' ⟨rfl, ⟨nd, rfl⟩⟩; refine ⟨_, rfl, ?_⟩))
                            go_roundg kj32
                            case measure => have := HK1.out; have := HJ7.out; have := HJ32.out; omega
                            case rel => exact ⟨(x0_1.extract 2 x0_1.size), (x3_1), (by first | rfl | (simp; done) | (simp [*]; done)), H', ⟨by have := HK1.out; have := HJ7.out; have := HJ32.out; omega⟩, ⟨by (with_reducible repeat (first | apply Kd.R_alloc | apply Kd.R_drewN | apply Kd.R_drew)); exact HO_3.out⟩, ⟨by repeat (first | (with_reducible first | exact HB.out | apply below_alloc | apply pw_below_drewN | apply below_drew1) | exact HB.out)⟩⟩
                        · rw [if_neg c46] at H
                          exact absurd H (by simp)
                      · replace c45 := Bool.eq_false_iff.mpr c45
                        subst c45
                        have H1 : ((mantrapref16_begins.f x0_1 (⟨#[47, 46, 46, 47]⟩ : ByteArray)).bind fun t260 => (if t260 = true then (if 3 ≤ (x0_1.size : Int) then (if x4_7 = true then (if (x3_1.length : Int) > 0 then (if 0 ≤ (wrap64 ((x3_1.length : Int) - 1)) then (if (wrap64 ((x3_1.length : Int) - 1)) ≤ (x3_1.length : Int) then (mantrapref16_Remove.l0 kj32 (x0_1.extract 3 x0_1.size) (x3_1.take ((wrap64 ((x3_1.length : Int) - 1)) : Int).toNat)) else (none)) else (none)) else (mantrapref16_Remove.l0 kj32 (x0_1.extract 3 x0_1.size) x3_1)) else (mantrapref16_Remove.l0 kj32 (x0_1.extract 3 x0_1.size) x3_1)) else (none)) else (if x0_1.toList = ([46] : List UInt8) then (mantrapref16_Remove.j3 kj32 x0_1 x3_1 x4_7 true) else (mantrapref16_Remove.j3 kj32 x0_1 x3_1 x4_7 (x0_1.toList == ([46, 46] : List UInt8)))))) = some r := by rw [if_neg (show ¬ (false = true) by decide)] at H; exact H
                        clear H
                        have H := H1
                        clear H1
                        replace H := Option.bind_eq_some_iff.mp H
                        obtain ⟨t260, A550, H⟩ := H
                        replace H : (if t260 = true then (if 3 ≤ (x0_1.size : Int) then (if x4_7 = true then (if (x3_1.length : Int) > 0 then (if 0 ≤ (wrap64 ((x3_1.length : Int) - 1)) then (if (wrap64 ((x3_1.length : Int) - 1)) ≤ (x3_1.length : Int) then (mantrapref16_Remove.l0 kj32 (x0_1.extract 3 x0_1.size) (x3_1.take ((wrap64 ((x3_1.length : Int) - 1)) : Int).toNat)) else (none)) else (none)) else (mantrapref16_Remove.l0 kj32 (x0_1.extract 3 x0_1.size) x3_1)) else (mantrapref16_Remove.l0 kj32 (x0_1.extract 3 x0_1.size) x3_1)) else (none)) else (if x0_1.toList = ([46] : List UInt8) then (mantrapref16_Remove.j3 kj32 x0_1 x3_1 x4_7 true) else (mantrapref16_Remove.j3 kj32 x0_1 x3_1 x4_7 (x0_1.toList == ([46, 46] : List UInt8))))) = some r := H
                        have A55 := Aside0.mk A550
                        clear A550
                        by_cases c56 : t260 = true
                        · subst c56
                          have H1 : (if 3 ≤ (x0_1.size : Int) then (if x4_7 = true then (if (x3_1.length : Int) > 0 then (if 0 ≤ (wrap64 ((x3_1.length : Int) - 1)) then (if (wrap64 ((x3_1.length : Int) - 1)) ≤ (x3_1.length : Int) then (mantrapref16_Remove.l0 kj32 (x0_1.extract 3 x0_1.size) (x3_1.take ((wrap64 ((x3_1.length : Int) - 1)) : Int).toNat)) else (none)) else (none)) else (mantrapref16_Remove.l0 kj32 (x0_1.extract 3 x0_1.size) x3_1)) else (mantrapref16_Remove.l0 kj32 (x0_1.extract 3 x0_1.size) x3_1)) else (none)) = some r := by rw [if_pos rfl] at H; exact H
                          clear H
                          have H := H1
                          clear H1
                          by_cases c57 : 3 ≤ (x0_1.size : Int)
                          · rw [if_pos c57] at H
                            have c57b0 := eq_true c57
                            have c57b1 : decide (3 ≤ (x0_1.size : Int)) = true := decide_eq_true c57
                            clear c57
                            by_cases c58 : x4_7 = true
                            · subst c58
                              have H1 : (if (x3_1.length : Int) > 0 then (if 0 ≤ (wrap64 ((x3_1.length : Int) - 1)) then (if (wrap64 ((x3_1.length : Int) - 1)) ≤ (x3_1.length : Int) then (mantrapref16_Remove.l0 kj32 (x0_1.extract 3 x0_1.size) (x3_1.take ((wrap64 ((x3_1.length : Int) - 1)) : Int).toNat)) else (none)) else (none)) else (mantrapref16_Remove.l0 kj32 (x0_1.extract 3 x0_1.size) x3_1)) = some r := by rw [if_pos rfl] at H; exact H
                              clear H
                              have H := H1
                              clear H1
                              by_cases c59 : (x3_1.length : Int) > 0
                              · rw [if_pos c59] at H
                                have c59b0 : decide (0 < (x3_1.length : Int)) = true := decide_eq_true c59
                                have c59b1 : decide (0 < x3_1.length) = true := decide_eq_true (by omega)
                                clear c59
                                obtain ⟨ji60, hji60⟩ : ∃ j_ : Int, (wrap64 ((x3_1.length : Int) - 1)) = j_ := ⟨_, rfl⟩
                                replace H : (if 0 ≤ (ji60) then (if (ji60) ≤ (x3_1.length : Int) then (mantrapref16_Remove.l0 kj32 (x0_1.extract 3 x0_1.size) (x3_1.take ((ji60) : Int).toNat)) else (none)) else (none)) = some r := by first | (rw [hji60] at H; exact H) | (simp only [hji60] at H ⊢; exact H)
                                (try rw [hji60] at A44)
                                (try rw [hji60] at A55)
                                have hji60w : (IntKind.i64.wrap ((x3_1.length : Int) - 1)) = ji60 := (i64_w _).trans hji60
                                by_cases c61 : 0 ≤ (ji60)
                                · rw [if_pos c61] at H
                                  have c61b0 := eq_true c61
                                  have c61b1 : decide (0 ≤ (ji60)) = true := decide_eq_true c61
                                  clear c61
                                  by_cases c62 : (ji60) ≤ (x3_1.length : Int)
                                  · rw [if_pos c62] at H
                                    have c62b0 := eq_true c62
                                    have c62b1 : decide ((ji60) ≤ (x3_1.length : Int)) = true := decide_eq_true c62
                                    clear c62
                                    obtain ⟨y261, hy261⟩ : ∃ y_ : List ByteArray, y_ = (x3_1.take ((ji60) : Int).toNat) := ⟨_, rfl⟩
                                    replace H : (mantrapref16_Remove.l0 kj32 (x0_1.extract 3 x0_1.size) y261) = some r := by first | (rw [hy261]; with_reducible exact H) | (have H2_ := (Option.bind_some _ _).symm.trans H; rw [hy261]; with_reducible exact H2_) | (have H2_ := (Option.bind_some _ _).symm.trans H; with_reducible exact H2_) | with_reducible exact H | (rw [hy261]; exact H) | exact H
                                    have Ny261 := Aside0.mk hy261
                                    clear hy261
                                    have H' := Aside0.mk H
                                    clear H
                                    go_wp2_with (first | ((with_reducible refine gate_callee (f := 79) rfl ?_); refine goesL_ (some 32) rfl rfl Tryz.func79 (by kernel_rfl) rfl #[.string x0_1, .string (⟨#[47, 46, 47]⟩ : ByteArray)] rfl (by (try simp only [List.map_toArray, List.map_cons, List.map_nil]); first | done | rfl | (simp only [List.length_drop, List.length_take]; rfl)) ?_; (with_reducible refine (mantrapref16_begins.calls x0_1 (⟨#[47, 46, 47]⟩ : ByteArray) false _ A44.out).mono ?_); rintro e w' ⟨rfl, ⟨nd, rfl⟩⟩; refine ⟨_, rfl, ?_⟩) | ((with_reducible refine gate_callee (f := 79) rfl ?_); refine goesL_ (some 36) rfl rfl Tryz.func79 (by kernel_rfl) rfl #[.string x0_1, .string (⟨#[47, 46, 46, 47]⟩ : ByteArray)] rfl (by (try simp only [List.map_toArray, List.map_cons, List.map_nil]); first | done | rfl | (simp only [List.length_drop, List.length_take]; rfl)) ?_; (with_reducible refine (mantrapref16_begins.calls x0_1 (⟨#[47, 46, 46, 47]⟩ : ByteArray) true _ A55.out).mono ?_); rintro e w' ⟨rfl, ⟨nd, rfl⟩⟩; refine ⟨_, rfl, ?_⟩; obtain ⟨Ao63, co63, eo63⟩ := Kd.R_slice HO_3.out; subst eo63; have q64 : ((ji60) : Int) ≤ ((x3_1.length : Int) : Int) := of_decide_eq_true (by first | (with_reducible assumption) | assumption); obtain ⟨i064, hi064, _, hsz64, _⟩ := info_parts info9; have hcut64 := cut_to (P := Tryz.prog) 48 9 .i64 Tryz.underlying48 hi064 Ao63 x3_1.length co63 (ji60) (of_decide_eq_true (by first | (with_reducible assumption) | assumption)) q64 (Kd.R_reads' HO_3.out).2.1; have hr64 := Kd.R_take (m := ((ji60) : Int).toNat) HO_3.out (by omega); have hy64 : y261.length = ((ji60) : Int).toNat := (by rw [Ny261.out, List.length_take]; omega); rw [← Ny261.out] at hr64; rw [← hy64] at hr64 hcut64; clear hy64 hi064 hsz64 HO_3; have HO263 := Aside0.mk hr64; clear hr64; replace q64 := eq_true q64))
                                    go_roundg kj32
                                    case measure => have := HK1.out; have := HJ7.out; have := HJ32.out; omega
                                    case rel => exact ⟨(x0_1.extract 3 x0_1.size), (y261), (by first | rfl | (simp; done) | (simp [*]; done)), H', ⟨by have := HK1.out; have := HJ7.out; have := HJ32.out; omega⟩, ⟨by (with_reducible repeat (first | apply Kd.R_alloc | apply Kd.R_drewN | apply Kd.R_drew)); exact HO263.out⟩, ⟨by repeat (first | (with_reducible first | exact HB.out | apply below_alloc | apply pw_below_drewN | apply below_drew1) | exact HB.out)⟩⟩
                                  · rw [if_neg c62] at H
                                    exact absurd H (by simp)
                                · rw [if_neg c61] at H
                                  exact absurd H (by simp)
                              · rw [if_neg c59] at H
                                have c59b0 : decide (0 < (x3_1.length : Int)) = false := decide_eq_false c59
                                have c59b1 : decide (0 < x3_1.length) = false := decide_eq_false (by omega)
                                clear c59
                                have H' := Aside0.mk H
                                clear H
                                go_wp2_with (first | ((with_reducible refine gate_callee (f := 79) rfl ?_); refine goesL_ (some 32) rfl rfl Tryz.func79 (by kernel_rfl) rfl #[.string x0_1, .string (⟨#[47, 46, 47]⟩ : ByteArray)] rfl (by (try simp only [List.map_toArray, List.map_cons, List.map_nil]); first | done | rfl | (simp only [List.length_drop, List.length_take]; rfl)) ?_; (with_reducible refine (mantrapref16_begins.calls x0_1 (⟨#[47, 46, 47]⟩ : ByteArray) false _ A44.out).mono ?_); rintro e w' ⟨rfl, ⟨nd, rfl⟩⟩; refine ⟨_, rfl, ?_⟩) | ((with_reducible refine gate_callee (f := 79) rfl ?_); refine goesL_ (some 36) rfl rfl Tryz.func79 (by kernel_rfl) rfl #[.string x0_1, .string (⟨#[47, 46, 46, 47]⟩ : ByteArray)] rfl (by (try simp only [List.map_toArray, List.map_cons, List.map_nil]); first | done | rfl | (simp only [List.length_drop, List.length_take]; rfl)) ?_; (with_reducible refine (mantrapref16_begins.calls x0_1 (⟨#[47, 46, 46, 47]⟩ : ByteArray) true _ A55.out).mono ?_); rintro e w' ⟨rfl, ⟨nd, rfl⟩⟩; refine ⟨_, rfl, ?_⟩; obtain ⟨Ao65, co65, eo65⟩ := Kd.R_slice HO_3.out; subst eo65))
                                go_roundg kj32
                                case measure => have := HK1.out; have := HJ7.out; have := HJ32.out; omega
                                case rel => exact ⟨(x0_1.extract 3 x0_1.size), (x3_1), (by first | rfl | (simp; done) | (simp [*]; done)), H', ⟨by have := HK1.out; have := HJ7.out; have := HJ32.out; omega⟩, ⟨by (with_reducible repeat (first | apply Kd.R_alloc | apply Kd.R_drewN | apply Kd.R_drew)); exact HO_3.out⟩, ⟨by repeat (first | (with_reducible first | exact HB.out | apply below_alloc | apply pw_below_drewN | apply below_drew1) | exact HB.out)⟩⟩
                            · replace c58 := Bool.eq_false_iff.mpr c58
                              subst c58
                              have H1 : (mantrapref16_Remove.l0 kj32 (x0_1.extract 3 x0_1.size) x3_1) = some r := by rw [if_neg (show ¬ (false = true) by decide)] at H; exact H
                              clear H
                              have H := H1
                              clear H1
                              have H' := Aside0.mk H
                              clear H
                              go_wp2_with (first | ((with_reducible refine gate_callee (f := 79) rfl ?_); refine goesL_ (some 32) rfl rfl Tryz.func79 (by kernel_rfl) rfl #[.string x0_1, .string (⟨#[47, 46, 47]⟩ : ByteArray)] rfl (by (try simp only [List.map_toArray, List.map_cons, List.map_nil]); first | done | rfl | (simp only [List.length_drop, List.length_take]; rfl)) ?_; (with_reducible refine (mantrapref16_begins.calls x0_1 (⟨#[47, 46, 47]⟩ : ByteArray) false _ A44.out).mono ?_); rintro e w' ⟨rfl, ⟨nd, rfl⟩⟩; refine ⟨_, rfl, ?_⟩) | ((with_reducible refine gate_callee (f := 79) rfl ?_); refine goesL_ (some 36) rfl rfl Tryz.func79 (by kernel_rfl) rfl #[.string x0_1, .string (⟨#[47, 46, 46, 47]⟩ : ByteArray)] rfl (by (try simp only [List.map_toArray, List.map_cons, List.map_nil]); first | done | rfl | (simp only [List.length_drop, List.length_take]; rfl)) ?_; (with_reducible refine (mantrapref16_begins.calls x0_1 (⟨#[47, 46, 46, 47]⟩ : ByteArray) true _ A55.out).mono ?_); rintro e w' ⟨rfl, ⟨nd, rfl⟩⟩; refine ⟨_, rfl, ?_⟩))
                              go_roundg kj32
                              case measure => have := HK1.out; have := HJ7.out; have := HJ32.out; omega
                              case rel => exact ⟨(x0_1.extract 3 x0_1.size), (x3_1), (by first | rfl | (simp; done) | (simp [*]; done)), H', ⟨by have := HK1.out; have := HJ7.out; have := HJ32.out; omega⟩, ⟨by (with_reducible repeat (first | apply Kd.R_alloc | apply Kd.R_drewN | apply Kd.R_drew)); exact HO_3.out⟩, ⟨by repeat (first | (with_reducible first | exact HB.out | apply below_alloc | apply pw_below_drewN | apply below_drew1) | exact HB.out)⟩⟩
                          · rw [if_neg c57] at H
                            exact absurd H (by simp)
                        · replace c56 := Bool.eq_false_iff.mpr c56
                          subst c56
                          have H1 : (if x0_1.toList = ([46] : List UInt8) then (mantrapref16_Remove.j3 kj32 x0_1 x3_1 x4_7 true) else (mantrapref16_Remove.j3 kj32 x0_1 x3_1 x4_7 (x0_1.toList == ([46, 46] : List UInt8)))) = some r := by rw [if_neg (show ¬ (false = true) by decide)] at H; exact H
                          clear H
                          have H := H1
                          clear H1
                          have HC66 := Aside0.mk H
                          clear H
                          go_upto_region 14 with (first | ((with_reducible refine gate_callee (f := 79) rfl ?_); refine goesL_ (some 32) rfl rfl Tryz.func79 (by kernel_rfl) rfl #[.string x0_1, .string (⟨#[47, 46, 47]⟩ : ByteArray)] rfl (by (try simp only [List.map_toArray, List.map_cons, List.map_nil]); first | done | rfl | (simp only [List.length_drop, List.length_take]; rfl)) ?_; (with_reducible refine (mantrapref16_begins.calls x0_1 (⟨#[47, 46, 47]⟩ : ByteArray) false _ A44.out).mono ?_); rintro e w' ⟨rfl, ⟨nd, rfl⟩⟩; refine ⟨_, rfl, ?_⟩) | ((with_reducible refine gate_callee (f := 79) rfl ?_); refine goesL_ (some 36) rfl rfl Tryz.func79 (by kernel_rfl) rfl #[.string x0_1, .string (⟨#[47, 46, 46, 47]⟩ : ByteArray)] rfl (by (try simp only [List.map_toArray, List.map_cons, List.map_nil]); first | done | rfl | (simp only [List.length_drop, List.length_take]; rfl)) ?_; (with_reducible refine (mantrapref16_begins.calls x0_1 (⟨#[47, 46, 46, 47]⟩ : ByteArray) false _ A55.out).mono ?_); rintro e w' ⟨rfl, ⟨nd, rfl⟩⟩; refine ⟨_, rfl, ?_⟩))
                          (try simp only [Act.put, List.setIfInBounds_toArray, List.set_cons_zero, List.set_cons_succ])
                          go_cut [44] (fun v44 wc => ∃ (kq : Nat) (x44_65 : Bool), v44 = .bool x44_65 ∧ Aside0 (mantrapref16_Remove.j3 kq x0_1 x3_1 x4_7 x44_65 = some r) ∧ Aside0 (kq ≤ kj32) ∧ Aside0 (Kd.R Kd.string 9 wc w.heap.size (fun _ => True) u3 x3_1) ∧ Aside0 (Below w.heap.size w wc))
                          case first =>
                            have H := HC66.out
                            clear HC66
                            by_cases c67 : x0_1.toList = ([46] : List UInt8)
                            · rw [if_pos c67] at H
                              have c67b0 : (x0_1.toList == ([46] : List UInt8)) = true := beq_iff_eq.mpr c67
                              have c67b1 : (x0_1.toList != ([46] : List UInt8)) = false := bne_eq_false_iff_eq.mpr c67
                              clear c67
                              (first | rw [c67b0] | (simp only [i64_w, i32_w]; rw [c67b0]) | skip)
                              have H' := Aside0.mk H
                              clear H
                              go_wp2
                              go_meet
                              case rel => exact ⟨_, (true), (by first | rfl | (simp; done) | (simp [*]; done)), H', ⟨by have := HK1.out; have := HJ7.out; have := HJ32.out; first | omega | exact Nat.le_refl _⟩, ⟨by (with_reducible repeat (first | apply Kd.R_alloc | apply Kd.R_drewN | apply Kd.R_drew)); exact HO_3.out⟩, ⟨by repeat (first | (with_reducible first | exact HB.out | apply below_alloc | apply pw_below_drewN | apply below_drew1) | exact HB.out)⟩⟩
                            · rw [if_neg c67] at H
                              have c67b0 : (x0_1.toList == ([46] : List UInt8)) = false := beq_eq_false_iff_ne.mpr c67
                              have c67b1 : (x0_1.toList != ([46] : List UInt8)) = true := bne_iff_ne.mpr c67
                              (first | rw [c67b0] | (simp only [i64_w, i32_w]; rw [c67b0]) | skip)
                              have H' := Aside0.mk H
                              clear H
                              go_wp2
                              go_meet
                              case rel => exact ⟨_, ((x0_1.toList == ([46, 46] : List UInt8))), (by first | rfl | (simp; done) | (simp [*]; done)), H', ⟨by have := HK1.out; have := HJ7.out; have := HJ32.out; first | omega | exact Nat.le_refl _⟩, ⟨by (with_reducible repeat (first | apply Kd.R_alloc | apply Kd.R_drewN | apply Kd.R_drew)); exact HO_3.out⟩, ⟨by repeat (first | (with_reducible first | exact HB.out | apply below_alloc | apply pw_below_drewN | apply below_drew1) | exact HB.out)⟩⟩
                          case rest =>
                            clear HC66
                            try clear c1
                            try clear c2
                            try clear c2b0
                            try clear c2b1
                            try clear p2
                            try clear q2
                            try clear hx2
                            try clear c3
                            try clear q3
                            try clear c4
                            try clear c4b0
                            try clear q4
                            try clear c5
                            try clear c5b0
                            try clear q5
                            try clear c6
                            try clear c6b0
                            try clear p6
                            try clear q6
                            try clear c7
                            try clear c7b0
                            try clear c7b1
                            try clear c7b2
                            try clear c10
                            try clear c12
                            try clear c13
                            try clear c13b0
                            try clear c13b1
                            try clear c14
                            try clear c15
                            try clear c15b0
                            try clear c15b1
                            try clear c17
                            try clear c17b0
                            try clear c17b1
                            try clear c18
                            try clear c18b0
                            try clear c18b1
                            try clear q20
                            try clear c23
                            try clear c24
                            try clear c24b0
                            try clear c24b1
                            try clear c25
                            try clear c26
                            try clear c26b0
                            try clear c26b1
                            try clear c27
                            try clear p27
                            try clear q27
                            try clear hx27
                            try clear c28
                            try clear c28b0
                            try clear c28b1
                            try clear c29
                            try clear c29b0
                            try clear c29b1
                            try clear q31
                            try clear c34
                            try clear c34b0
                            try clear c34b1
                            try clear c35
                            try clear c36
                            try clear c37
                            try clear c37b0
                            try clear c37b1
                            try clear c39
                            try clear c39b0
                            try clear c39b1
                            try clear c40
                            try clear c40b0
                            try clear c40b1
                            try clear q42
                            try clear c45
                            try clear c46
                            try clear c46b0
                            try clear c46b1
                            try clear c47
                            try clear c48
                            try clear c48b0
                            try clear c48b1
                            try clear c50
                            try clear c50b0
                            try clear c50b1
                            try clear c51
                            try clear c51b0
                            try clear c51b1
                            try clear q53
                            try clear c56
                            try clear c57
                            try clear c57b0
                            try clear c57b1
                            try clear c58
                            try clear c59
                            try clear c59b0
                            try clear c59b1
                            try clear c61
                            try clear c61b0
                            try clear c61b1
                            try clear c62
                            try clear c62b0
                            try clear c62b1
                            try clear p64
                            try clear q64
                            try clear c67
                            try clear c67b0
                            try clear c67b1
                            try clear hx279_0
                            try clear p2
                            try clear p27
                            try clear p279
                            try clear p6
                            try clear q2
                            try clear q20
                            try clear q27
                            try clear q279
                            try clear q3
                            try clear q31
                            try clear q42
                            try clear q53
                            try clear q64
                            obtain ⟨kq, x44_65, rfl, HA, HJ65, HO_3, HB⟩ := hcut
                            cases kq with
                            | zero => exact absurd HA.out (by simp [mantrapref16_Remove.j3])
                            | succ kj65 =>
                              have H := HA.out
                              clear HA
                              simp only [mantrapref16_Remove.j3] at H
                              by_cases c68 : x44_65 = true
                              · subst c68
                                have H1 : (if x4_7 = true then (if (x3_1.length : Int) > 0 then (if 0 ≤ (wrap64 ((x3_1.length : Int) - 1)) then (if (wrap64 ((x3_1.length : Int) - 1)) ≤ (x3_1.length : Int) then (mantrapref16_Remove.l0 kj65 (⟨#[]⟩ : ByteArray) (x3_1.take ((wrap64 ((x3_1.length : Int) - 1)) : Int).toNat)) else (none)) else (none)) else (mantrapref16_Remove.l0 kj65 (⟨#[]⟩ : ByteArray) x3_1)) else (mantrapref16_Remove.l0 kj65 (⟨#[]⟩ : ByteArray) x3_1)) = some r := by rw [if_pos rfl] at H; exact H
                                clear H
                                have H := H1
                                clear H1
                                by_cases c69 : x4_7 = true
                                · subst c69
                                  have H1 : (if (x3_1.length : Int) > 0 then (if 0 ≤ (wrap64 ((x3_1.length : Int) - 1)) then (if (wrap64 ((x3_1.length : Int) - 1)) ≤ (x3_1.length : Int) then (mantrapref16_Remove.l0 kj65 (⟨#[]⟩ : ByteArray) (x3_1.take ((wrap64 ((x3_1.length : Int) - 1)) : Int).toNat)) else (none)) else (none)) else (mantrapref16_Remove.l0 kj65 (⟨#[]⟩ : ByteArray) x3_1)) = some r := by rw [if_pos rfl] at H; exact H
                                  clear H
                                  have H := H1
                                  clear H1
                                  by_cases c70 : (x3_1.length : Int) > 0
                                  · rw [if_pos c70] at H
                                    have c70b0 : decide (0 < (x3_1.length : Int)) = true := decide_eq_true c70
                                    have c70b1 : decide (0 < x3_1.length) = true := decide_eq_true (by omega)
                                    clear c70
                                    obtain ⟨ji71, hji71⟩ : ∃ j_ : Int, (wrap64 ((x3_1.length : Int) - 1)) = j_ := ⟨_, rfl⟩
                                    replace H : (if 0 ≤ (ji71) then (if (ji71) ≤ (x3_1.length : Int) then (mantrapref16_Remove.l0 kj65 (⟨#[]⟩ : ByteArray) (x3_1.take ((ji71) : Int).toNat)) else (none)) else (none)) = some r := by first | (rw [hji71] at H; exact H) | (simp only [hji71] at H ⊢; exact H)
                                    have hji71w : (IntKind.i64.wrap ((x3_1.length : Int) - 1)) = ji71 := (i64_w _).trans hji71
                                    by_cases c72 : 0 ≤ (ji71)
                                    · rw [if_pos c72] at H
                                      have c72b0 := eq_true c72
                                      have c72b1 : decide (0 ≤ (ji71)) = true := decide_eq_true c72
                                      clear c72
                                      by_cases c73 : (ji71) ≤ (x3_1.length : Int)
                                      · rw [if_pos c73] at H
                                        have c73b0 := eq_true c73
                                        have c73b1 : decide ((ji71) ≤ (x3_1.length : Int)) = true := decide_eq_true c73
                                        clear c73
                                        obtain ⟨y264, hy264⟩ : ∃ y_ : List ByteArray, y_ = (x3_1.take ((ji71) : Int).toNat) := ⟨_, rfl⟩
                                        replace H : (mantrapref16_Remove.l0 kj65 (⟨#[]⟩ : ByteArray) y264) = some r := by first | (rw [hy264]; with_reducible exact H) | (have H2_ := (Option.bind_some _ _).symm.trans H; rw [hy264]; with_reducible exact H2_) | (have H2_ := (Option.bind_some _ _).symm.trans H; with_reducible exact H2_) | with_reducible exact H | (rw [hy264]; exact H) | exact H
                                        have Ny264 := Aside0.mk hy264
                                        clear hy264
                                        have H' := Aside0.mk H
                                        clear H
                                        obtain ⟨Ao74, co74, eo74⟩ := Kd.R_slice HO_3.out
                                        subst eo74
                                        have q75 : ((ji71) : Int) ≤ ((x3_1.length : Int) : Int) := of_decide_eq_true (by first | (with_reducible assumption) | assumption)
                                        obtain ⟨i075, hi075, _, hsz75, _⟩ := info_parts info9
                                        have hcut75 := cut_to (P := Tryz.prog) 48 9 .i64 Tryz.underlying48 hi075 Ao74 x3_1.length co74 (ji71) (of_decide_eq_true (by first | (with_reducible assumption) | assumption)) q75 (Kd.R_reads' HO_3.out).2.1
                                        have hr75 := Kd.R_take (m := ((ji71) : Int).toNat) HO_3.out (by omega)
                                        have hy75 : y264.length = ((ji71) : Int).toNat := (by rw [Ny264.out, List.length_take]; omega)
                                        rw [← Ny264.out] at hr75
                                        rw [← hy75] at hr75 hcut75
                                        clear hy75 hi075 hsz75 HO_3
                                        have HO266 := Aside0.mk hr75
                                        clear hr75
                                        replace q75 := eq_true q75
                                        go_wp2
                                        go_roundg kj65
                                        case measure => have := HK1.out; have := HJ7.out; have := HJ32.out; have := HJ65.out; omega
                                        case rel => exact ⟨((⟨#[]⟩ : ByteArray)), (y264), (by first | rfl | (simp; done) | (simp [*]; done)), H', ⟨by have := HK1.out; have := HJ7.out; have := HJ32.out; have := HJ65.out; omega⟩, ⟨by (with_reducible repeat (first | apply Kd.R_alloc | apply Kd.R_drewN | apply Kd.R_drew)); exact HO266.out⟩, ⟨by repeat (first | (with_reducible first | exact HB.out | apply below_alloc | apply pw_below_drewN | apply below_drew1) | exact HB.out)⟩⟩
                                      · rw [if_neg c73] at H
                                        exact absurd H (by simp)
                                    · rw [if_neg c72] at H
                                      exact absurd H (by simp)
                                  · rw [if_neg c70] at H
                                    have c70b0 : decide (0 < (x3_1.length : Int)) = false := decide_eq_false c70
                                    have c70b1 : decide (0 < x3_1.length) = false := decide_eq_false (by omega)
                                    clear c70
                                    have H' := Aside0.mk H
                                    clear H
                                    obtain ⟨Ao76, co76, eo76⟩ := Kd.R_slice HO_3.out
                                    subst eo76
                                    go_wp2
                                    go_roundg kj65
                                    case measure => have := HK1.out; have := HJ7.out; have := HJ32.out; have := HJ65.out; omega
                                    case rel => exact ⟨((⟨#[]⟩ : ByteArray)), (x3_1), (by first | rfl | (simp; done) | (simp [*]; done)), H', ⟨by have := HK1.out; have := HJ7.out; have := HJ32.out; have := HJ65.out; omega⟩, ⟨by (with_reducible repeat (first | apply Kd.R_alloc | apply Kd.R_drewN | apply Kd.R_drew)); exact HO_3.out⟩, ⟨by repeat (first | (with_reducible first | exact HB.out | apply below_alloc | apply pw_below_drewN | apply below_drew1) | exact HB.out)⟩⟩
                                · replace c69 := Bool.eq_false_iff.mpr c69
                                  subst c69
                                  have H1 : (mantrapref16_Remove.l0 kj65 (⟨#[]⟩ : ByteArray) x3_1) = some r := by rw [if_neg (show ¬ (false = true) by decide)] at H; exact H
                                  clear H
                                  have H := H1
                                  clear H1
                                  have H' := Aside0.mk H
                                  clear H
                                  go_wp2
                                  go_roundg kj65
                                  case measure => have := HK1.out; have := HJ7.out; have := HJ32.out; have := HJ65.out; omega
                                  case rel => exact ⟨((⟨#[]⟩ : ByteArray)), (x3_1), (by first | rfl | (simp; done) | (simp [*]; done)), H', ⟨by have := HK1.out; have := HJ7.out; have := HJ32.out; have := HJ65.out; omega⟩, ⟨by (with_reducible repeat (first | apply Kd.R_alloc | apply Kd.R_drewN | apply Kd.R_drew)); exact HO_3.out⟩, ⟨by repeat (first | (with_reducible first | exact HB.out | apply below_alloc | apply pw_below_drewN | apply below_drew1) | exact HB.out)⟩⟩
                              · replace c68 := Bool.eq_false_iff.mpr c68
                                subst c68
                                have H1 : (mantrapref16_Remove.l1 kj65 x0_1 x3_1 x4_7 1) = some r := by rw [if_neg (show ¬ (false = true) by decide)] at H; exact H
                                clear H
                                have H := H1
                                clear H1
                                have H' := Aside0.mk H
                                clear H
                                go_wp2
                                go_loopg [5] kj65 (fun kq v5 w' => ∃ (x5_5 : Int), v5 = .int .i64 x5_5 ∧ Aside0 (mantrapref16_Remove.l1 kq x0_1 x3_1 x4_7 x5_5 = some r) ∧ Aside0 (kq ≤ kj65) ∧ Aside0 (Kd.R Kd.string 9 w' w.heap.size (fun _ => True) u3 x3_1) ∧ Aside0 (Below w.heap.size w w'))
                                case atStart => exact ⟨(1), (by first | rfl | (simp; done) | (simp [*]; done)), H', ⟨Nat.le_refl _⟩, ⟨by (with_reducible repeat (first | apply Kd.R_alloc | apply Kd.R_drewN | apply Kd.R_drew)); exact HO_3.out⟩, ⟨by repeat (first | (with_reducible first | exact HB.out | apply below_alloc | apply pw_below_drewN | apply below_drew1) | exact HB.out)⟩⟩
                                case round =>
                                  clear H'
                                  try clear c1
                                  try clear c2
                                  try clear c2b0
                                  try clear c2b1
                                  try clear p2
                                  try clear q2
                                  try clear hx2
                                  try clear c3
                                  try clear q3
                                  try clear c4
                                  try clear c4b0
                                  try clear q4
                                  try clear c5
                                  try clear c5b0
                                  try clear q5
                                  try clear c6
                                  try clear c6b0
                                  try clear p6
                                  try clear q6
                                  try clear c7
                                  try clear c7b0
                                  try clear c7b1
                                  try clear c7b2
                                  try clear q7
                                  try clear c10
                                  try clear c12
                                  try clear c13
                                  try clear c13b0
                                  try clear c13b1
                                  try clear c14
                                  try clear c15
                                  try clear c15b0
                                  try clear c15b1
                                  try clear c17
                                  try clear c17b0
                                  try clear c17b1
                                  try clear c18
                                  try clear c18b0
                                  try clear c18b1
                                  try clear q20
                                  try clear c23
                                  try clear c24
                                  try clear c24b0
                                  try clear c24b1
                                  try clear c25
                                  try clear c26
                                  try clear c26b0
                                  try clear c26b1
                                  try clear c27
                                  try clear p27
                                  try clear q27
                                  try clear hx27
                                  try clear c28
                                  try clear c28b0
                                  try clear c28b1
                                  try clear c29
                                  try clear c29b0
                                  try clear c29b1
                                  try clear q31
                                  try clear c34
                                  try clear c34b0
                                  try clear c34b1
                                  try clear c35
                                  try clear c36
                                  try clear c37
                                  try clear c37b0
                                  try clear c37b1
                                  try clear c39
                                  try clear c39b0
                                  try clear c39b1
                                  try clear c40
                                  try clear c40b0
                                  try clear c40b1
                                  try clear q42
                                  try clear c45
                                  try clear c46
                                  try clear c46b0
                                  try clear c46b1
                                  try clear c47
                                  try clear c48
                                  try clear c48b0
                                  try clear c48b1
                                  try clear c50
                                  try clear c50b0
                                  try clear c50b1
                                  try clear c51
                                  try clear c51b0
                                  try clear c51b1
                                  try clear q53
                                  try clear c56
                                  try clear c57
                                  try clear c57b0
                                  try clear c57b1
                                  try clear c58
                                  try clear c59
                                  try clear c59b0
                                  try clear c59b1
                                  try clear c61
                                  try clear c61b0
                                  try clear c61b1
                                  try clear c62
                                  try clear c62b0
                                  try clear c62b1
                                  try clear p64
                                  try clear q64
                                  try clear c67
                                  try clear c67b0
                                  try clear c67b1
                                  try clear c68
                                  try clear c69
                                  try clear c70
                                  try clear c70b0
                                  try clear c70b1
                                  try clear c72
                                  try clear c72b0
                                  try clear c72b1
                                  try clear c73
                                  try clear c73b0
                                  try clear c73b1
                                  try clear q75
                                  try clear hx279_0
                                  try clear p2
                                  try clear p27
                                  try clear p279
                                  try clear p6
                                  try clear p64
                                  try clear q2
                                  try clear q20
                                  try clear q27
                                  try clear q279
                                  try clear q3
                                  try clear q31
                                  try clear q4
                                  try clear q42
                                  try clear q5
                                  try clear q53
                                  try clear q6
                                  try clear q64
                                  try clear q75
                                  obtain ⟨x5_5, rfl, HA, HK5, HO_3, HB⟩ := hrel
                                  cases gk with
                                  | zero => exact absurd HA.out (by simp [mantrapref16_Remove.l1])
                                  | succ k5 =>
                                    have H := HA.out
                                    clear HA
                                    simp only [mantrapref16_Remove.l1] at H
                                    by_cases c77 : x5_5 < (x0_1.size : Int)
                                    · rw [if_pos c77] at H
                                      have c77b0 : decide (x5_5 < (x0_1.size : Int)) = true := decide_eq_true c77
                                      clear c77
                                      by_cases c78 : 0 ≤ x5_5
                                      · rw [if_pos c78] at H
                                        have c78b0 : decide (0 ≤ x5_5) = true := decide_eq_true c78
                                        clear c78
                                        by_cases c80 : (bt x0_1 x5_5) = 47
                                        · rw [if_pos c80] at H
                                          have c80b0 : ((bt x0_1 x5_5) == 47) = true := beq_iff_eq.mpr c80
                                          have c80b1 : ((bt x0_1 x5_5) != 47) = false := bne_eq_false_iff_eq.mpr c80
                                          clear c80
                                          have c81b0 := eq_true (of_decide_eq_true (by first | (with_reducible assumption) | assumption) : 0 ≤ x5_5)
                                          by_cases c82 : x5_5 ≤ (x0_1.size : Int)
                                          · rw [if_pos c82] at H
                                            have c82b0 := eq_true c82
                                            have c82b1 : decide (x5_5 ≤ (x0_1.size : Int)) = true := decide_eq_true c82
                                            clear c82
                                            by_cases c83 : x3_1.length < 8796093022208
                                            · rw [if_pos c83] at H
                                              have LMc83 := Aside0.mk c83
                                              clear c83
                                              obtain ⟨y267, hy267⟩ : ∃ y_ : List ByteArray, y_ = (x3_1 ++ [x0_1.extract 0 (x5_5 : Int).toNat]) := ⟨_, rfl⟩
                                              replace H : (if x4_7 = true then (if (y267.length : Int) > 0 then (if 0 ≤ (wrap64 ((y267.length : Int) - 1)) then (if (wrap64 ((y267.length : Int) - 1)) ≤ (y267.length : Int) then (mantrapref16_Remove.l0 k5 (x0_1.extract (x5_5 : Int).toNat x0_1.size) (y267.take ((wrap64 ((y267.length : Int) - 1)) : Int).toNat)) else (none)) else (none)) else (mantrapref16_Remove.l0 k5 (x0_1.extract (x5_5 : Int).toNat x0_1.size) y267)) else (mantrapref16_Remove.l0 k5 (x0_1.extract (x5_5 : Int).toNat x0_1.size) y267)) = some r := by first | (rw [hy267]; with_reducible exact H) | (have H2_ := (Option.bind_some _ _).symm.trans H; rw [hy267]; with_reducible exact H2_) | (have H2_ := (Option.bind_some _ _).symm.trans H; with_reducible exact H2_) | with_reducible exact H | (rw [hy267]; exact H) | exact H
                                              have Ny267 := Aside0.mk hy267
                                              clear hy267
                                              have c84b0 := eq_true (of_decide_eq_true (by first | (with_reducible assumption) | assumption) : 0 ≤ x5_5)
                                              have c85b0 := eq_true (of_decide_eq_true (by first | (with_reducible assumption) | assumption) : x5_5 ≤ (x0_1.size : Int))
                                              by_cases c86 : x4_7 = true
                                              · subst c86
                                                have H1 : (if (y267.length : Int) > 0 then (if 0 ≤ (wrap64 ((y267.length : Int) - 1)) then (if (wrap64 ((y267.length : Int) - 1)) ≤ (y267.length : Int) then (mantrapref16_Remove.l0 k5 (x0_1.extract (x5_5 : Int).toNat x0_1.size) (y267.take ((wrap64 ((y267.length : Int) - 1)) : Int).toNat)) else (none)) else (none)) else (mantrapref16_Remove.l0 k5 (x0_1.extract (x5_5 : Int).toNat x0_1.size) y267)) = some r := by rw [if_pos rfl] at H; exact H
                                                clear H
                                                have H := H1
                                                clear H1
                                                by_cases c87 : (y267.length : Int) > 0
                                                · rw [if_pos c87] at H
                                                  have c87b0 : decide (0 < (y267.length : Int)) = true := decide_eq_true c87
                                                  have c87b1 : decide (0 < y267.length) = true := decide_eq_true (by omega)
                                                  clear c87
                                                  obtain ⟨ji88, hji88⟩ : ∃ j_ : Int, (wrap64 ((y267.length : Int) - 1)) = j_ := ⟨_, rfl⟩
                                                  replace H : (if 0 ≤ (ji88) then (if (ji88) ≤ (y267.length : Int) then (mantrapref16_Remove.l0 k5 (x0_1.extract (x5_5 : Int).toNat x0_1.size) (y267.take ((ji88) : Int).toNat)) else (none)) else (none)) = some r := by first | (rw [hji88] at H; exact H) | (simp only [hji88] at H ⊢; exact H)
                                                  have hji88w : (IntKind.i64.wrap ((y267.length : Int) - 1)) = ji88 := (i64_w _).trans hji88
                                                  by_cases c89 : 0 ≤ (ji88)
                                                  · rw [if_pos c89] at H
                                                    have c89b0 := eq_true c89
                                                    have c89b1 : decide (0 ≤ (ji88)) = true := decide_eq_true c89
                                                    clear c89
                                                    by_cases c90 : (ji88) ≤ (y267.length : Int)
                                                    · rw [if_pos c90] at H
                                                      have c90b0 := eq_true c90
                                                      have c90b1 : decide ((ji88) ≤ (y267.length : Int)) = true := decide_eq_true c90
                                                      clear c90
                                                      obtain ⟨y270, hy270⟩ : ∃ y_ : List ByteArray, y_ = (y267.take ((ji88) : Int).toNat) := ⟨_, rfl⟩
                                                      replace H : (mantrapref16_Remove.l0 k5 (x0_1.extract (x5_5 : Int).toNat x0_1.size) y270) = some r := by first | (rw [hy270]; with_reducible exact H) | (have H2_ := (Option.bind_some _ _).symm.trans H; rw [hy270]; with_reducible exact H2_) | (have H2_ := (Option.bind_some _ _).symm.trans H; with_reducible exact H2_) | with_reducible exact H | (rw [hy270]; exact H) | exact H
                                                      have Ny270 := Aside0.mk hy270
                                                      clear hy270
                                                      have H' := Aside0.mk H
                                                      clear H
                                                      have p79 : 0 ≤ (x5_5 : Int) := of_decide_eq_true (by first | (with_reducible assumption) | assumption)
                                                      have q79 : x5_5 < (x0_1.size : Int) := of_decide_eq_true (by first | (with_reducible assumption) | assumption)
                                                      have hx79 := bt_at x0_1 x5_5
                                                      replace p79 := eq_true p79
                                                      replace q79 := eq_true q79
                                                      go_wp2_with (first | ((with_reducible refine gate_builtin (b := .append) (xs := #[.tmp 57, .tmp 61]) rfl ?_); (try (refine gate_guard (by rfl) ?_; dsimp only)); at_builtin; refine Kd.R_append Kd.string (w0 := w) w.heap.size rfl (.tmp 57) (.tmp 61) 48 9 (.string ⟨#[]⟩) 16 rfl Tryz.underlying48 info9 rfl (by decide) (by omega) u3 x3_1 (x0_1.extract 0 (x5_5 : Int).toNat) [.string (x0_1.extract 0 (x5_5 : Int).toNat)] (fun _ => True) (fun _ => False) rfl rfl ?aP (fun _ hk => hk.elim) ?aF ?aO ?aB ?aS ?aL ?_; (case aP => exact rfl); (case aB => exact (by repeat (first | (with_reducible first | exact HB.out | apply below_alloc | apply pw_below_drewN | apply below_drew1) | exact HB.out))); (case aF => exact (fun _ _ => trivial)); (case aO => exact (by (with_reducible repeat (first | apply Kd.R_alloc | apply Kd.R_drewN | apply Kd.R_drew)); exact HO_3.out)); (case aS => exact (below_size (by repeat (first | (with_reducible first | exact HB.out | apply below_alloc | apply pw_below_drewN | apply below_drew1) | exact HB.out)))); (case aL => have := LMc83.out; omega); intro v268 w91 ho hb hg hat; rw [← Ny267.out] at ho; have n0_ := Aside0.mk (hb); have n1_ := Aside0.mk (ho); clear HB; clear HO_3; have HB := n0_; have HO269 := n1_; clear n0_ n1_; clear ho hb hg hat; obtain ⟨Ao92, co92, eo92⟩ := Kd.R_slice HO269.out; subst eo92; have q93 : ((ji88) : Int) ≤ ((y267.length : Int) : Int) := of_decide_eq_true (by first | (with_reducible assumption) | assumption); obtain ⟨i093, hi093, _, hsz93, _⟩ := info_parts info9; have hcut93 := cut_to (P := Tryz.prog) 48 9 .i64 Tryz.underlying48 hi093 Ao92 y267.length co92 (ji88) (of_decide_eq_true (by first | (with_reducible assumption) | assumption)) q93 (Kd.R_reads' HO269.out).2.1; have hr93 := Kd.R_take (m := ((ji88) : Int).toNat) HO269.out (by omega); have hy93 : y270.length = ((ji88) : Int).toNat := (by rw [Ny270.out, List.length_take]; omega); rw [← Ny270.out] at hr93; rw [← hy93] at hr93 hcut93; clear hy93 hi093 hsz93 HO269; have HO272 := Aside0.mk hr93; clear hr93; replace q93 := eq_true q93))
                                                      go_roundg k5
                                                      case measure => have := HK1.out; have := HJ7.out; have := HJ32.out; have := HJ65.out; have := HK5.out; omega
                                                      case rel => exact ⟨(x0_1.extract (x5_5 : Int).toNat x0_1.size), (y270), (by first | rfl | (simp; done) | (simp [*]; done)), H', ⟨by have := HK1.out; have := HJ7.out; have := HJ32.out; have := HJ65.out; have := HK5.out; omega⟩, ⟨by (with_reducible repeat (first | apply Kd.R_alloc | apply Kd.R_drewN | apply Kd.R_drew)); exact HO272.out⟩, ⟨by repeat (first | (with_reducible first | exact HB.out | apply below_alloc | apply pw_below_drewN | apply below_drew1) | exact HB.out)⟩⟩
                                                    · rw [if_neg c90] at H
                                                      exact absurd H (by simp)
                                                  · rw [if_neg c89] at H
                                                    exact absurd H (by simp)
                                                · rw [if_neg c87] at H
                                                  have c87b0 : decide (0 < (y267.length : Int)) = false := decide_eq_false c87
                                                  have c87b1 : decide (0 < y267.length) = false := decide_eq_false (by omega)
                                                  clear c87
                                                  have H' := Aside0.mk H
                                                  clear H
                                                  have p79 : 0 ≤ (x5_5 : Int) := of_decide_eq_true (by first | (with_reducible assumption) | assumption)
                                                  have q79 : x5_5 < (x0_1.size : Int) := of_decide_eq_true (by first | (with_reducible assumption) | assumption)
                                                  have hx79 := bt_at x0_1 x5_5
                                                  replace p79 := eq_true p79
                                                  replace q79 := eq_true q79
                                                  go_wp2_with (first | ((with_reducible refine gate_builtin (b := .append) (xs := #[.tmp 57, .tmp 61]) rfl ?_); (try (refine gate_guard (by rfl) ?_; dsimp only)); at_builtin; refine Kd.R_append Kd.string (w0 := w) w.heap.size rfl (.tmp 57) (.tmp 61) 48 9 (.string ⟨#[]⟩) 16 rfl Tryz.underlying48 info9 rfl (by decide) (by omega) u3 x3_1 (x0_1.extract 0 (x5_5 : Int).toNat) [.string (x0_1.extract 0 (x5_5 : Int).toNat)] (fun _ => True) (fun _ => False) rfl rfl ?aP (fun _ hk => hk.elim) ?aF ?aO ?aB ?aS ?aL ?_; (case aP => exact rfl); (case aB => exact (by repeat (first | (with_reducible first | exact HB.out | apply below_alloc | apply pw_below_drewN | apply below_drew1) | exact HB.out))); (case aF => exact (fun _ _ => trivial)); (case aO => exact (by (with_reducible repeat (first | apply Kd.R_alloc | apply Kd.R_drewN | apply Kd.R_drew)); exact HO_3.out)); (case aS => exact (below_size (by repeat (first | (with_reducible first | exact HB.out | apply below_alloc | apply pw_below_drewN | apply below_drew1) | exact HB.out)))); (case aL => have := LMc83.out; omega); intro v268 w94 ho hb hg hat; rw [← Ny267.out] at ho; have n0_ := Aside0.mk (hb); have n1_ := Aside0.mk (ho); clear HB; clear HO_3; have HB := n0_; have HO269 := n1_; clear n0_ n1_; clear ho hb hg hat; obtain ⟨Ao95, co95, eo95⟩ := Kd.R_slice HO269.out; subst eo95))
                                                  go_roundg k5
                                                  case measure => have := HK1.out; have := HJ7.out; have := HJ32.out; have := HJ65.out; have := HK5.out; omega
                                                  case rel => exact ⟨(x0_1.extract (x5_5 : Int).toNat x0_1.size), (y267), (by first | rfl | (simp; done) | (simp [*]; done)), H', ⟨by have := HK1.out; have := HJ7.out; have := HJ32.out; have := HJ65.out; have := HK5.out; omega⟩, ⟨by (with_reducible repeat (first | apply Kd.R_alloc | apply Kd.R_drewN | apply Kd.R_drew)); exact HO269.out⟩, ⟨by repeat (first | (with_reducible first | exact HB.out | apply below_alloc | apply pw_below_drewN | apply below_drew1) | exact HB.out)⟩⟩
                                              · replace c86 := Bool.eq_false_iff.mpr c86
                                                subst c86
                                                have H1 : (mantrapref16_Remove.l0 k5 (x0_1.extract (x5_5 : Int).toNat x0_1.size) y267) = some r := by rw [if_neg (show ¬ (false = true) by decide)] at H; exact H
                                                clear H
                                                have H := H1
                                                clear H1
                                                have H' := Aside0.mk H
                                                clear H
                                                have p79 : 0 ≤ (x5_5 : Int) := of_decide_eq_true (by first | (with_reducible assumption) | assumption)
                                                have q79 : x5_5 < (x0_1.size : Int) := of_decide_eq_true (by first | (with_reducible assumption) | assumption)
                                                have hx79 := bt_at x0_1 x5_5
                                                replace p79 := eq_true p79
                                                replace q79 := eq_true q79
                                                go_wp2_with (first | ((with_reducible refine gate_builtin (b := .append) (xs := #[.tmp 57, .tmp 61]) rfl ?_); (try (refine gate_guard (by rfl) ?_; dsimp only)); at_builtin; refine Kd.R_append Kd.string (w0 := w) w.heap.size rfl (.tmp 57) (.tmp 61) 48 9 (.string ⟨#[]⟩) 16 rfl Tryz.underlying48 info9 rfl (by decide) (by omega) u3 x3_1 (x0_1.extract 0 (x5_5 : Int).toNat) [.string (x0_1.extract 0 (x5_5 : Int).toNat)] (fun _ => True) (fun _ => False) rfl rfl ?aP (fun _ hk => hk.elim) ?aF ?aO ?aB ?aS ?aL ?_; (case aP => exact rfl); (case aB => exact (by repeat (first | (with_reducible first | exact HB.out | apply below_alloc | apply pw_below_drewN | apply below_drew1) | exact HB.out))); (case aF => exact (fun _ _ => trivial)); (case aO => exact (by (with_reducible repeat (first | apply Kd.R_alloc | apply Kd.R_drewN | apply Kd.R_drew)); exact HO_3.out)); (case aS => exact (below_size (by repeat (first | (with_reducible first | exact HB.out | apply below_alloc | apply pw_below_drewN | apply below_drew1) | exact HB.out)))); (case aL => have := LMc83.out; omega); intro v268 w96 ho hb hg hat; rw [← Ny267.out] at ho; have n0_ := Aside0.mk (hb); have n1_ := Aside0.mk (ho); clear HB; clear HO_3; have HB := n0_; have HO269 := n1_; clear n0_ n1_; clear ho hb hg hat))
                                                go_roundg k5
                                                case measure => have := HK1.out; have := HJ7.out; have := HJ32.out; have := HJ65.out; have := HK5.out; omega
                                                case rel => exact ⟨(x0_1.extract (x5_5 : Int).toNat x0_1.size), (y267), (by first | rfl | (simp; done) | (simp [*]; done)), H', ⟨by have := HK1.out; have := HJ7.out; have := HJ32.out; have := HJ65.out; have := HK5.out; omega⟩, ⟨by (with_reducible repeat (first | apply Kd.R_alloc | apply Kd.R_drewN | apply Kd.R_drew)); exact HO269.out⟩, ⟨by repeat (first | (with_reducible first | exact HB.out | apply below_alloc | apply pw_below_drewN | apply below_drew1) | exact HB.out)⟩⟩
                                            · rw [if_neg c83] at H
                                              exact absurd H (by simp)
                                          · rw [if_neg c82] at H
                                            exact absurd H (by simp)
                                        · rw [if_neg c80] at H
                                          have c80b0 : ((bt x0_1 x5_5) == 47) = false := beq_eq_false_iff_ne.mpr c80
                                          have c80b1 : ((bt x0_1 x5_5) != 47) = true := bne_iff_ne.mpr c80
                                          have H' := Aside0.mk H
                                          clear H
                                          have p79 : 0 ≤ (x5_5 : Int) := of_decide_eq_true (by first | (with_reducible assumption) | assumption)
                                          have q79 : x5_5 < (x0_1.size : Int) := of_decide_eq_true (by first | (with_reducible assumption) | assumption)
                                          have hx79 := bt_at x0_1 x5_5
                                          replace p79 := eq_true p79
                                          replace q79 := eq_true q79
                                          go_wp2
                                          go_roundg k5
                                          case measure => have := HK1.out; have := HJ7.out; have := HJ32.out; have := HJ65.out; have := HK5.out; omega
                                          case rel => exact ⟨(wrap64 (x5_5 + 1)), (by first | rfl | (simp; done) | (simp [*]; done)), H', ⟨by have := HK1.out; have := HJ7.out; have := HJ32.out; have := HJ65.out; have := HK5.out; omega⟩, ⟨by (with_reducible repeat (first | apply Kd.R_alloc | apply Kd.R_drewN | apply Kd.R_drew)); exact HO_3.out⟩, ⟨by repeat (first | (with_reducible first | exact HB.out | apply below_alloc | apply pw_below_drewN | apply below_drew1) | exact HB.out)⟩⟩
                                      · rw [if_neg c78] at H
                                        exact absurd H (by simp)
                                    · rw [if_neg c77] at H
                                      have c77b0 : decide (x5_5 < (x0_1.size : Int)) = false := decide_eq_false c77
                                      clear c77
                                      by_cases c97 : 0 ≤ x5_5
                                      · rw [if_pos c97] at H
                                        have c97b0 := eq_true c97
                                        have c97b1 : decide (0 ≤ x5_5) = true := decide_eq_true c97
                                        clear c97
                                        by_cases c98 : x5_5 ≤ (x0_1.size : Int)
                                        · rw [if_pos c98] at H
                                          have c98b0 := eq_true c98
                                          have c98b1 : decide (x5_5 ≤ (x0_1.size : Int)) = true := decide_eq_true c98
                                          clear c98
                                          by_cases c99 : x3_1.length < 8796093022208
                                          · rw [if_pos c99] at H
                                            have LMc99 := Aside0.mk c99
                                            clear c99
                                            obtain ⟨y273, hy273⟩ : ∃ y_ : List ByteArray, y_ = (x3_1 ++ [x0_1.extract 0 (x5_5 : Int).toNat]) := ⟨_, rfl⟩
                                            replace H : (if x4_7 = true then (if (y273.length : Int) > 0 then (if 0 ≤ (wrap64 ((y273.length : Int) - 1)) then (if (wrap64 ((y273.length : Int) - 1)) ≤ (y273.length : Int) then (mantrapref16_Remove.l0 k5 (x0_1.extract (x5_5 : Int).toNat x0_1.size) (y273.take ((wrap64 ((y273.length : Int) - 1)) : Int).toNat)) else (none)) else (none)) else (mantrapref16_Remove.l0 k5 (x0_1.extract (x5_5 : Int).toNat x0_1.size) y273)) else (mantrapref16_Remove.l0 k5 (x0_1.extract (x5_5 : Int).toNat x0_1.size) y273)) = some r := by first | (rw [hy273]; with_reducible exact H) | (have H2_ := (Option.bind_some _ _).symm.trans H; rw [hy273]; with_reducible exact H2_) | (have H2_ := (Option.bind_some _ _).symm.trans H; with_reducible exact H2_) | with_reducible exact H | (rw [hy273]; exact H) | exact H
                                            have Ny273 := Aside0.mk hy273
                                            clear hy273
                                            have c100b0 := eq_true (of_decide_eq_true (by first | (with_reducible assumption) | assumption) : 0 ≤ x5_5)
                                            have c101b0 := eq_true (of_decide_eq_true (by first | (with_reducible assumption) | assumption) : x5_5 ≤ (x0_1.size : Int))
                                            by_cases c102 : x4_7 = true
                                            · subst c102
                                              have H1 : (if (y273.length : Int) > 0 then (if 0 ≤ (wrap64 ((y273.length : Int) - 1)) then (if (wrap64 ((y273.length : Int) - 1)) ≤ (y273.length : Int) then (mantrapref16_Remove.l0 k5 (x0_1.extract (x5_5 : Int).toNat x0_1.size) (y273.take ((wrap64 ((y273.length : Int) - 1)) : Int).toNat)) else (none)) else (none)) else (mantrapref16_Remove.l0 k5 (x0_1.extract (x5_5 : Int).toNat x0_1.size) y273)) = some r := by rw [if_pos rfl] at H; exact H
                                              clear H
                                              have H := H1
                                              clear H1
                                              by_cases c103 : (y273.length : Int) > 0
                                              · rw [if_pos c103] at H
                                                have c103b0 : decide (0 < (y273.length : Int)) = true := decide_eq_true c103
                                                have c103b1 : decide (0 < y273.length) = true := decide_eq_true (by omega)
                                                clear c103
                                                obtain ⟨ji104, hji104⟩ : ∃ j_ : Int, (wrap64 ((y273.length : Int) - 1)) = j_ := ⟨_, rfl⟩
                                                replace H : (if 0 ≤ (ji104) then (if (ji104) ≤ (y273.length : Int) then (mantrapref16_Remove.l0 k5 (x0_1.extract (x5_5 : Int).toNat x0_1.size) (y273.take ((ji104) : Int).toNat)) else (none)) else (none)) = some r := by first | (rw [hji104] at H; exact H) | (simp only [hji104] at H ⊢; exact H)
                                                have hji104w : (IntKind.i64.wrap ((y273.length : Int) - 1)) = ji104 := (i64_w _).trans hji104
                                                by_cases c105 : 0 ≤ (ji104)
                                                · rw [if_pos c105] at H
                                                  have c105b0 := eq_true c105
                                                  have c105b1 : decide (0 ≤ (ji104)) = true := decide_eq_true c105
                                                  clear c105
                                                  by_cases c106 : (ji104) ≤ (y273.length : Int)
                                                  · rw [if_pos c106] at H
                                                    have c106b0 := eq_true c106
                                                    have c106b1 : decide ((ji104) ≤ (y273.length : Int)) = true := decide_eq_true c106
                                                    clear c106
                                                    obtain ⟨y276, hy276⟩ : ∃ y_ : List ByteArray, y_ = (y273.take ((ji104) : Int).toNat) := ⟨_, rfl⟩
                                                    replace H : (mantrapref16_Remove.l0 k5 (x0_1.extract (x5_5 : Int).toNat x0_1.size) y276) = some r := by first | (rw [hy276]; with_reducible exact H) | (have H2_ := (Option.bind_some _ _).symm.trans H; rw [hy276]; with_reducible exact H2_) | (have H2_ := (Option.bind_some _ _).symm.trans H; with_reducible exact H2_) | with_reducible exact H | (rw [hy276]; exact H) | exact H
                                                    have Ny276 := Aside0.mk hy276
                                                    clear hy276
                                                    have H' := Aside0.mk H
                                                    clear H
                                                    go_wp2_with (first | ((with_reducible refine gate_builtin (b := .append) (xs := #[.tmp 57, .tmp 61]) rfl ?_); (try (refine gate_guard (by rfl) ?_; dsimp only)); at_builtin; refine Kd.R_append Kd.string (w0 := w) w.heap.size rfl (.tmp 57) (.tmp 61) 48 9 (.string ⟨#[]⟩) 16 rfl Tryz.underlying48 info9 rfl (by decide) (by omega) u3 x3_1 (x0_1.extract 0 (x5_5 : Int).toNat) [.string (x0_1.extract 0 (x5_5 : Int).toNat)] (fun _ => True) (fun _ => False) rfl rfl ?aP (fun _ hk => hk.elim) ?aF ?aO ?aB ?aS ?aL ?_; (case aP => exact rfl); (case aB => exact (by repeat (first | (with_reducible first | exact HB.out | apply below_alloc | apply pw_below_drewN | apply below_drew1) | exact HB.out))); (case aF => exact (fun _ _ => trivial)); (case aO => exact (by (with_reducible repeat (first | apply Kd.R_alloc | apply Kd.R_drewN | apply Kd.R_drew)); exact HO_3.out)); (case aS => exact (below_size (by repeat (first | (with_reducible first | exact HB.out | apply below_alloc | apply pw_below_drewN | apply below_drew1) | exact HB.out)))); (case aL => have := LMc99.out; omega); intro v274 w107 ho hb hg hat; rw [← Ny273.out] at ho; have n0_ := Aside0.mk (hb); have n1_ := Aside0.mk (ho); clear HB; clear HO_3; have HB := n0_; have HO275 := n1_; clear n0_ n1_; clear ho hb hg hat; obtain ⟨Ao108, co108, eo108⟩ := Kd.R_slice HO275.out; subst eo108; have q109 : ((ji104) : Int) ≤ ((y273.length : Int) : Int) := of_decide_eq_true (by first | (with_reducible assumption) | assumption); obtain ⟨i0109, hi0109, _, hsz109, _⟩ := info_parts info9; have hcut109 := cut_to (P := Tryz.prog) 48 9 .i64 Tryz.underlying48 hi0109 Ao108 y273.length co108 (ji104) (of_decide_eq_true (by first | (with_reducible assumption) | assumption)) q109 (Kd.R_reads' HO275.out).2.1; have hr109 := Kd.R_take (m := ((ji104) : Int).toNat) HO275.out (by omega); have hy109 : y276.length = ((ji104) : Int).toNat := (by rw [Ny276.out, List.length_take]; omega); rw [← Ny276.out] at hr109; rw [← hy109] at hr109 hcut109; clear hy109 hi0109 hsz109 HO275; have HO278 := Aside0.mk hr109; clear hr109; replace q109 := eq_true q109))
                                                    go_roundg k5
                                                    case measure => have := HK1.out; have := HJ7.out; have := HJ32.out; have := HJ65.out; have := HK5.out; omega
                                                    case rel => exact ⟨(x0_1.extract (x5_5 : Int).toNat x0_1.size), (y276), (by first | rfl | (simp; done) | (simp [*]; done)), H', ⟨by have := HK1.out; have := HJ7.out; have := HJ32.out; have := HJ65.out; have := HK5.out; omega⟩, ⟨by (with_reducible repeat (first | apply Kd.R_alloc | apply Kd.R_drewN | apply Kd.R_drew)); exact HO278.out⟩, ⟨by repeat (first | (with_reducible first | exact HB.out | apply below_alloc | apply pw_below_drewN | apply below_drew1) | exact HB.out)⟩⟩
                                                  · rw [if_neg c106] at H
                                                    exact absurd H (by simp)
                                                · rw [if_neg c105] at H
                                                  exact absurd H (by simp)
                                              · rw [if_neg c103] at H
                                                have c103b0 : decide (0 < (y273.length : Int)) = false := decide_eq_false c103
                                                have c103b1 : decide (0 < y273.length) = false := decide_eq_false (by omega)
                                                clear c103
                                                have H' := Aside0.mk H
                                                clear H
                                                go_wp2_with (first | ((with_reducible refine gate_builtin (b := .append) (xs := #[.tmp 57, .tmp 61]) rfl ?_); (try (refine gate_guard (by rfl) ?_; dsimp only)); at_builtin; refine Kd.R_append Kd.string (w0 := w) w.heap.size rfl (.tmp 57) (.tmp 61) 48 9 (.string ⟨#[]⟩) 16 rfl Tryz.underlying48 info9 rfl (by decide) (by omega) u3 x3_1 (x0_1.extract 0 (x5_5 : Int).toNat) [.string (x0_1.extract 0 (x5_5 : Int).toNat)] (fun _ => True) (fun _ => False) rfl rfl ?aP (fun _ hk => hk.elim) ?aF ?aO ?aB ?aS ?aL ?_; (case aP => exact rfl); (case aB => exact (by repeat (first | (with_reducible first | exact HB.out | apply below_alloc | apply pw_below_drewN | apply below_drew1) | exact HB.out))); (case aF => exact (fun _ _ => trivial)); (case aO => exact (by (with_reducible repeat (first | apply Kd.R_alloc | apply Kd.R_drewN | apply Kd.R_drew)); exact HO_3.out)); (case aS => exact (below_size (by repeat (first | (with_reducible first | exact HB.out | apply below_alloc | apply pw_below_drewN | apply below_drew1) | exact HB.out)))); (case aL => have := LMc99.out; omega); intro v274 w110 ho hb hg hat; rw [← Ny273.out] at ho; have n0_ := Aside0.mk (hb); have n1_ := Aside0.mk (ho); clear HB; clear HO_3; have HB := n0_; have HO275 := n1_; clear n0_ n1_; clear ho hb hg hat; obtain ⟨Ao111, co111, eo111⟩ := Kd.R_slice HO275.out; subst eo111))
                                                go_roundg k5
                                                case measure => have := HK1.out; have := HJ7.out; have := HJ32.out; have := HJ65.out; have := HK5.out; omega
                                                case rel => exact ⟨(x0_1.extract (x5_5 : Int).toNat x0_1.size), (y273), (by first | rfl | (simp; done) | (simp [*]; done)), H', ⟨by have := HK1.out; have := HJ7.out; have := HJ32.out; have := HJ65.out; have := HK5.out; omega⟩, ⟨by (with_reducible repeat (first | apply Kd.R_alloc | apply Kd.R_drewN | apply Kd.R_drew)); exact HO275.out⟩, ⟨by repeat (first | (with_reducible first | exact HB.out | apply below_alloc | apply pw_below_drewN | apply below_drew1) | exact HB.out)⟩⟩
                                            · replace c102 := Bool.eq_false_iff.mpr c102
                                              subst c102
                                              have H1 : (mantrapref16_Remove.l0 k5 (x0_1.extract (x5_5 : Int).toNat x0_1.size) y273) = some r := by rw [if_neg (show ¬ (false = true) by decide)] at H; exact H
                                              clear H
                                              have H := H1
                                              clear H1
                                              have H' := Aside0.mk H
                                              clear H
                                              go_wp2_with (first | ((with_reducible refine gate_builtin (b := .append) (xs := #[.tmp 57, .tmp 61]) rfl ?_); (try (refine gate_guard (by rfl) ?_; dsimp only)); at_builtin; refine Kd.R_append Kd.string (w0 := w) w.heap.size rfl (.tmp 57) (.tmp 61) 48 9 (.string ⟨#[]⟩) 16 rfl Tryz.underlying48 info9 rfl (by decide) (by omega) u3 x3_1 (x0_1.extract 0 (x5_5 : Int).toNat) [.string (x0_1.extract 0 (x5_5 : Int).toNat)] (fun _ => True) (fun _ => False) rfl rfl ?aP (fun _ hk => hk.elim) ?aF ?aO ?aB ?aS ?aL ?_; (case aP => exact rfl); (case aB => exact (by repeat (first | (with_reducible first | exact HB.out | apply below_alloc | apply pw_below_drewN | apply below_drew1) | exact HB.out))); (case aF => exact (fun _ _ => trivial)); (case aO => exact (by (with_reducible repeat (first | apply Kd.R_alloc | apply Kd.R_drewN | apply Kd.R_drew)); exact HO_3.out)); (case aS => exact (below_size (by repeat (first | (with_reducible first | exact HB.out | apply below_alloc | apply pw_below_drewN | apply below_drew1) | exact HB.out)))); (case aL => have := LMc99.out; omega); intro v274 w112 ho hb hg hat; rw [← Ny273.out] at ho; have n0_ := Aside0.mk (hb); have n1_ := Aside0.mk (ho); clear HB; clear HO_3; have HB := n0_; have HO275 := n1_; clear n0_ n1_; clear ho hb hg hat))
                                              go_roundg k5
                                              case measure => have := HK1.out; have := HJ7.out; have := HJ32.out; have := HJ65.out; have := HK5.out; omega
                                              case rel => exact ⟨(x0_1.extract (x5_5 : Int).toNat x0_1.size), (y273), (by first | rfl | (simp; done) | (simp [*]; done)), H', ⟨by have := HK1.out; have := HJ7.out; have := HJ32.out; have := HJ65.out; have := HK5.out; omega⟩, ⟨by (with_reducible repeat (first | apply Kd.R_alloc | apply Kd.R_drewN | apply Kd.R_drew)); exact HO275.out⟩, ⟨by repeat (first | (with_reducible first | exact HB.out | apply below_alloc | apply pw_below_drewN | apply below_drew1) | exact HB.out)⟩⟩
                                          · rw [if_neg c99] at H
                                            exact absurd H (by simp)
                                        · rw [if_neg c98] at H
                                          exact absurd H (by simp)
                                      · rw [if_neg c97] at H
                                        exact absurd H (by simp)

/-! ### mantrapref01_Has: function 129 -/
def mantrapref01_Has.l0 : Nat → ByteArray → Int → Int → Option (Bool)
  | 0, _, _, _ => none
  | k + 1, x0, x1, x5 => if x5 < (x0.size : Int) then (if 0 ≤ x5 then (if (bt x0 x5) = x1 then (some true) else (mantrapref01_Has.l0 k x0 x1 (wrap64 (x5 + 1)))) else (none)) else (some false)
def mantrapref01_Has.f (k : Nat) (a0 : ByteArray) (a1 : Int) : Option (Bool) := mantrapref01_Has.l0 k a0 a1 0
theorem mantrapref01_Has.mono_l : ∀ k, (∀ y0 y1 y2, LeO (mantrapref01_Has.l0 k y0 y1 y2) (mantrapref01_Has.l0 (k + 1) y0 y1 y2))
  | 0 => fun _ _ _ r h => by simp [mantrapref01_Has.l0] at h
  | k + 1 => by
    have ih0 := mantrapref01_Has.mono_l k
    · intro y0 y1 y2
      unfold mantrapref01_Has.l0
      repeat' first
      | (with_reducible exact ih0 _ _ _)
      | (with_reducible exact LeO.refl _)
      | (with_reducible exact LeO.none _)
      | (with_reducible refine LeO.ite ?_ ?_)
      | (with_reducible refine LeO.bind ?_ (fun _ => ?_))
      | exact ih0 _ _ _
      | exact LeO.none _
      | refine LeO.ite ?_ ?_
      | refine LeO.bind ?_ (fun _ => ?_)
theorem mantrapref01_Has.mono : ∀ a0 a1 k, LeO (mantrapref01_Has.f k a0 a1) (mantrapref01_Has.f (k + 1) a0 a1) := by
  intro a0 a1 k
  have ih0 := mantrapref01_Has.mono_l k
  unfold mantrapref01_Has.f
  repeat' first
      | (with_reducible exact ih0 _ _ _)
      | (with_reducible exact LeO.refl _)
      | (with_reducible exact LeO.none _)
      | (with_reducible refine LeO.ite ?_ ?_)
      | (with_reducible refine LeO.bind ?_ (fun _ => ?_))
      | exact ih0 _ _ _
      | exact LeO.none _
      | refine LeO.ite ?_ ?_
      | refine LeO.bind ?_ (fun _ => ?_)
set_option maxHeartbeats 8000000 in
set_option maxRecDepth 100000 in
theorem mantrapref01_Has.calls (k : Nat) (a0 : ByteArray) (a1 : Int) (r : Bool) (w : World) (h : mantrapref01_Has.f k a0 a1 = some r) :
    Calls Tryz.prog 129 #[.string a0, .int .u8 a1] w fun e w' => e = .returned (.bool r) ∧ Drawn0 w w' := by
  have H : (mantrapref01_Has.l0 k a0 a1 0) = some r := h
  clear h
  have H' := Aside0.mk H
  clear H
  go_enter Tryz.func129, Tryz.ntmps129
  go_wp2
  go_loopg [5] k (fun kq v5 w' => ∃ (x5_1 : Int), v5 = .int .i64 x5_1 ∧ Aside0 (mantrapref01_Has.l0 kq a0 a1 x5_1 = some r) ∧ Aside0 (kq ≤ k) ∧ Drawn0 w w')
  case atStart => exact ⟨(0), (by first | rfl | (simp; done) | (simp [*]; done)), H', ⟨Nat.le_refl _⟩, by repeat (first | exact Drawn0.refl _ | apply Drawn0.step)⟩
  case round =>
    clear H'
    try clear c1
    try clear p2
    obtain ⟨x5_1, rfl, HA, HK1, ⟨m1, rfl⟩⟩ := hrel
    cases gk with
    | zero => exact absurd HA.out (by simp [mantrapref01_Has.l0])
    | succ k1 =>
      have H := HA.out
      clear HA
      simp only [mantrapref01_Has.l0] at H
      by_cases c3 : x5_1 < (a0.size : Int)
      · rw [if_pos c3] at H
        have c3b0 : decide (x5_1 < (a0.size : Int)) = true := decide_eq_true c3
        clear c3
        by_cases c4 : 0 ≤ x5_1
        · rw [if_pos c4] at H
          have c4b0 : decide (0 ≤ x5_1) = true := decide_eq_true c4
          clear c4
          by_cases c6 : (bt a0 x5_1) = a1
          · rw [if_pos c6] at H
            have c6b0 : ((bt a0 x5_1) == a1) = true := beq_iff_eq.mpr c6
            have c6b1 : ((bt a0 x5_1) != a1) = false := bne_eq_false_iff_eq.mpr c6
            clear c6
            obtain rfl := Option.some.inj H
            have p5 : 0 ≤ (x5_1 : Int) := of_decide_eq_true (by first | (with_reducible assumption) | assumption)
            have q5 : x5_1 < (a0.size : Int) := of_decide_eq_true (by first | (with_reducible assumption) | assumption)
            have hx5 := bt_at a0 x5_1
            replace p5 := eq_true p5
            replace q5 := eq_true q5
            go_wp2
            go_ret
            exact ⟨by first | rfl | (simp; done) | (simp [*]; done), by repeat (first | exact Drawn0.refl _ | apply Drawn0.step)⟩
          · rw [if_neg c6] at H
            have c6b0 : ((bt a0 x5_1) == a1) = false := beq_eq_false_iff_ne.mpr c6
            have c6b1 : ((bt a0 x5_1) != a1) = true := bne_iff_ne.mpr c6
            have H' := Aside0.mk H
            clear H
            have p5 : 0 ≤ (x5_1 : Int) := of_decide_eq_true (by first | (with_reducible assumption) | assumption)
            have q5 : x5_1 < (a0.size : Int) := of_decide_eq_true (by first | (with_reducible assumption) | assumption)
            have hx5 := bt_at a0 x5_1
            replace p5 := eq_true p5
            replace q5 := eq_true q5
            go_wp2
            go_roundg k1
            case measure => have := HK1.out; omega
            case rel => exact ⟨(wrap64 (x5_1 + 1)), (by first | rfl | (simp; done) | (simp [*]; done)), H', ⟨by have := HK1.out; omega⟩, by repeat (first | exact Drawn0.refl _ | apply Drawn0.step)⟩
        · rw [if_neg c4] at H
          exact absurd H (by simp)
      · rw [if_neg c3] at H
        have c3b0 : decide (x5_1 < (a0.size : Int)) = false := decide_eq_false c3
        clear c3
        obtain rfl := Option.some.inj H
        go_wp2
        go_ret
        exact ⟨by first | rfl | (simp; done) | (simp [*]; done), by repeat (first | exact Drawn0.refl _ | apply Drawn0.step)⟩

/-! ### mantrapref01_Split: function 80 -/
def mantrapref01_Split.l0 : Nat → ByteArray → ByteArray → List ByteArray → ByteArray → Int → Option (List ByteArray)
  | 0, _, _, _, _, _ => none
  | k + 1, x0, x1, x5, x6, x7 => if x7 < (x0.size : Int) then (if 0 ≤ x7 then ((mantrapref01_Has.f k x1 (bt x0 x7)).bind fun t280 => (if t280 = true then (if x5.length < 8796093022208 then (mantrapref01_Split.l0 k x0 x1 (x5 ++ [x6]) (⟨#[]⟩ : ByteArray) (wrap64 (x7 + 1))) else (none)) else (if x7 ≤ (wrap64 (x7 + 1)) then (if (wrap64 (x7 + 1)) ≤ (x0.size : Int) then (if x6.size + (x0.extract (x7 : Int).toNat ((wrap64 (x7 + 1)) : Int).toNat).size ≤ 9223372036854775807 then (mantrapref01_Split.l0 k x0 x1 x5 (x6 ++ (x0.extract (x7 : Int).toNat ((wrap64 (x7 + 1)) : Int).toNat)) (wrap64 (x7 + 1))) else (none)) else (none)) else (none)))) else (none)) else (if x5.length < 8796093022208 then (some (x5 ++ [x6])) else (none))
def mantrapref01_Split.f (k : Nat) (a0 : ByteArray) (a1 : ByteArray) : Option (List ByteArray) := mantrapref01_Split.l0 k a0 a1 ([] : List ByteArray) (⟨#[]⟩ : ByteArray) 0
theorem mantrapref01_Split.mono_l : ∀ k, (∀ y0 y1 y2 y3 y4, LeO (mantrapref01_Split.l0 k y0 y1 y2 y3 y4) (mantrapref01_Split.l0 (k + 1) y0 y1 y2 y3 y4))
  | 0 => fun _ _ _ _ _ r h => by simp [mantrapref01_Split.l0] at h
  | k + 1 => by
    have ih0 := mantrapref01_Split.mono_l k
    · intro y0 y1 y2 y3 y4
      unfold mantrapref01_Split.l0
      repeat' first
      | (with_reducible exact ih0 _ _ _ _ _)
      | (with_reducible exact mantrapref01_Has.mono _ _ _)
      | (with_reducible exact LeO.refl _)
      | (with_reducible exact LeO.none _)
      | (with_reducible refine LeO.ite ?_ ?_)
      | (with_reducible refine LeO.bind ?_ (fun _ => ?_))
      | exact ih0 _ _ _ _ _
      | exact mantrapref01_Has.mono _ _ _
      | exact LeO.none _
      | refine LeO.ite ?_ ?_
      | refine LeO.bind ?_ (fun _ => ?_)
theorem mantrapref01_Split.mono : ∀ a0 a1 k, LeO (mantrapref01_Split.f k a0 a1) (mantrapref01_Split.f (k + 1) a0 a1) := by
  intro a0 a1 k
  have ih0 := mantrapref01_Split.mono_l k
  unfold mantrapref01_Split.f
  repeat' first
      | (with_reducible exact ih0 _ _ _ _ _)
      | (with_reducible exact mantrapref01_Has.mono _ _ _)
      | (with_reducible exact LeO.refl _)
      | (with_reducible exact LeO.none _)
      | (with_reducible refine LeO.ite ?_ ?_)
      | (with_reducible refine LeO.bind ?_ (fun _ => ?_))
      | exact ih0 _ _ _ _ _
      | exact mantrapref01_Has.mono _ _ _
      | exact LeO.none _
      | refine LeO.ite ?_ ?_
      | refine LeO.bind ?_ (fun _ => ?_)
set_option maxHeartbeats 8000000 in
set_option maxRecDepth 100000 in
theorem mantrapref01_Split.calls (k : Nat) (a0 : ByteArray) (a1 : ByteArray) (r : List ByteArray) (w : World) (h : mantrapref01_Split.f k a0 a1 = some r) :
    Calls Tryz.prog 80 #[.string a0, .string a1] w fun e w' => ∃ v0_ : Value, e = .returned (v0_) ∧ Kd.R Kd.string 9 w' w.heap.size (fun _ => True) v0_ r ∧ Below w.heap.size w w' := by
  have HB := Aside0.mk (Below.refl w.heap.size w)
  have H : (mantrapref01_Split.l0 k a0 a1 ([] : List ByteArray) (⟨#[]⟩ : ByteArray) 0) = some r := h
  clear h
  have H' := Aside0.mk H
  clear H
  go_enter Tryz.func80, Tryz.ntmps80
  go_wp2
  go_loopg [5, 6, 7] k (fun kq v5 v6 v7 w' => ∃ (x5_1 : List ByteArray) (x6_1 : ByteArray) (x7_1 : Int), v6 = .string x6_1 ∧ v7 = .int .i64 x7_1 ∧ Aside0 (mantrapref01_Split.l0 kq a0 a1 x5_1 x6_1 x7_1 = some r) ∧ Aside0 (kq ≤ k) ∧ Aside0 (Kd.R Kd.string 9 w' w.heap.size (fun _ => True) v5 x5_1) ∧ Aside0 (Below w.heap.size w w'))
  case atStart => exact ⟨(([] : List ByteArray)), ((⟨#[]⟩ : ByteArray)), (0), (by first | rfl | (simp; done) | (simp [*]; done)), (by first | rfl | (simp; done) | (simp [*]; done)), H', ⟨Nat.le_refl _⟩, ⟨by first | exact Kd.R_nil _ _ _ _ _ | exact Kd.N_nil _ _ _ _ _ | exact Kd.V_nil _ _ _ _ _ | exact Kd.Q_nil _ _ _ _ _ | exact Kd.S_nil _ _ _ _ _⟩, ⟨by repeat (first | (with_reducible first | exact HB.out | apply below_alloc | apply pw_below_drewN | apply below_drew1) | exact HB.out)⟩⟩
  case round =>
    clear H'
    try clear p2
    obtain ⟨x5_1, x6_1, x7_1, rfl, rfl, HA, HK1, HO_5, HB⟩ := hrel
    cases gk with
    | zero => exact absurd HA.out (by simp [mantrapref01_Split.l0])
    | succ k1 =>
      have H := HA.out
      clear HA
      simp only [mantrapref01_Split.l0] at H
      by_cases c3 : x7_1 < (a0.size : Int)
      · rw [if_pos c3] at H
        have c3b0 : decide (x7_1 < (a0.size : Int)) = true := decide_eq_true c3
        clear c3
        by_cases c4 : 0 ≤ x7_1
        · rw [if_pos c4] at H
          have c4b0 : decide (0 ≤ x7_1) = true := decide_eq_true c4
          clear c4
          replace H := Option.bind_eq_some_iff.mp H
          obtain ⟨t280, A60, H⟩ := H
          replace H : (if t280 = true then (if x5_1.length < 8796093022208 then (mantrapref01_Split.l0 k1 a0 a1 (x5_1 ++ [x6_1]) (⟨#[]⟩ : ByteArray) (wrap64 (x7_1 + 1))) else (none)) else (if x7_1 ≤ (wrap64 (x7_1 + 1)) then (if (wrap64 (x7_1 + 1)) ≤ (a0.size : Int) then (if x6_1.size + (a0.extract (x7_1 : Int).toNat ((wrap64 (x7_1 + 1)) : Int).toNat).size ≤ 9223372036854775807 then (mantrapref01_Split.l0 k1 a0 a1 x5_1 (x6_1 ++ (a0.extract (x7_1 : Int).toNat ((wrap64 (x7_1 + 1)) : Int).toNat)) (wrap64 (x7_1 + 1))) else (none)) else (none)) else (none))) = some r := H
          have A6 := Aside0.mk A60
          clear A60
          by_cases c7 : t280 = true
          · subst c7
            have H1 : (if x5_1.length < 8796093022208 then (mantrapref01_Split.l0 k1 a0 a1 (x5_1 ++ [x6_1]) (⟨#[]⟩ : ByteArray) (wrap64 (x7_1 + 1))) else (none)) = some r := by rw [if_pos rfl] at H; exact H
            clear H
            have H := H1
            clear H1
            by_cases c8 : x5_1.length < 8796093022208
            · rw [if_pos c8] at H
              have LMc8 := Aside0.mk c8
              clear c8
              obtain ⟨y281, hy281⟩ : ∃ y_ : List ByteArray, y_ = (x5_1 ++ [x6_1]) := ⟨_, rfl⟩
              replace H : (mantrapref01_Split.l0 k1 a0 a1 y281 (⟨#[]⟩ : ByteArray) (wrap64 (x7_1 + 1))) = some r := by first | (rw [hy281]; with_reducible exact H) | (have H2_ := (Option.bind_some _ _).symm.trans H; rw [hy281]; with_reducible exact H2_) | (have H2_ := (Option.bind_some _ _).symm.trans H; with_reducible exact H2_) | with_reducible exact H | (rw [hy281]; exact H) | exact H
              have Ny281 := Aside0.mk hy281
              clear hy281
              have H' := Aside0.mk H
              clear H
              have p5 : 0 ≤ (x7_1 : Int) := of_decide_eq_true (by first | (with_reducible assumption) | assumption)
              have q5 : x7_1 < (a0.size : Int) := of_decide_eq_true (by first | (with_reducible assumption) | assumption)
              have hx5 := bt_at a0 x7_1
              replace p5 := eq_true p5
              replace q5 := eq_true q5
              go_wp2_with (first | ((with_reducible refine gate_callee (f := 129) rfl ?_); refine goesL_ (some 18) rfl rfl Tryz.func129 (by kernel_rfl) rfl #[.string a1, .int .u8 (bt a0 x7_1)] rfl (by (try simp only [List.map_toArray, List.map_cons, List.map_nil]); first | done | rfl | (simp only [List.length_drop, List.length_take]; rfl)) ?_; (with_reducible refine (mantrapref01_Has.calls k1 a1 (bt a0 x7_1) true _ A6.out).mono ?_); rintro e w' ⟨rfl, ⟨nd, rfl⟩⟩; refine ⟨_, rfl, ?_⟩) | ((with_reducible refine gate_builtin (b := .append) (xs := #[.tmp 19, .tmp 21]) rfl ?_); at_builtin; refine Kd.R_append Kd.string (w0 := w) w.heap.size rfl (.tmp 19) (.tmp 21) 48 9 (.string ⟨#[]⟩) 16 rfl Tryz.underlying48 info9 rfl (by decide) (by omega) u5 x5_1 x6_1 [.string x6_1] (fun _ => True) (fun _ => False) rfl rfl ?aP (fun _ hk => hk.elim) ?aF ?aO ?aB ?aS ?aL ?_; (case aP => exact rfl); (case aB => exact (by repeat (first | (with_reducible first | exact HB.out | apply below_alloc | apply pw_below_drewN | apply below_drew1) | exact HB.out))); (case aF => exact (fun _ _ => trivial)); (case aO => exact (by (with_reducible repeat (first | apply Kd.R_alloc | apply Kd.R_drewN | apply Kd.R_drew)); exact HO_5.out)); (case aS => exact (below_size (by repeat (first | (with_reducible first | exact HB.out | apply below_alloc | apply pw_below_drewN | apply below_drew1) | exact HB.out)))); (case aL => have := LMc8.out; omega); intro v282 w9 ho hb hg hat; rw [← Ny281.out] at ho; have n0_ := Aside0.mk (hb); have n1_ := Aside0.mk (ho); clear HB; clear HO_5; have HB := n0_; have HO283 := n1_; clear n0_ n1_; clear ho hb hg hat))
              go_roundg k1
              case measure => have := HK1.out; omega
              case rel => exact ⟨(y281), ((⟨#[]⟩ : ByteArray)), (wrap64 (x7_1 + 1)), (by first | rfl | (simp; done) | (simp [*]; done)), (by first | rfl | (simp; done) | (simp [*]; done)), H', ⟨by have := HK1.out; omega⟩, ⟨by (with_reducible repeat (first | apply Kd.R_alloc | apply Kd.R_drewN | apply Kd.R_drew)); exact HO283.out⟩, ⟨by repeat (first | (with_reducible first | exact HB.out | apply below_alloc | apply pw_below_drewN | apply below_drew1) | exact HB.out)⟩⟩
            · rw [if_neg c8] at H
              exact absurd H (by simp)
          · replace c7 := Bool.eq_false_iff.mpr c7
            subst c7
            have H1 : (if x7_1 ≤ (wrap64 (x7_1 + 1)) then (if (wrap64 (x7_1 + 1)) ≤ (a0.size : Int) then (if x6_1.size + (a0.extract (x7_1 : Int).toNat ((wrap64 (x7_1 + 1)) : Int).toNat).size ≤ 9223372036854775807 then (mantrapref01_Split.l0 k1 a0 a1 x5_1 (x6_1 ++ (a0.extract (x7_1 : Int).toNat ((wrap64 (x7_1 + 1)) : Int).toNat)) (wrap64 (x7_1 + 1))) else (none)) else (none)) else (none)) = some r := by rw [if_neg (show ¬ (false = true) by decide)] at H; exact H
            clear H
            have H := H1
            clear H1
            have c10b0 := eq_true (of_decide_eq_true (by first | (with_reducible assumption) | assumption) : 0 ≤ x7_1)
            by_cases c11 : x7_1 ≤ (wrap64 (x7_1 + 1))
            · rw [if_pos c11] at H
              have c11b0 := eq_true c11
              have c11b1 : decide (x7_1 ≤ (wrap64 (x7_1 + 1))) = true := decide_eq_true c11
              by_cases c12 : (wrap64 (x7_1 + 1)) ≤ (a0.size : Int)
              · rw [if_pos c12] at H
                have c12b0 := eq_true c12
                have c12b1 : decide ((wrap64 (x7_1 + 1)) ≤ (a0.size : Int)) = true := decide_eq_true c12
                by_cases c13 : x6_1.size + (a0.extract (x7_1 : Int).toNat ((wrap64 (x7_1 + 1)) : Int).toNat).size ≤ 9223372036854775807
                · rw [if_pos c13] at H
                  have c13b0 := eq_true c13
                  have c13b1 : decide (x6_1.size + (a0.extract (x7_1 : Int).toNat ((wrap64 (x7_1 + 1)) : Int).toNat).size ≤ 9223372036854775807) = true := decide_eq_true c13
                  try have c13b2 : (9223372036854775807 < x6_1.size + (a0.extract (x7_1 : Int).toNat ((wrap64 (x7_1 + 1)) : Int).toNat).size) = False := eq_false (Nat.not_lt.2 c13)
                  have H' := Aside0.mk H
                  clear H
                  have p5 : 0 ≤ (x7_1 : Int) := of_decide_eq_true (by first | (with_reducible assumption) | assumption)
                  have q5 : x7_1 < (a0.size : Int) := of_decide_eq_true (by first | (with_reducible assumption) | assumption)
                  have hx5 := bt_at a0 x7_1
                  replace p5 := eq_true p5
                  replace q5 := eq_true q5
                  go_wp2_with (first | ((with_reducible refine gate_callee (f := 129) rfl ?_); refine goesL_ (some 18) rfl rfl Tryz.func129 (by kernel_rfl) rfl #[.string a1, .int .u8 (bt a0 x7_1)] rfl (by (try simp only [List.map_toArray, List.map_cons, List.map_nil]); first | done | rfl | (simp only [List.length_drop, List.length_take]; rfl)) ?_; (with_reducible refine (mantrapref01_Has.calls k1 a1 (bt a0 x7_1) false _ A6.out).mono ?_); rintro e w' ⟨rfl, ⟨nd, rfl⟩⟩; refine ⟨_, rfl, ?_⟩))
                  go_roundg k1
                  case measure => have := HK1.out; omega
                  case rel => exact ⟨(x5_1), (x6_1 ++ (a0.extract (x7_1 : Int).toNat ((wrap64 (x7_1 + 1)) : Int).toNat)), (wrap64 (x7_1 + 1)), (by first | rfl | (simp; done) | (simp [*]; done)), (by first | rfl | (simp; done) | (simp [*]; done)), H', ⟨by have := HK1.out; omega⟩, ⟨by (with_reducible repeat (first | apply Kd.R_alloc | apply Kd.R_drewN | apply Kd.R_drew)); exact HO_5.out⟩, ⟨by repeat (first | (with_reducible first | exact HB.out | apply below_alloc | apply pw_below_drewN | apply below_drew1) | exact HB.out)⟩⟩
                · rw [if_neg c13] at H
                  exact absurd H (by simp)
              · rw [if_neg c12] at H
                exact absurd H (by simp)
            · rw [if_neg c11] at H
              exact absurd H (by simp)
        · rw [if_neg c4] at H
          exact absurd H (by simp)
      · rw [if_neg c3] at H
        have c3b0 : decide (x7_1 < (a0.size : Int)) = false := decide_eq_false c3
        clear c3
        by_cases c14 : x5_1.length < 8796093022208
        · rw [if_pos c14] at H
          have LMc14 := Aside0.mk c14
          clear c14
          obtain ⟨y284, hy284⟩ : ∃ y_ : List ByteArray, y_ = (x5_1 ++ [x6_1]) := ⟨_, rfl⟩
          replace H : (some y284) = some r := by first | (rw [hy284]; with_reducible exact H) | (have H2_ := (Option.bind_some _ _).symm.trans H; rw [hy284]; with_reducible exact H2_) | (have H2_ := (Option.bind_some _ _).symm.trans H; with_reducible exact H2_) | with_reducible exact H | (rw [hy284]; exact H) | exact H
          have Ny284 := Aside0.mk hy284
          clear hy284
          obtain rfl := Option.some.inj H
          go_wp2_with (first | ((with_reducible refine gate_builtin (b := .append) (xs := #[.tmp 30, .tmp 32]) rfl ?_); at_builtin; refine Kd.R_append Kd.string (w0 := w) w.heap.size rfl (.tmp 30) (.tmp 32) 48 9 (.string ⟨#[]⟩) 16 rfl Tryz.underlying48 info9 rfl (by decide) (by omega) u5 x5_1 x6_1 [.string x6_1] (fun _ => True) (fun _ => False) rfl rfl ?aP (fun _ hk => hk.elim) ?aF ?aO ?aB ?aS ?aL ?_; (case aP => exact rfl); (case aB => exact (by repeat (first | (with_reducible first | exact HB.out | apply below_alloc | apply pw_below_drewN | apply below_drew1) | exact HB.out))); (case aF => exact (fun _ _ => trivial)); (case aO => exact (by (with_reducible repeat (first | apply Kd.R_alloc | apply Kd.R_drewN | apply Kd.R_drew)); exact HO_5.out)); (case aS => exact (below_size (by repeat (first | (with_reducible first | exact HB.out | apply below_alloc | apply pw_below_drewN | apply below_drew1) | exact HB.out)))); (case aL => have := LMc14.out; omega); intro v285 w15 ho hb hg hat; rw [← Ny284.out] at ho; have n0_ := Aside0.mk (hb); have n1_ := Aside0.mk (ho); clear HB; clear HO_5; have HB := n0_; have HO286 := n1_; clear n0_ n1_; clear ho hb hg hat))
          go_ret
          exact ⟨_, by first | rfl | (simp [errW_none, errW_some] <;> rfl) | (simp [*, errW_none, errW_some] <;> rfl), by (with_reducible repeat (first | apply Kd.R_alloc | apply Kd.R_drewN | apply Kd.R_drew)); exact HO286.out, by repeat (first | (with_reducible first | exact HB.out | apply below_alloc | apply pw_below_drewN | apply below_drew1) | exact HB.out)⟩
        · rw [if_neg c14] at H
          exact absurd H (by simp)

/-! ### mantrapref16_Depth: function 28 -/
def mantrapref16_Depth.l0 : Nat → Int → List ByteArray → Int → Int → Option (Int)
  | 0, _, _, _, _ => none
  | k + 1, x3, x8, x9, x10 => if x10 < x9 then (if 0 ≤ x10 then (if x10 < (x8.length : Int) then (if (rdOf ByteArray.empty x8 x10).toList = ([] : List UInt8) then (mantrapref16_Depth.l0 k x3 x8 x9 (wrap64 (x10 + 1))) else (mantrapref16_Depth.l0 k (wrap64 (x3 + 1)) x8 x9 (wrap64 (x10 + 1)))) else (none)) else (none)) else (some x3)
def mantrapref16_Depth.f (k : Nat) (a0 : ByteArray) : Option (Int) := (mantrapref16_Remove.f k a0).bind fun t287 => ((mantrapref01_Split.f k t287 (⟨#[47]⟩ : ByteArray)).bind fun t288 => (mantrapref16_Depth.l0 k 0 t288 (t288.length : Int) 0))
theorem mantrapref16_Depth.mono_l : ∀ k, (∀ y0 y1 y2 y3, LeO (mantrapref16_Depth.l0 k y0 y1 y2 y3) (mantrapref16_Depth.l0 (k + 1) y0 y1 y2 y3))
  | 0 => fun _ _ _ _ r h => by simp [mantrapref16_Depth.l0] at h
  | k + 1 => by
    have ih0 := mantrapref16_Depth.mono_l k
    · intro y0 y1 y2 y3
      unfold mantrapref16_Depth.l0
      repeat' first
      | (with_reducible exact ih0 _ _ _ _)
      | (with_reducible exact mantrapref01_Split.mono _ _ _)
      | (with_reducible exact mantrapref16_Remove.mono _ _)
      | (with_reducible exact LeO.refl _)
      | (with_reducible exact LeO.none _)
      | (with_reducible refine LeO.ite ?_ ?_)
      | (with_reducible refine LeO.bind ?_ (fun _ => ?_))
      | exact ih0 _ _ _ _
      | exact mantrapref01_Split.mono _ _ _
      | exact mantrapref16_Remove.mono _ _
      | exact LeO.none _
      | refine LeO.ite ?_ ?_
      | refine LeO.bind ?_ (fun _ => ?_)
theorem mantrapref16_Depth.mono : ∀ a0 k, LeO (mantrapref16_Depth.f k a0) (mantrapref16_Depth.f (k + 1) a0) := by
  intro a0 k
  have ih0 := mantrapref16_Depth.mono_l k
  unfold mantrapref16_Depth.f
  repeat' first
      | (with_reducible exact ih0 _ _ _ _)
      | (with_reducible exact mantrapref01_Split.mono _ _ _)
      | (with_reducible exact mantrapref16_Remove.mono _ _)
      | (with_reducible exact LeO.refl _)
      | (with_reducible exact LeO.none _)
      | (with_reducible refine LeO.ite ?_ ?_)
      | (with_reducible refine LeO.bind ?_ (fun _ => ?_))
      | exact ih0 _ _ _ _
      | exact mantrapref01_Split.mono _ _ _
      | exact mantrapref16_Remove.mono _ _
      | exact LeO.none _
      | refine LeO.ite ?_ ?_
      | refine LeO.bind ?_ (fun _ => ?_)
set_option maxHeartbeats 8000000 in
set_option maxRecDepth 100000 in
theorem mantrapref16_Depth.calls (k : Nat) (a0 : ByteArray) (r : Int) (w : World) (h : mantrapref16_Depth.f k a0 = some r) :
    Calls Tryz.prog 28 #[.string a0] w fun e w' => e = .returned (.int .i64 r) ∧ Below w.heap.size w w' := by
  have HB := Aside0.mk (Below.refl w.heap.size w)
  have H : ((mantrapref16_Remove.f k a0).bind fun t287 => ((mantrapref01_Split.f k t287 (⟨#[47]⟩ : ByteArray)).bind fun t288 => (mantrapref16_Depth.l0 k 0 t288 (t288.length : Int) 0))) = some r := h
  clear h
  replace H := Option.bind_eq_some_iff.mp H
  obtain ⟨t287, A20, H⟩ := H
  replace H : ((mantrapref01_Split.f k t287 (⟨#[47]⟩ : ByteArray)).bind fun t288 => (mantrapref16_Depth.l0 k 0 t288 (t288.length : Int) 0)) = some r := H
  have A2 := Aside0.mk A20
  clear A20
  replace H := Option.bind_eq_some_iff.mp H
  obtain ⟨t288, A30, H⟩ := H
  replace H : (mantrapref16_Depth.l0 k 0 t288 (t288.length : Int) 0) = some r := H
  have A3 := Aside0.mk A30
  clear A30
  have H' := Aside0.mk H
  clear H
  go_enter Tryz.func28, Tryz.ntmps28
  go_wp2_with (first | ((with_reducible refine gate_callee (f := 27) rfl ?_); refine goesL_ (some 7) rfl rfl Tryz.func27 (by kernel_rfl) rfl #[.string a0] rfl (by (try simp only [List.map_toArray, List.map_cons, List.map_nil]); first | done | rfl | (simp only [List.length_drop, List.length_take]; rfl)) ?_; (with_reducible refine (mantrapref16_Remove.calls k a0 t287 _ A2.out).mono ?_); rintro e w4 ⟨rfl, hb⟩; refine ⟨_, rfl, ?_⟩; have n0_ := Aside0.mk (below_step (by repeat (first | (with_reducible first | exact HB.out | apply below_alloc | apply pw_below_drewN | apply below_drew1) | exact HB.out)) hb); clear HB; have HB := n0_; clear n0_; (try clear hb); (try clear hb2); (try clear hk); (try clear hi)) | ((with_reducible refine gate_callee (f := 80) rfl ?_); refine goesL_ (some 8) rfl rfl Tryz.func80 (by kernel_rfl) rfl #[.string t287, .string (⟨#[47]⟩ : ByteArray)] rfl (by (try simp only [List.map_toArray, List.map_cons, List.map_nil]); first | done | rfl | (simp only [List.length_drop, List.length_take]; rfl)) ?_; (with_reducible refine (mantrapref01_Split.calls k t287 (⟨#[47]⟩ : ByteArray) t288 _ A3.out).mono ?_); rintro e w5 ⟨v289, rfl, ho0, hb⟩; refine ⟨_, rfl, ?_⟩; have n0_ := Aside0.mk (Kd.R_lower ho0 (below_size (by repeat (first | (with_reducible first | exact HB.out | apply below_alloc | apply pw_below_drewN | apply below_drew1) | exact HB.out)))); have n1_ := Aside0.mk (below_step (by repeat (first | (with_reducible first | exact HB.out | apply below_alloc | apply pw_below_drewN | apply below_drew1) | exact HB.out)) hb); clear HB; have HO290 := n0_; have HB := n1_; clear n0_ n1_; (try clear hb); (try clear hb2); (try clear hk); (try clear hi); (try clear ho0); obtain ⟨Ao6, co6, eo6⟩ := Kd.R_slice HO290.out; subst eo6))
  go_loopg [3, 10] k (fun kq v3 v10 w' => ∃ (x3_1 : Int) (x10_1 : Int), v3 = .int .i64 x3_1 ∧ v10 = .int .i64 x10_1 ∧ Aside0 (mantrapref16_Depth.l0 kq x3_1 t288 (t288.length : Int) x10_1 = some r) ∧ Aside0 (kq ≤ k) ∧ Aside0 (Kd.R Kd.string 9 w' w.heap.size (fun _ => True) (.slice Ao6 t288.length co6) t288) ∧ Aside0 (Below w.heap.size w w'))
  case atStart => exact ⟨(0), (0), (by first | rfl | (simp; done) | (simp [*]; done)), (by first | rfl | (simp; done) | (simp [*]; done)), H', ⟨Nat.le_refl _⟩, ⟨by (with_reducible repeat (first | apply Kd.R_alloc | apply Kd.R_drewN | apply Kd.R_drew)); exact HO290.out⟩, ⟨by repeat (first | (with_reducible first | exact HB.out | apply below_alloc | apply pw_below_drewN | apply below_drew1) | exact HB.out)⟩⟩
  case round =>
    clear H'
    try clear c2
    try clear p2
    obtain ⟨x3_1, x10_1, rfl, rfl, HA, HK1, HO_8, HB⟩ := hrel
    cases gk with
    | zero => exact absurd HA.out (by simp [mantrapref16_Depth.l0])
    | succ k1 =>
      have H := HA.out
      clear HA
      simp only [mantrapref16_Depth.l0] at H
      by_cases c7 : x10_1 < (t288.length : Int)
      · rw [if_pos c7] at H
        have c7b0 : decide (x10_1 < (t288.length : Int)) = true := decide_eq_true c7
        clear c7
        by_cases c8 : 0 ≤ x10_1
        · rw [if_pos c8] at H
          have c8b0 : decide (0 ≤ x10_1) = true := decide_eq_true c8
          clear c8
          by_cases c9 : x10_1 < (t288.length : Int)
          · rw [if_pos c9] at H
            have c9b0 : decide (x10_1 < (t288.length : Int)) = true := decide_eq_true c9
            clear c9
            by_cases c10 : (rdOf ByteArray.empty t288 x10_1).toList = ([] : List UInt8)
            · rw [if_pos c10] at H
              have c10b0 : ((rdOf ByteArray.empty t288 x10_1).toList == ([] : List UInt8)) = true := beq_iff_eq.mpr c10
              have c10b1 : ((rdOf ByteArray.empty t288 x10_1).toList != ([] : List UInt8)) = false := bne_eq_false_iff_eq.mpr c10
              clear c10
              have H' := Aside0.mk H
              clear H
              have p291 : 0 ≤ (x10_1 : Int) := of_decide_eq_true (by first | (with_reducible assumption) | assumption)
              have q291 : x10_1 < (t288.length : Int) := of_decide_eq_true (by first | (with_reducible assumption) | assumption)
              obtain ⟨ad291, e291, hx291_0⟩ := Kd.at_string (Kd.R_reads' HO_8.out).2.2 x10_1 p291 q291
              cases e291
              replace p291 := eq_true p291
              replace q291 := eq_true q291
              go_wp2
              go_roundg k1
              case measure => have := HK1.out; omega
              case rel => exact ⟨(x3_1), (wrap64 (x10_1 + 1)), (by first | rfl | (simp; done) | (simp [*]; done)), (by first | rfl | (simp; done) | (simp [*]; done)), H', ⟨by have := HK1.out; omega⟩, ⟨by (with_reducible repeat (first | apply Kd.R_alloc | apply Kd.R_drewN | apply Kd.R_drew)); exact HO_8.out⟩, ⟨by repeat (first | (with_reducible first | exact HB.out | apply below_alloc | apply pw_below_drewN | apply below_drew1) | exact HB.out)⟩⟩
            · rw [if_neg c10] at H
              have c10b0 : ((rdOf ByteArray.empty t288 x10_1).toList == ([] : List UInt8)) = false := beq_eq_false_iff_ne.mpr c10
              have c10b1 : ((rdOf ByteArray.empty t288 x10_1).toList != ([] : List UInt8)) = true := bne_iff_ne.mpr c10
              have H' := Aside0.mk H
              clear H
              have p291 : 0 ≤ (x10_1 : Int) := of_decide_eq_true (by first | (with_reducible assumption) | assumption)
              have q291 : x10_1 < (t288.length : Int) := of_decide_eq_true (by first | (with_reducible assumption) | assumption)
              obtain ⟨ad291, e291, hx291_0⟩ := Kd.at_string (Kd.R_reads' HO_8.out).2.2 x10_1 p291 q291
              cases e291
              replace p291 := eq_true p291
              replace q291 := eq_true q291
              go_wp2
              go_roundg k1
              case measure => have := HK1.out; omega
              case rel => exact ⟨(wrap64 (x3_1 + 1)), (wrap64 (x10_1 + 1)), (by first | rfl | (simp; done) | (simp [*]; done)), (by first | rfl | (simp; done) | (simp [*]; done)), H', ⟨by have := HK1.out; omega⟩, ⟨by (with_reducible repeat (first | apply Kd.R_alloc | apply Kd.R_drewN | apply Kd.R_drew)); exact HO_8.out⟩, ⟨by repeat (first | (with_reducible first | exact HB.out | apply below_alloc | apply pw_below_drewN | apply below_drew1) | exact HB.out)⟩⟩
          · rw [if_neg c9] at H
            exact absurd H (by simp)
        · rw [if_neg c8] at H
          exact absurd H (by simp)
      · rw [if_neg c7] at H
        have c7b0 : decide (x10_1 < (t288.length : Int)) = false := decide_eq_false c7
        clear c7
        obtain rfl := Option.some.inj H
        go_wp2
        go_ret
        exact ⟨by first | rfl | (simp [errW_none, errW_some] <;> rfl) | (simp [*, errW_none, errW_some] <;> rfl), by repeat (first | (with_reducible first | exact HB.out | apply below_alloc | apply pw_below_drewN | apply below_drew1) | exact HB.out)⟩

/-! ### mantrapref16_Merge: function 30 -/
mutual
def mantrapref16_Merge.j0 : Nat → ByteArray → ByteArray → Bool → Option (ByteArray)
  | 0, _, _, _ => none
  | k + 1, x0, x2, x13 => if x13 = true then (if 1 + x2.size ≤ 9223372036854775807 then (some ((⟨#[47]⟩ : ByteArray) ++ x2)) else (none)) else (mantrapref16_Merge.l0 k x0 x2 0 0)
def mantrapref16_Merge.l0 : Nat → ByteArray → ByteArray → Int → Int → Option (ByteArray)
  | 0, _, _, _, _ => none
  | k + 1, x0, x2, x7, x8 => if x8 < (x0.size : Int) then (if 0 ≤ x8 then (if (bt x0 x8) = 47 then (mantrapref16_Merge.l0 k x0 x2 (wrap64 (x8 + 1)) (wrap64 (x8 + 1))) else (mantrapref16_Merge.l0 k x0 x2 x7 (wrap64 (x8 + 1)))) else (none)) else (if 0 ≤ x7 then (if x7 ≤ (x0.size : Int) then (if (x0.extract 0 (x7 : Int).toNat).size + x2.size ≤ 9223372036854775807 then (some ((x0.extract 0 (x7 : Int).toNat) ++ x2)) else (none)) else (none)) else (none))
end
def mantrapref16_Merge.f (k : Nat) (a0 : ByteArray) (a1 : Bool) (a2 : ByteArray) : Option (ByteArray) := if a0.toList = ([] : List UInt8) then (mantrapref16_Merge.j0 k a0 a2 a1) else (mantrapref16_Merge.j0 k a0 a2 false)
theorem mantrapref16_Merge.mono_l : ∀ k, (∀ y0 y1 y2, LeO (mantrapref16_Merge.j0 k y0 y1 y2) (mantrapref16_Merge.j0 (k + 1) y0 y1 y2)) ∧ (∀ y0 y1 y2 y3, LeO (mantrapref16_Merge.l0 k y0 y1 y2 y3) (mantrapref16_Merge.l0 (k + 1) y0 y1 y2 y3))
  | 0 => ⟨fun _ _ _ r h => by simp [mantrapref16_Merge.j0] at h, fun _ _ _ _ r h => by simp [mantrapref16_Merge.l0] at h⟩
  | k + 1 => by
    obtain ⟨ih0, ih1⟩ := mantrapref16_Merge.mono_l k
    refine ⟨?_, ?_⟩
    · intro y0 y1 y2
      unfold mantrapref16_Merge.j0
      repeat' first
      | (with_reducible exact ih0 _ _ _)
      | (with_reducible exact ih1 _ _ _ _)
      | (with_reducible exact LeO.refl _)
      | (with_reducible exact LeO.none _)
      | (with_reducible refine LeO.ite ?_ ?_)
      | (with_reducible refine LeO.bind ?_ (fun _ => ?_))
      | exact ih0 _ _ _
      | exact ih1 _ _ _ _
      | exact LeO.none _
      | refine LeO.ite ?_ ?_
      | refine LeO.bind ?_ (fun _ => ?_)
    · intro y0 y1 y2 y3
      unfold mantrapref16_Merge.l0
      repeat' first
      | (with_reducible exact ih0 _ _ _)
      | (with_reducible exact ih1 _ _ _ _)
      | (with_reducible exact LeO.refl _)
      | (with_reducible exact LeO.none _)
      | (with_reducible refine LeO.ite ?_ ?_)
      | (with_reducible refine LeO.bind ?_ (fun _ => ?_))
      | exact ih0 _ _ _
      | exact ih1 _ _ _ _
      | exact LeO.none _
      | refine LeO.ite ?_ ?_
      | refine LeO.bind ?_ (fun _ => ?_)
theorem mantrapref16_Merge.mono : ∀ a0 a1 a2 k, LeO (mantrapref16_Merge.f k a0 a1 a2) (mantrapref16_Merge.f (k + 1) a0 a1 a2) := by
  intro a0 a1 a2 k
  obtain ⟨ih0, ih1⟩ := mantrapref16_Merge.mono_l k
  unfold mantrapref16_Merge.f
  repeat' first
      | (with_reducible exact ih0 _ _ _)
      | (with_reducible exact ih1 _ _ _ _)
      | (with_reducible exact LeO.refl _)
      | (with_reducible exact LeO.none _)
      | (with_reducible refine LeO.ite ?_ ?_)
      | (with_reducible refine LeO.bind ?_ (fun _ => ?_))
      | exact ih0 _ _ _
      | exact ih1 _ _ _ _
      | exact LeO.none _
      | refine LeO.ite ?_ ?_
      | refine LeO.bind ?_ (fun _ => ?_)
set_option maxHeartbeats 8000000 in
set_option maxRecDepth 100000 in
theorem mantrapref16_Merge.calls (k : Nat) (a0 : ByteArray) (a1 : Bool) (a2 : ByteArray) (r : ByteArray) (w : World) (h : mantrapref16_Merge.f k a0 a1 a2 = some r) :
    Calls Tryz.prog 30 #[.string a0, .bool a1, .string a2] w fun e w' => e = .returned (.string r) ∧ Drawn0 w w' := by
  have H : (if a0.toList = ([] : List UInt8) then (mantrapref16_Merge.j0 k a0 a2 a1) else (mantrapref16_Merge.j0 k a0 a2 false)) = some r := h
  clear h
  have HC4 := Aside0.mk H
  clear H
  go_enter Tryz.func30, Tryz.ntmps30
  go_upto_region 1 with (fail)
  go_cut [13] (fun v13 wc => ∃ (kq : Nat) (x13_3 : Bool), v13 = .bool x13_3 ∧ Aside0 (mantrapref16_Merge.j0 kq a0 a2 x13_3 = some r) ∧ Aside0 (kq ≤ k) ∧ Drawn0 w wc)
  case first =>
    have H := HC4.out
    clear HC4
    by_cases c5 : a0.toList = ([] : List UInt8)
    · rw [if_pos c5] at H
      have c5b0 : (a0.toList == ([] : List UInt8)) = true := beq_iff_eq.mpr c5
      have c5b1 : (a0.toList != ([] : List UInt8)) = false := bne_eq_false_iff_eq.mpr c5
      clear c5
      (first | rw [c5b0] | (simp only [i64_w, i32_w]; rw [c5b0]) | skip)
      have H' := Aside0.mk H
      clear H
      go_wp2
      go_meet
      case rel => exact ⟨_, (a1), (by first | rfl | (simp; done) | (simp [*]; done)), H', ⟨by first | omega | exact Nat.le_refl _⟩, by repeat (first | exact Drawn0.refl _ | apply Drawn0.step)⟩
    · rw [if_neg c5] at H
      have c5b0 : (a0.toList == ([] : List UInt8)) = false := beq_eq_false_iff_ne.mpr c5
      have c5b1 : (a0.toList != ([] : List UInt8)) = true := bne_iff_ne.mpr c5
      (first | rw [c5b0] | (simp only [i64_w, i32_w]; rw [c5b0]) | skip)
      have H' := Aside0.mk H
      clear H
      go_wp2
      go_meet
      case rel => exact ⟨_, (false), (by first | rfl | (simp; done) | (simp [*]; done)), H', ⟨by first | omega | exact Nat.le_refl _⟩, by repeat (first | exact Drawn0.refl _ | apply Drawn0.step)⟩
  case rest =>
    clear HC4
    try clear p2
    try clear c3
    try clear c5
    try clear c5b0
    try clear c5b1
    obtain ⟨kq, x13_3, rfl, HA, HJ3, ⟨mc3, rfl⟩⟩ := hcut
    cases kq with
    | zero => exact absurd HA.out (by simp [mantrapref16_Merge.j0])
    | succ kj3 =>
      have H := HA.out
      clear HA
      simp only [mantrapref16_Merge.j0] at H
      by_cases c6 : x13_3 = true
      · subst c6
        have H1 : (if 1 + a2.size ≤ 9223372036854775807 then (some ((⟨#[47]⟩ : ByteArray) ++ a2)) else (none)) = some r := by rw [if_pos rfl] at H; exact H
        clear H
        have H := H1
        clear H1
        by_cases c7 : 1 + a2.size ≤ 9223372036854775807
        · rw [if_pos c7] at H
          have c7b0 := eq_true c7
          have c7b1 : decide (1 + a2.size ≤ 9223372036854775807) = true := decide_eq_true c7
          try have c7b2 : (9223372036854775807 < 1 + a2.size) = False := eq_false (Nat.not_lt.2 c7)
          obtain rfl := Option.some.inj H
          go_wp2
          go_ret
          exact ⟨by first | rfl | (simp; done) | (simp [*]; done), by repeat (first | exact Drawn0.refl _ | apply Drawn0.step)⟩
        · rw [if_neg c7] at H
          exact absurd H (by simp)
      · replace c6 := Bool.eq_false_iff.mpr c6
        subst c6
        have H1 : (mantrapref16_Merge.l0 kj3 a0 a2 0 0) = some r := by rw [if_neg (show ¬ (false = true) by decide)] at H; exact H
        clear H
        have H := H1
        clear H1
        have H' := Aside0.mk H
        clear H
        go_wp2
        go_loopg [7, 8] kj3 (fun kq v7 v8 w' => ∃ (x7_2 : Int) (x8_2 : Int), v7 = .int .i64 x7_2 ∧ v8 = .int .i64 x8_2 ∧ Aside0 (mantrapref16_Merge.l0 kq a0 a2 x7_2 x8_2 = some r) ∧ Aside0 (kq ≤ kj3) ∧ Drawn0 w w')
        case atStart => exact ⟨(0), (0), (by first | rfl | (simp; done) | (simp [*]; done)), (by first | rfl | (simp; done) | (simp [*]; done)), H', ⟨Nat.le_refl _⟩, by repeat (first | exact Drawn0.refl _ | apply Drawn0.step)⟩
        case round =>
          clear H'
          try clear p2
          try clear c3
          try clear c5
          try clear c5b0
          try clear c5b1
          try clear c6
          try clear c7
          try clear c7b0
          try clear c7b1
          try clear c7b2
          try clear p2
          obtain ⟨x7_2, x8_2, rfl, rfl, HA, HK2, ⟨m2, rfl⟩⟩ := hrel
          cases gk with
          | zero => exact absurd HA.out (by simp [mantrapref16_Merge.l0])
          | succ k2 =>
            have H := HA.out
            clear HA
            simp only [mantrapref16_Merge.l0] at H
            by_cases c8 : x8_2 < (a0.size : Int)
            · rw [if_pos c8] at H
              have c8b0 : decide (x8_2 < (a0.size : Int)) = true := decide_eq_true c8
              clear c8
              by_cases c9 : 0 ≤ x8_2
              · rw [if_pos c9] at H
                have c9b0 : decide (0 ≤ x8_2) = true := decide_eq_true c9
                clear c9
                by_cases c11 : (bt a0 x8_2) = 47
                · rw [if_pos c11] at H
                  have c11b0 : ((bt a0 x8_2) == 47) = true := beq_iff_eq.mpr c11
                  have c11b1 : ((bt a0 x8_2) != 47) = false := bne_eq_false_iff_eq.mpr c11
                  clear c11
                  have H' := Aside0.mk H
                  clear H
                  have p10 : 0 ≤ (x8_2 : Int) := of_decide_eq_true (by first | (with_reducible assumption) | assumption)
                  have q10 : x8_2 < (a0.size : Int) := of_decide_eq_true (by first | (with_reducible assumption) | assumption)
                  have hx10 := bt_at a0 x8_2
                  replace p10 := eq_true p10
                  replace q10 := eq_true q10
                  go_wp2
                  go_roundg k2
                  case measure => have := HJ3.out; have := HK2.out; omega
                  case rel => exact ⟨(wrap64 (x8_2 + 1)), (wrap64 (x8_2 + 1)), (by first | rfl | (simp; done) | (simp [*]; done)), (by first | rfl | (simp; done) | (simp [*]; done)), H', ⟨by have := HJ3.out; have := HK2.out; omega⟩, by repeat (first | exact Drawn0.refl _ | apply Drawn0.step)⟩
                · rw [if_neg c11] at H
                  have c11b0 : ((bt a0 x8_2) == 47) = false := beq_eq_false_iff_ne.mpr c11
                  have c11b1 : ((bt a0 x8_2) != 47) = true := bne_iff_ne.mpr c11
                  have H' := Aside0.mk H
                  clear H
                  have p10 : 0 ≤ (x8_2 : Int) := of_decide_eq_true (by first | (with_reducible assumption) | assumption)
                  have q10 : x8_2 < (a0.size : Int) := of_decide_eq_true (by first | (with_reducible assumption) | assumption)
                  have hx10 := bt_at a0 x8_2
                  replace p10 := eq_true p10
                  replace q10 := eq_true q10
                  go_wp2
                  go_roundg k2
                  case measure => have := HJ3.out; have := HK2.out; omega
                  case rel => exact ⟨(x7_2), (wrap64 (x8_2 + 1)), (by first | rfl | (simp; done) | (simp [*]; done)), (by first | rfl | (simp; done) | (simp [*]; done)), H', ⟨by have := HJ3.out; have := HK2.out; omega⟩, by repeat (first | exact Drawn0.refl _ | apply Drawn0.step)⟩
              · rw [if_neg c9] at H
                exact absurd H (by simp)
            · rw [if_neg c8] at H
              have c8b0 : decide (x8_2 < (a0.size : Int)) = false := decide_eq_false c8
              clear c8
              by_cases c12 : 0 ≤ x7_2
              · rw [if_pos c12] at H
                have c12b0 := eq_true c12
                have c12b1 : decide (0 ≤ x7_2) = true := decide_eq_true c12
                clear c12
                by_cases c13 : x7_2 ≤ (a0.size : Int)
                · rw [if_pos c13] at H
                  have c13b0 := eq_true c13
                  have c13b1 : decide (x7_2 ≤ (a0.size : Int)) = true := decide_eq_true c13
                  clear c13
                  by_cases c14 : (a0.extract 0 (x7_2 : Int).toNat).size + a2.size ≤ 9223372036854775807
                  · rw [if_pos c14] at H
                    have c14b0 := eq_true c14
                    have c14b1 : decide ((a0.extract 0 (x7_2 : Int).toNat).size + a2.size ≤ 9223372036854775807) = true := decide_eq_true c14
                    try have c14b2 : (9223372036854775807 < (a0.extract 0 (x7_2 : Int).toNat).size + a2.size) = False := eq_false (Nat.not_lt.2 c14)
                    obtain rfl := Option.some.inj H
                    go_wp2
                    go_ret
                    exact ⟨by first | rfl | (simp; done) | (simp [*]; done), by repeat (first | exact Drawn0.refl _ | apply Drawn0.step)⟩
                  · rw [if_neg c14] at H
                    exact absurd H (by simp)
                · rw [if_neg c13] at H
                  exact absurd H (by simp)
              · rw [if_neg c12] at H
                exact absurd H (by simp)

end Go.Proofs.YtakdjflhhaefiaaGreatDoor.PDotsGo
