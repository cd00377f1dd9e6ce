/- strconv.ErrRange is some error: from the row's laid variables. -/
import Derived.Test.YtakdjflhhaefiaaGreatDoorXL
import Derived.Test.YtakdjflhhaefiaaGreatDoorAA
set_option linter.unusedVariables false
namespace Go.Proofs.YtakdjflhhaefiaaGreatDoor
open Go.RowKit
set_option maxRecDepth 100000 in
theorem trod_iface {W : World} {fuel : Nat} {cs : List Value} {n : String} {d : DataW Unit} {p : List MemPlace} (h : DataW.trod (fun _ => ()) Tryz.prog W 0 (fun _ => true) false fuel 97 cs = some (.iface n d, p)) : ∃ u v, cs = [.iface u v] := by
  cases fuel with
  | zero => simp [DataW.trod] at h
  | succ fuel =>
    rcases cs with _ | ⟨v, _ | ⟨b, r⟩⟩
    · simp [DataW.trod, Tryz.underlying97] at h
    · cases v
      case iface u v => exact ⟨u, v, rfl⟩
      all_goals (simp [DataW.trod, Tryz.underlying97] at h)
    · simp [DataW.trod, Tryz.underlying97] at h
theorem er_of_laid {W : World} (h : laidMetH Tryz.prog Rows.dotsClimbRow.laid W) : ∃ ev, W.cell? ⟨4, 0, none⟩ = some ev ∧ (ev = .nilIface ∨ ∃ te pe, ev = .iface te pe) := by
  have h1 := laidMetH.filter (fun x => x.1 == "strconv.ErrRange") h
  have h2 : laidMetH Tryz.prog [("strconv.ErrRange", Rows.laid_strconv_ErrRange)] W := h1
  have h3 : laidMet Tryz.prog [("strconv.ErrRange", Rows.laid_strconv_ErrRange)] W := h2
  obtain ⟨ps, ⟨g, t, cs, fuel, p, q, hg, ht, hcs, htr, -, -⟩, -, -⟩ := h3
  have hg4 : Tryz.prog.globalNamed "strconv.ErrRange" = some 4 := by kernel_rfl
  rw [hg4] at hg
  obtain rfl : 4 = g := Option.some.inj hg
  have ht97 : (Tryz.prog.globals[4]?).map (·.type) = some 97 := by kernel_rfl
  rw [ht97] at ht
  obtain rfl : 97 = t := Option.some.inj ht
  obtain ⟨u, v, he⟩ := trod_iface htr
  have hcs2 : cs = #[.iface u v] := by rw [← he]
  subst hcs2
  refine ⟨.iface u v, ?_, .inr ⟨u, v, rfl⟩⟩
  have h4 := World.var?_cell hg4 hcs 0
  simpa using h4
end Go.Proofs.YtakdjflhhaefiaaGreatDoor
