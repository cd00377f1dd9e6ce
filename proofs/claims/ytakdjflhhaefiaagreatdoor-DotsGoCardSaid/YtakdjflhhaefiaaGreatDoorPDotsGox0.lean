-- PRINTED BY print.sh 35421559b90ae4d0a3588c463048766b98c2df88dd9212a6774a882060cdf62d: not written by this session
import Derived.Test.YtakdjflhhaefiaaGreatDoorProg
import Derived.Below
import Derived.Deep.Draws
import Derived.Deep.AppendLies
import Derived.Maps.AppendAt
import Derived.OwnWalk
import Derived.Laws.BytesArg
import Derived.Laws.MakeOwn
import Derived.Laws.OwnMore
import Derived.Deep.OwnRows
import Derived.Tactics
import Derived.Lib.ConvBytes
import Derived.Laws.Slices
import Derived.WalkKit
import Derived.KernelRfl
import Derived.RowKit3
import Derived.Deep.LoopGhost
import Derived.Deep.QuietTactic
import Derived.BigQuiet
import Derived.WideLaws
import Derived.Deep.DeepCutAuto
import Derived.Deep.CutBlock
import Derived.Deep.RegionHeld3
import Derived.Laws.Rows
import Derived.Lib.AppendStr
import Derived.ArgAppend
import Derived.Laws.IdiomCopy
import Derived.OrdersHeld
import Derived.Laws.BitsLemmas
import Derived.RowKit
import Derived.Test.YtakdjflhhaefiaaGreatDoorWWords
import Derived.Test.YtakdjflhhaefiaaGreatDoorWLast
import Derived.Test.YtakdjflhhaefiaaGreatDoorWTab
import Derived.Test.YtakdjflhhaefiaaGreatDoorWFour
import Derived.Test.YtakdjflhhaefiaaGreatDoorWQPut
import Derived.Test.YtakdjflhhaefiaaGreatDoorWApart
import Derived.Test.YtakdjflhhaefiaaGreatDoorWArr
import Derived.Test.YtakdjflhhaefiaaGreatDoorWZeros
import Derived.Test.YtakdjflhhaefiaaGreatDoorWFoot
import Derived.Test.YtakdjflhhaefiaaGreatDoorWKept
import Derived.Test.YtakdjflhhaefiaaGreatDoorWShare
import Derived.Test.YtakdjflhhaefiaaGreatDoorWN
import Derived.Test.YtakdjflhhaefiaaGreatDoorWFootNe
import Derived.Test.YtakdjflhhaefiaaGreatDoorWAt
import Derived.Test.YtakdjflhhaefiaaGreatDoorWEqStruct
import Derived.Test.YtakdjflhhaefiaaGreatDoorWRepsOne
import Derived.Test.YtakdjflhhaefiaaGreatDoorWInv
import Derived.Test.YtakdjflhhaefiaaGreatDoorWInvWords
import Derived.Test.YtakdjflhhaefiaaGreatDoorWGuard
import Derived.Test.YtakdjflhhaefiaaGreatDoorWNEv
import Derived.Test.YtakdjflhhaefiaaGreatDoorWMore
namespace Go.Proofs.YtakdjflhhaefiaaGreatDoor.PDotsGo
open Go.RowKit Go.Proofs.YtakdjflhhaefiaaGreatDoorW.PrintWords Go.Proofs.YtakdjflhhaefiaaGreatDoorW.PrintLast Go.Proofs.YtakdjflhhaefiaaGreatDoorW.PrintMore
attribute [local go_sem] max2_int min2_int max_two min_two max_three min_three max_four min_four   -- for this text's walks alone
set_option linter.unusedVariables false
set_option linter.unusedSimpArgs false



def errW : Option Int → Value
  | none => .nilIface
  | some c => .iface 242 (.int .i64 c)
theorem errW_none : errW none = .nilIface := rfl
theorem errW_some (c : Int) : errW (some c) = .iface 242 (.int .i64 c) := rfl

theorem info5 : (Tryz.prog.info? 5).map (fun i => (i.zero, i.size, i.bytes)) = some (some (.int .u8 0), 1, 1) := by kernel_rfl
theorem info9 : (Tryz.prog.info? 9).map (fun i => (i.zero, i.size, i.bytes)) = some (some (.string ⟨#[]⟩), 1, 16) := by kernel_rfl
theorem info262 : (Tryz.prog.info? 262).map (fun i => (i.zero, i.size, i.bytes)) = some (some (.agg #[(.string ⟨#[]⟩), (.string ⟨#[]⟩)]), 2, 32) := by kernel_rfl
-- the values' own types
/-! #### struct type 262 -/
structure S262 where
  f0 : ByteArray
  f1 : ByteArray
def z262 : S262 := ⟨(⟨#[]⟩ : ByteArray), (⟨#[]⟩ : ByteArray)⟩
def k262 : Kd S262 := Kd.iso (Kd.pair Kd.string Kd.string) (fun x : S262 => (x.f0, x.f1))
theorem k262_open {w : World} {x : S262} {cs : List Value} (h : k262.K w x cs) : cs = [.string x.f0, .string x.f1] := by
  obtain ⟨_, _, rfl, rfl, rfl⟩ := h
  exact rfl
theorem k262_openM {w : World} {base : Nat} {ok : Nat → Prop} {x : S262} {cs : List Value} (h : k262.M w base ok x cs) : cs = [.string x.f0, .string x.f1] := by
  obtain ⟨_, _, rfl, rfl, rfl⟩ := h
  exact rfl
theorem k262_mk (w : World) (x : S262)  : k262.K w x [.string x.f0, .string x.f1] := ⟨[.string x.f0], [.string x.f1], rfl, rfl, rfl⟩
theorem k262_mkM (w : World) (base : Nat) (ok : Nat → Prop) (x : S262)  : k262.M w base ok x [.string x.f0, .string x.f1] := ⟨[.string x.f0], [.string x.f1], rfl, rfl, rfl⟩
def rd_T262 (xs : List S262) (i : Int) : S262 := xs.getD i.toNat z262
theorem at_T262 {w : World} {A : Option Addr} {n : Nat} {xs : List S262} (h : Kd.C k262 w A n xs) (i : Int) (h0 : 0 ≤ i) (h1 : i < n) : ∃ ad , A = some ad ∧ w.cell? (ad.add (i.toNat * 2)) = some (.string (rd_T262 xs i).f0) ∧ w.cell? ⟨(ad.add (i.toNat * 2)).block, (ad.add (i.toNat * 2)).off + 1, none⟩ = some (.string (rd_T262 xs i).f1) := by
  obtain ⟨ad, c, e, _, hK, hc0⟩ := Kd.C_get h z262 i h0 h1
  have hc : ∀ j u, c[j]? = some u → w.cell? (ad.add (i.toNat * 2 + j)) = some u := hc0
  obtain rfl := k262_open hK
  exact ⟨ad, e, hc 0 _ rfl, by rw [← add_field _ _ 1 (by omega)]; exact hc 1 _ rfl⟩

end Go.Proofs.YtakdjflhhaefiaaGreatDoor.PDotsGo
