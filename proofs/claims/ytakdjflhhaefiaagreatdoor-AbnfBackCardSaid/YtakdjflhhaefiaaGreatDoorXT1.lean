/- KNOWN CALLS, 1: the lower layers' own examples. -/
import Derived.Test.YtakdjflhhaefiaaGreatDoorXS
namespace Go.Proofs.YtakdjflhhaefiaaGreatDoor
open Go.Xc
theorem glob_ro : ∀ k o, glob.m.get k = some o → ∃ cs, o = .ro cs := by
  intro k o h
  have h' : (((NM.leaf : NM AObj).set 5 (.ro tab10)).set 7 (.ro tab64)).get k = some o := h
  rw [NM.get_set _ _ _ _ (by decide), NM.get_set _ _ _ _ (by decide)] at h'
  split at h'
  · cases h'; exact ⟨_, rfl⟩
  · split at h'
    · cases h'; exact ⟨_, rfl⟩
    · rw [NM.get_leaf] at h'; cases h'
abbrev Kept (T : Tab) : Prop := T.Ok XC glob
theorem kept {T : Tab} (hT : Kept T) (f : Nat) (args : List Value) (v : Value) (fuel : Nat) (h : arun (XC.with T) fuel glob f args = some v) : Kept ((f, .plain args v) :: T) :=
  Tab.Ok.cons (Tab.Ok.plain XC_ok glob_ro hT h) hT
theorem keptM {T : Tab} (hT : Kept T) (f : Nat) (args : List Value) (H : AH) (v : Value) (H' : AH) (fuel : Nat) (h : acallB (XC.with T) (acode (XC.with T) fuel) f args H = some (v, H')) : Kept ((f, .mem args H v H') :: T) :=
  Tab.Ok.cons (Tab.Ok.mem XC_ok hT h) hT
theorem keptT {S T : Tab} (hS : Kept S) (hT : Kept T) (f : Nat) (args : List Value) (H : AH) (v : Value) (H' : AH) (fuel : Nat) (h : ranTo (XC.with S) fuel f args H v H' = true) : Kept ((f, .mem args H v H') :: T) :=
  Tab.Ok.cons (Tab.Ok.mem XC_ok hS (ranTo_eq h)) hT
/-- A node of a trie, bare. -/
def nd (a b : Nat) : AObj := .cells [.pointer (bif Nat.beq a 0 then none else some ⟨a, 0, none⟩), .pointer (bif Nat.beq b 0 then none else some ⟨b, 0, none⟩), .bool false, .int .i64 0, .int .u64 0, .int .u64 0, .int .i64 0] 230 true false false

def T0 : Tab := []
theorem T0_ok : Kept T0 := Tab.Ok.nil
def T_1 : Tab := (312, .plain [] (.bool true)) :: T0
theorem r_1 : arun (XC.with T0) 100000 glob 312 [] = some (.bool true) := by kernel_rfl
theorem T_1_ok : Kept T_1 := kept T0_ok _ _ _ _ r_1
def T_2 : Tab := (310, .plain [] (.bool true)) :: T_1
theorem r_2 : arun (XC.with T_1) 100000 glob 310 [] = some (.bool true) := by kernel_rfl
theorem T_2_ok : Kept T_2 := kept T_1_ok _ _ _ _ r_2
def T_3 : Tab := (307, .plain [] (.bool true)) :: T_2
theorem r_3 : arun (XC.with T_2) 100000 glob 307 [] = some (.bool true) := by kernel_rfl
theorem T_3_ok : Kept T_3 := kept T_2_ok _ _ _ _ r_3
def T_4 : Tab := (300, .plain [] (.bool true)) :: T_3
theorem r_4 : arun (XC.with T_3) 100000 glob 300 [] = some (.bool true) := by kernel_rfl
theorem T_4_ok : Kept T_4 := kept T_3_ok _ _ _ _ r_4
def T_5 : Tab := (297, .plain [] (.bool true)) :: T_4
theorem r_5 : arun (XC.with T_4) 100000 glob 297 [] = some (.bool true) := by kernel_rfl
theorem T_5_ok : Kept T_5 := kept T_4_ok _ _ _ _ r_5
def T_6 : Tab := (293, .plain [] (.bool true)) :: T_5
theorem r_6 : arun (XC.with T_5) 100000 glob 293 [] = some (.bool true) := by kernel_rfl
theorem T_6_ok : Kept T_6 := kept T_5_ok _ _ _ _ r_6
def T_7 : Tab := (272, .plain [] (.bool true)) :: T_6
theorem r_7 : arun (XC.with T_6) 100000 glob 272 [] = some (.bool true) := by kernel_rfl
theorem T_7_ok : Kept T_7 := kept T_6_ok _ _ _ _ r_7
end Go.Proofs.YtakdjflhhaefiaaGreatDoor
