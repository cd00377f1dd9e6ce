/- KNOWN CALLS, 1: the lower layers' own examples. -/
import Derived.Test.YtdbnanbeaeafdaaGreatDoorXS
namespace Go.Proofs.YtdbnanbeaeafdaaGreatDoor
open Go.Xc
theorem glob_ro : ∀ k o, glob.m.get k = some o → ∃ cs, o = .ro cs := by
  intro k o h
  have h' : (((NM.leaf : NM AObj).set 3 (.ro tab10)).set 7 (.ro tab64)).get k = some o := h
  rw [NM.get_set _ _ _ _ (by decide), NM.get_set _ _ _ _ (by decide)] at h'
  split at h'
  · cases h'; exact ⟨_, rfl⟩
  · split at h'
    · cases h'; exact ⟨_, rfl⟩
    · rw [NM.get_leaf] at h'; cases h'
abbrev Kept (T : Tab) : Prop := T.Ok XC glob
theorem kept {T : Tab} (hT : Kept T) (f : Nat) (args : List Value) (v : Value) (fuel : Nat) (h : arun (XC.with T) fuel glob f args = some v) : Kept ((f, .plain args v) :: T) :=
  Tab.Ok.cons (Tab.Ok.plain XC_ok glob_ro hT h) hT
theorem keptM {T : Tab} (hT : Kept T) (f : Nat) (args : List Value) (H : AH) (v : Value) (H' : AH) (fuel : Nat) (h : acallB (XC.with T) (acode (XC.with T) fuel) f args H = some (v, H')) : Kept ((f, .mem args H v H') :: T) :=
  Tab.Ok.cons (Tab.Ok.mem XC_ok hT h) hT
theorem keptT {S T : Tab} (hS : Kept S) (hT : Kept T) (f : Nat) (args : List Value) (H : AH) (v : Value) (H' : AH) (fuel : Nat) (h : ranTo (XC.with S) fuel f args H v H' = true) : Kept ((f, .mem args H v H') :: T) :=
  Tab.Ok.cons (Tab.Ok.mem XC_ok hS (ranTo_eq h)) hT
/-- A node of a trie, bare. -/
def nd (a b : Nat) : AObj := .cells [.pointer (bif Nat.beq a 0 then none else some ⟨a, 0, none⟩), .pointer (bif Nat.beq b 0 then none else some ⟨b, 0, none⟩), .bool false, .int .i64 0, .int .u64 0, .int .u64 0, .int .i64 0] 207 true false false

def T0 : Tab := []
theorem T0_ok : Kept T0 := Tab.Ok.nil
def T291 : Tab := (291, .plain [] (.bool true)) :: T0
theorem r291 : arun (XC.with T0) 100000 glob 291 [] = some (.bool true) := by kernel_rfl
theorem T291_ok : Kept T291 := kept T0_ok _ _ _ _ r291
def T289 : Tab := (289, .plain [] (.bool true)) :: T291
theorem r289 : arun (XC.with T291) 100000 glob 289 [] = some (.bool true) := by kernel_rfl
theorem T289_ok : Kept T289 := kept T291_ok _ _ _ _ r289
def T286 : Tab := (286, .plain [] (.bool true)) :: T289
theorem r286 : arun (XC.with T289) 100000 glob 286 [] = some (.bool true) := by kernel_rfl
theorem T286_ok : Kept T286 := kept T289_ok _ _ _ _ r286
def T278 : Tab := (278, .plain [] (.bool true)) :: T286
theorem r278 : arun (XC.with T286) 100000 glob 278 [] = some (.bool true) := by kernel_rfl
theorem T278_ok : Kept T278 := kept T286_ok _ _ _ _ r278
def T275 : Tab := (275, .plain [] (.bool true)) :: T278
theorem r275 : arun (XC.with T278) 100000 glob 275 [] = some (.bool true) := by kernel_rfl
theorem T275_ok : Kept T275 := kept T278_ok _ _ _ _ r275
def T267 : Tab := (267, .plain [] (.bool true)) :: T275
theorem r267 : arun (XC.with T275) 100000 glob 267 [] = some (.bool true) := by kernel_rfl
theorem T267_ok : Kept T267 := kept T275_ok _ _ _ _ r267
def T241 : Tab := (241, .plain [] (.bool true)) :: T267
theorem r241 : arun (XC.with T267) 100000 glob 241 [] = some (.bool true) := by kernel_rfl
theorem T241_ok : Kept T241 := kept T267_ok _ _ _ _ r241
end Go.Proofs.YtdbnanbeaeafdaaGreatDoor
