/- KNOWN CALLS: layers 15 to 18 -/
import Derived.Test.YtcnibnhoebckfaaGreatDoorXA
namespace Go.Proofs.YtcnibnhoebckfaaGreatDoor
open Go.Xc
theorem XT8_1_r : arun (XC.with XA) 100000 glob 229 [] = some (.bool true) := by kernel_rfl
noncomputable def XT8_1 : Tab := (229, .plain [] (.bool true)) :: XA
theorem XT8_1_ok : Kept XT8_1 := kept XA_ok _ _ _ _ XT8_1_r
theorem XT8_2_r : arun (XC.with XT8_1) 100000 glob 179 [] = some (.bool true) := by kernel_rfl
noncomputable def XT8_2 : Tab := (179, .plain [] (.bool true)) :: XT8_1
theorem XT8_2_ok : Kept XT8_2 := kept XT8_1_ok _ _ _ _ XT8_2_r
theorem XT8_3_r : arun (XC.with XT8_2) 100000 glob 178 [.string ⟨#[104,116,116,112,58,47,47,97,47,98,47,99,47,100,59,112,63,113]⟩, .string ⟨#[46,46,47,103]⟩] = some (.tuple #[.string ⟨#[104,116,116,112,58,47,47,97,47,98,47,103]⟩, .int .i64 0]) := by kernel_rfl
noncomputable def XT8_3 : Tab := (178, .plain [.string ⟨#[104,116,116,112,58,47,47,97,47,98,47,99,47,100,59,112,63,113]⟩, .string ⟨#[46,46,47,103]⟩] (.tuple #[.string ⟨#[104,116,116,112,58,47,47,97,47,98,47,103]⟩, .int .i64 0])) :: XT8_2
theorem XT8_3_ok : Kept XT8_3 := kept XT8_2_ok _ _ _ _ XT8_3_r
theorem XT8_4_r : arun (XC.with XT8_3) 100000 glob 178 [.string ⟨#[104,116,116,112,58,47,47,97,47,98,47,99,47,100,59,112,63,113]⟩, .string ⟨#[63,121]⟩] = some (.tuple #[.string ⟨#[104,116,116,112,58,47,47,97,47,98,47,99,47,100,59,112,63,121]⟩, .int .i64 0]) := by kernel_rfl
noncomputable def XT8_4 : Tab := (178, .plain [.string ⟨#[104,116,116,112,58,47,47,97,47,98,47,99,47,100,59,112,63,113]⟩, .string ⟨#[63,121]⟩] (.tuple #[.string ⟨#[104,116,116,112,58,47,47,97,47,98,47,99,47,100,59,112,63,121]⟩, .int .i64 0])) :: XT8_3
theorem XT8_4_ok : Kept XT8_4 := kept XT8_3_ok _ _ _ _ XT8_4_r
theorem XT8_5_r : arun (XC.with XT8_4) 100000 glob 178 [.string ⟨#[104,116,116,112,58,47,47,97,47,98,47,99,47,100,59,112,63,113]⟩, .string ⟨#[47,47,103]⟩] = some (.tuple #[.string ⟨#[104,116,116,112,58,47,47,103]⟩, .int .i64 0]) := by kernel_rfl
noncomputable def XT8_5 : Tab := (178, .plain [.string ⟨#[104,116,116,112,58,47,47,97,47,98,47,99,47,100,59,112,63,113]⟩, .string ⟨#[47,47,103]⟩] (.tuple #[.string ⟨#[104,116,116,112,58,47,47,103]⟩, .int .i64 0])) :: XT8_4
theorem XT8_5_ok : Kept XT8_5 := kept XT8_4_ok _ _ _ _ XT8_5_r
theorem XT8_6_r : arun (XC.with XT8_5) 100000 glob 97 [] = some (.bool true) := by kernel_rfl
noncomputable def XT8_6 : Tab := (97, .plain [] (.bool true)) :: XT8_5
theorem XT8_6_ok : Kept XT8_6 := kept XT8_5_ok _ _ _ _ XT8_6_r
theorem XT8_7_r : arun (XC.with XT8_6) 100000 glob 42 [] = some (.bool true) := by kernel_rfl
noncomputable def XT8_7 : Tab := (42, .plain [] (.bool true)) :: XT8_6
theorem XT8_7_ok : Kept XT8_7 := kept XT8_6_ok _ _ _ _ XT8_7_r
noncomputable def XT8 : Tab := XT8_7
theorem XT8_ok : Kept XT8 := XT8_7_ok
end Go.Proofs.YtcnibnhoebckfaaGreatDoor
