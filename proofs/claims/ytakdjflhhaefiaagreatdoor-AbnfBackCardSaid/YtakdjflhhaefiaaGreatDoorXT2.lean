/- KNOWN CALLS: prefix.Parse -/
import Derived.Test.YtakdjflhhaefiaaGreatDoorXT1
namespace Go.Proofs.YtakdjflhhaefiaaGreatDoor
open Go.Xc
theorem XT2_1_r : arun (XC.with T_7) 100000 glob 225 [.string ⟨#[48,46,48,46,48,46,48,47,48]⟩] = some (.tuple #[.agg #[.int .u64 0, .int .u64 281470681743360, .int .i64 96], .bool true]) := by kernel_rfl
noncomputable def XT2_1 : Tab := (225, .plain [.string ⟨#[48,46,48,46,48,46,48,47,48]⟩] (.tuple #[.agg #[.int .u64 0, .int .u64 281470681743360, .int .i64 96], .bool true])) :: T_7
theorem XT2_1_ok : Kept XT2_1 := kept T_7_ok _ _ _ _ XT2_1_r
theorem XT2_2_r : arun (XC.with XT2_1) 100000 glob 225 [.string ⟨#[48,46,48,46,48,46,48,47,56]⟩] = some (.tuple #[.agg #[.int .u64 0, .int .u64 281470681743360, .int .i64 104], .bool true]) := by kernel_rfl
noncomputable def XT2_2 : Tab := (225, .plain [.string ⟨#[48,46,48,46,48,46,48,47,56]⟩] (.tuple #[.agg #[.int .u64 0, .int .u64 281470681743360, .int .i64 104], .bool true])) :: XT2_1
theorem XT2_2_ok : Kept XT2_2 := kept XT2_1_ok _ _ _ _ XT2_2_r
theorem XT2_3_r : arun (XC.with XT2_2) 100000 glob 225 [.string ⟨#[49,48,46,48,46,48,46,48,47,56]⟩] = some (.tuple #[.agg #[.int .u64 0, .int .u64 281470849515520, .int .i64 104], .bool true]) := by kernel_rfl
noncomputable def XT2_3 : Tab := (225, .plain [.string ⟨#[49,48,46,48,46,48,46,48,47,56]⟩] (.tuple #[.agg #[.int .u64 0, .int .u64 281470849515520, .int .i64 104], .bool true])) :: XT2_2
theorem XT2_3_ok : Kept XT2_3 := kept XT2_2_ok _ _ _ _ XT2_3_r
theorem XT2_4_r : arun (XC.with XT2_3) 100000 glob 225 [.string ⟨#[49,48,48,46,54,52,46,48,46,48,47,49,48]⟩] = some (.tuple #[.agg #[.int .u64 0, .int .u64 281472363659264, .int .i64 106], .bool true]) := by kernel_rfl
noncomputable def XT2_4 : Tab := (225, .plain [.string ⟨#[49,48,48,46,54,52,46,48,46,48,47,49,48]⟩] (.tuple #[.agg #[.int .u64 0, .int .u64 281472363659264, .int .i64 106], .bool true])) :: XT2_3
theorem XT2_4_ok : Kept XT2_4 := kept XT2_3_ok _ _ _ _ XT2_4_r
theorem XT2_5_r : arun (XC.with XT2_4) 100000 glob 225 [.string ⟨#[49,50,55,46,48,46,48,46,48,47,56]⟩] = some (.tuple #[.agg #[.int .u64 0, .int .u64 281472812449792, .int .i64 104], .bool true]) := by kernel_rfl
noncomputable def XT2_5 : Tab := (225, .plain [.string ⟨#[49,50,55,46,48,46,48,46,48,47,56]⟩] (.tuple #[.agg #[.int .u64 0, .int .u64 281472812449792, .int .i64 104], .bool true])) :: XT2_4
theorem XT2_5_ok : Kept XT2_5 := kept XT2_4_ok _ _ _ _ XT2_5_r
theorem XT2_6_r : arun (XC.with XT2_5) 100000 glob 225 [.string ⟨#[49,54,57,46,50,53,52,46,48,46,48,47,49,54]⟩] = some (.tuple #[.agg #[.int .u64 0, .int .u64 281473533739008, .int .i64 112], .bool true]) := by kernel_rfl
noncomputable def XT2_6 : Tab := (225, .plain [.string ⟨#[49,54,57,46,50,53,52,46,48,46,48,47,49,54]⟩] (.tuple #[.agg #[.int .u64 0, .int .u64 281473533739008, .int .i64 112], .bool true])) :: XT2_5
theorem XT2_6_ok : Kept XT2_6 := kept XT2_5_ok _ _ _ _ XT2_6_r
theorem XT2_7_r : arun (XC.with XT2_6) 100000 glob 225 [.string ⟨#[49,55,50,46,49,54,46,48,46,48,47,49,50]⟩] = some (.tuple #[.agg #[.int .u64 0, .int .u64 281473568473088, .int .i64 108], .bool true]) := by kernel_rfl
noncomputable def XT2_7 : Tab := (225, .plain [.string ⟨#[49,55,50,46,49,54,46,48,46,48,47,49,50]⟩] (.tuple #[.agg #[.int .u64 0, .int .u64 281473568473088, .int .i64 108], .bool true])) :: XT2_6
theorem XT2_7_ok : Kept XT2_7 := kept XT2_6_ok _ _ _ _ XT2_7_r
theorem XT2_8_r : arun (XC.with XT2_7) 100000 glob 225 [.string ⟨#[49,57,50,46,48,46,48,46,48,47,50,52]⟩] = some (.tuple #[.agg #[.int .u64 0, .int .u64 281473902968832, .int .i64 120], .bool true]) := by kernel_rfl
noncomputable def XT2_8 : Tab := (225, .plain [.string ⟨#[49,57,50,46,48,46,48,46,48,47,50,52]⟩] (.tuple #[.agg #[.int .u64 0, .int .u64 281473902968832, .int .i64 120], .bool true])) :: XT2_7
theorem XT2_8_ok : Kept XT2_8 := kept XT2_7_ok _ _ _ _ XT2_8_r
theorem XT2_9_r : arun (XC.with XT2_8) 100000 glob 225 [.string ⟨#[49,57,50,46,48,46,50,46,48,47,50,52]⟩] = some (.tuple #[.agg #[.int .u64 0, .int .u64 281473902969344, .int .i64 120], .bool true]) := by kernel_rfl
noncomputable def XT2_9 : Tab := (225, .plain [.string ⟨#[49,57,50,46,48,46,50,46,48,47,50,52]⟩] (.tuple #[.agg #[.int .u64 0, .int .u64 281473902969344, .int .i64 120], .bool true])) :: XT2_8
theorem XT2_9_ok : Kept XT2_9 := kept XT2_8_ok _ _ _ _ XT2_9_r
theorem XT2_10_r : arun (XC.with XT2_9) 100000 glob 225 [.string ⟨#[49,57,50,46,56,56,46,57,57,46,48,47,50,52]⟩] = some (.tuple #[.agg #[.int .u64 0, .int .u64 281473908761344, .int .i64 120], .bool true]) := by kernel_rfl
noncomputable def XT2_10 : Tab := (225, .plain [.string ⟨#[49,57,50,46,56,56,46,57,57,46,48,47,50,52]⟩] (.tuple #[.agg #[.int .u64 0, .int .u64 281473908761344, .int .i64 120], .bool true])) :: XT2_9
theorem XT2_10_ok : Kept XT2_10 := kept XT2_9_ok _ _ _ _ XT2_10_r
theorem XT2_11_r : arun (XC.with XT2_10) 100000 glob 225 [.string ⟨#[49,57,50,46,49,54,56,46,48,46,48,47,49,54]⟩] = some (.tuple #[.agg #[.int .u64 0, .int .u64 281473913978880, .int .i64 112], .bool true]) := by kernel_rfl
noncomputable def XT2_11 : Tab := (225, .plain [.string ⟨#[49,57,50,46,49,54,56,46,48,46,48,47,49,54]⟩] (.tuple #[.agg #[.int .u64 0, .int .u64 281473913978880, .int .i64 112], .bool true])) :: XT2_10
theorem XT2_11_ok : Kept XT2_11 := kept XT2_10_ok _ _ _ _ XT2_11_r
theorem XT2_12_r : arun (XC.with XT2_11) 100000 glob 225 [.string ⟨#[49,57,56,46,49,56,46,48,46,48,47,49,53]⟩] = some (.tuple #[.agg #[.int .u64 0, .int .u64 281474004811776, .int .i64 111], .bool true]) := by kernel_rfl
noncomputable def XT2_12 : Tab := (225, .plain [.string ⟨#[49,57,56,46,49,56,46,48,46,48,47,49,53]⟩] (.tuple #[.agg #[.int .u64 0, .int .u64 281474004811776, .int .i64 111], .bool true])) :: XT2_11
theorem XT2_12_ok : Kept XT2_12 := kept XT2_11_ok _ _ _ _ XT2_12_r
theorem XT2_13_r : arun (XC.with XT2_12) 100000 glob 225 [.string ⟨#[49,57,56,46,53,49,46,49,48,48,46,48,47,50,52]⟩] = some (.tuple #[.agg #[.int .u64 0, .int .u64 281474007000064, .int .i64 120], .bool true]) := by kernel_rfl
noncomputable def XT2_13 : Tab := (225, .plain [.string ⟨#[49,57,56,46,53,49,46,49,48,48,46,48,47,50,52]⟩] (.tuple #[.agg #[.int .u64 0, .int .u64 281474007000064, .int .i64 120], .bool true])) :: XT2_12
theorem XT2_13_ok : Kept XT2_13 := kept XT2_12_ok _ _ _ _ XT2_13_r
theorem XT2_14_r : arun (XC.with XT2_13) 100000 glob 225 [.string ⟨#[50,48,51,46,48,46,49,49,51,46,48,47,50,52]⟩] = some (.tuple #[.agg #[.int .u64 0, .int .u64 281474087547136, .int .i64 120], .bool true]) := by kernel_rfl
noncomputable def XT2_14 : Tab := (225, .plain [.string ⟨#[50,48,51,46,48,46,49,49,51,46,48,47,50,52]⟩] (.tuple #[.agg #[.int .u64 0, .int .u64 281474087547136, .int .i64 120], .bool true])) :: XT2_13
theorem XT2_14_ok : Kept XT2_14 := kept XT2_13_ok _ _ _ _ XT2_14_r
theorem XT2_15_r : arun (XC.with XT2_14) 100000 glob 225 [.string ⟨#[50,50,52,46,48,46,48,46,48,47,52]⟩] = some (.tuple #[.agg #[.int .u64 0, .int .u64 281474439839744, .int .i64 100], .bool true]) := by kernel_rfl
noncomputable def XT2_15 : Tab := (225, .plain [.string ⟨#[50,50,52,46,48,46,48,46,48,47,52]⟩] (.tuple #[.agg #[.int .u64 0, .int .u64 281474439839744, .int .i64 100], .bool true])) :: XT2_14
theorem XT2_15_ok : Kept XT2_15 := kept XT2_14_ok _ _ _ _ XT2_15_r
theorem XT2_16_r : arun (XC.with XT2_15) 100000 glob 225 [.string ⟨#[50,52,48,46,48,46,48,46,48,47,52]⟩] = some (.tuple #[.agg #[.int .u64 0, .int .u64 281474708275200, .int .i64 100], .bool true]) := by kernel_rfl
noncomputable def XT2_16 : Tab := (225, .plain [.string ⟨#[50,52,48,46,48,46,48,46,48,47,52]⟩] (.tuple #[.agg #[.int .u64 0, .int .u64 281474708275200, .int .i64 100], .bool true])) :: XT2_15
theorem XT2_16_ok : Kept XT2_16 := kept XT2_15_ok _ _ _ _ XT2_16_r
theorem XT2_17_r : arun (XC.with XT2_16) 100000 glob 225 [.string ⟨#[58,58,47,49,50,56]⟩] = some (.tuple #[.agg #[.int .u64 0, .int .u64 0, .int .i64 128], .bool true]) := by kernel_rfl
noncomputable def XT2_17 : Tab := (225, .plain [.string ⟨#[58,58,47,49,50,56]⟩] (.tuple #[.agg #[.int .u64 0, .int .u64 0, .int .i64 128], .bool true])) :: XT2_16
theorem XT2_17_ok : Kept XT2_17 := kept XT2_16_ok _ _ _ _ XT2_17_r
theorem XT2_18_r : arun (XC.with XT2_17) 100000 glob 225 [.string ⟨#[58,58,49,47,49,50,56]⟩] = some (.tuple #[.agg #[.int .u64 0, .int .u64 1, .int .i64 128], .bool true]) := by kernel_rfl
noncomputable def XT2_18 : Tab := (225, .plain [.string ⟨#[58,58,49,47,49,50,56]⟩] (.tuple #[.agg #[.int .u64 0, .int .u64 1, .int .i64 128], .bool true])) :: XT2_17
theorem XT2_18_ok : Kept XT2_18 := kept XT2_17_ok _ _ _ _ XT2_18_r
theorem XT2_19_r : arun (XC.with XT2_18) 100000 glob 225 [.string ⟨#[54,52,58,102,102,57,98,58,49,58,58,47,52,56]⟩] = some (.tuple #[.agg #[.int .u64 28428538856144896, .int .u64 0, .int .i64 48], .bool true]) := by kernel_rfl
noncomputable def XT2_19 : Tab := (225, .plain [.string ⟨#[54,52,58,102,102,57,98,58,49,58,58,47,52,56]⟩] (.tuple #[.agg #[.int .u64 28428538856144896, .int .u64 0, .int .i64 48], .bool true])) :: XT2_18
theorem XT2_19_ok : Kept XT2_19 := kept XT2_18_ok _ _ _ _ XT2_19_r
theorem XT2_20_r : arun (XC.with XT2_19) 100000 glob 225 [.string ⟨#[49,48,48,58,58,47,54,52]⟩] = some (.tuple #[.agg #[.int .u64 72057594037927936, .int .u64 0, .int .i64 64], .bool true]) := by kernel_rfl
noncomputable def XT2_20 : Tab := (225, .plain [.string ⟨#[49,48,48,58,58,47,54,52]⟩] (.tuple #[.agg #[.int .u64 72057594037927936, .int .u64 0, .int .i64 64], .bool true])) :: XT2_19
theorem XT2_20_ok : Kept XT2_20 := kept XT2_19_ok _ _ _ _ XT2_20_r
theorem XT2_21_r : arun (XC.with XT2_20) 100000 glob 225 [.string ⟨#[50,48,48,49,58,58,47,50,51]⟩] = some (.tuple #[.agg #[.int .u64 2306124484190404608, .int .u64 0, .int .i64 23], .bool true]) := by kernel_rfl
noncomputable def XT2_21 : Tab := (225, .plain [.string ⟨#[50,48,48,49,58,58,47,50,51]⟩] (.tuple #[.agg #[.int .u64 2306124484190404608, .int .u64 0, .int .i64 23], .bool true])) :: XT2_20
theorem XT2_21_ok : Kept XT2_21 := kept XT2_20_ok _ _ _ _ XT2_21_r
theorem XT2_22_r : arun (XC.with XT2_21) 100000 glob 225 [.string ⟨#[50,48,48,49,58,100,98,56,58,58,47,51,50]⟩] = some (.tuple #[.agg #[.int .u64 2306139568115548160, .int .u64 0, .int .i64 32], .bool true]) := by kernel_rfl
noncomputable def XT2_22 : Tab := (225, .plain [.string ⟨#[50,48,48,49,58,100,98,56,58,58,47,51,50]⟩] (.tuple #[.agg #[.int .u64 2306139568115548160, .int .u64 0, .int .i64 32], .bool true])) :: XT2_21
theorem XT2_22_ok : Kept XT2_22 := kept XT2_21_ok _ _ _ _ XT2_22_r
theorem XT2_23_r : arun (XC.with XT2_22) 100000 glob 225 [.string ⟨#[51,102,102,102,58,58,47,50,48]⟩] = some (.tuple #[.agg #[.int .u64 4611404543450677248, .int .u64 0, .int .i64 20], .bool true]) := by kernel_rfl
noncomputable def XT2_23 : Tab := (225, .plain [.string ⟨#[51,102,102,102,58,58,47,50,48]⟩] (.tuple #[.agg #[.int .u64 4611404543450677248, .int .u64 0, .int .i64 20], .bool true])) :: XT2_22
theorem XT2_23_ok : Kept XT2_23 := kept XT2_22_ok _ _ _ _ XT2_23_r
theorem XT2_24_r : arun (XC.with XT2_23) 100000 glob 225 [.string ⟨#[53,102,48,48,58,58,47,49,54]⟩] = some (.tuple #[.agg #[.int .u64 6845471433603153920, .int .u64 0, .int .i64 16], .bool true]) := by kernel_rfl
noncomputable def XT2_24 : Tab := (225, .plain [.string ⟨#[53,102,48,48,58,58,47,49,54]⟩] (.tuple #[.agg #[.int .u64 6845471433603153920, .int .u64 0, .int .i64 16], .bool true])) :: XT2_23
theorem XT2_24_ok : Kept XT2_24 := kept XT2_23_ok _ _ _ _ XT2_24_r
theorem XT2_25_r : arun (XC.with XT2_24) 100000 glob 225 [.string ⟨#[102,99,48,48,58,58,47,55]⟩] = some (.tuple #[.agg #[.int .u64 18158513697557839872, .int .u64 0, .int .i64 7], .bool true]) := by kernel_rfl
noncomputable def XT2_25 : Tab := (225, .plain [.string ⟨#[102,99,48,48,58,58,47,55]⟩] (.tuple #[.agg #[.int .u64 18158513697557839872, .int .u64 0, .int .i64 7], .bool true])) :: XT2_24
theorem XT2_25_ok : Kept XT2_25 := kept XT2_24_ok _ _ _ _ XT2_25_r
theorem XT2_26_r : arun (XC.with XT2_25) 100000 glob 225 [.string ⟨#[102,101,56,48,58,58,47,49,48]⟩] = some (.tuple #[.agg #[.int .u64 18338657682652659712, .int .u64 0, .int .i64 10], .bool true]) := by kernel_rfl
noncomputable def XT2_26 : Tab := (225, .plain [.string ⟨#[102,101,56,48,58,58,47,49,48]⟩] (.tuple #[.agg #[.int .u64 18338657682652659712, .int .u64 0, .int .i64 10], .bool true])) :: XT2_25
theorem XT2_26_ok : Kept XT2_26 := kept XT2_25_ok _ _ _ _ XT2_26_r
theorem XT2_27_r : arun (XC.with XT2_26) 100000 glob 225 [.string ⟨#[102,101,99,48,58,58,47,49,48]⟩] = some (.tuple #[.agg #[.int .u64 18356672081162141696, .int .u64 0, .int .i64 10], .bool true]) := by kernel_rfl
noncomputable def XT2_27 : Tab := (225, .plain [.string ⟨#[102,101,99,48,58,58,47,49,48]⟩] (.tuple #[.agg #[.int .u64 18356672081162141696, .int .u64 0, .int .i64 10], .bool true])) :: XT2_26
theorem XT2_27_ok : Kept XT2_27 := kept XT2_26_ok _ _ _ _ XT2_27_r
theorem XT2_28_r : arun (XC.with XT2_27) 100000 glob 225 [.string ⟨#[102,102,48,48,58,58,47,56]⟩] = some (.tuple #[.agg #[.int .u64 18374686479671623680, .int .u64 0, .int .i64 8], .bool true]) := by kernel_rfl
noncomputable def XT2_28 : Tab := (225, .plain [.string ⟨#[102,102,48,48,58,58,47,56]⟩] (.tuple #[.agg #[.int .u64 18374686479671623680, .int .u64 0, .int .i64 8], .bool true])) :: XT2_27
theorem XT2_28_ok : Kept XT2_28 := kept XT2_27_ok _ _ _ _ XT2_28_r
noncomputable def XT2 : Tab := XT2_28
theorem XT2_ok : Kept XT2 := XT2_28_ok
end Go.Proofs.YtakdjflhhaefiaaGreatDoor
