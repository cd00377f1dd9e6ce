/- abnf.Parts: its parts in memory; path. -/
import Derived.Test.YtakdjflhhaefiaaGreatDoorB6
set_option linter.unusedVariables false
set_option linter.unusedSimpArgs false
namespace Go.Proofs.YtakdjflhhaefiaaGreatDoor
open Go.RowKit Go.Proofs.YtakdjflhhaefiaaGreatDoor.PDotsGo Go.Proofs.YtakdjflhhaefiaaGreatDoorW.PrintWords Go.Proofs.YtakdjflhhaefiaaGreatDoorW.PrintLast Go.Proofs.YtakdjflhhaefiaaGreatDoorW.PrintMore

structure PR where
  sc : ByteArray
  hs : Bool
  us : ByteArray
  hu : Bool
  ho : ByteArray
  ha : Bool
  po : ByteArray
  hp : Bool
  pa : ByteArray
  qu : ByteArray
  hq : Bool
  fr : ByteArray
  hf : Bool
def PR.row (p : PR) : Array Value := #[.string p.sc, .bool p.hs, .string p.us, .bool p.hu, .string p.ho, .bool p.ha, .string p.po, .bool p.hp, .string p.pa, .string p.qu, .bool p.hq, .string p.fr, .bool p.hf]
def PAt (b : Nat) (p : PR) (w : World) : Prop := w.heap[b]? = some (.cells p.row 40 (0, 0))
theorem PAt.lt {b : Nat} {p : PR} {w : World} (h : PAt b p w) : b < w.heap.size := (Array.getElem?_eq_some_iff.1 h).1
theorem PAt.move {b : Nat} {p : PR} {w w' : World} (h : PAt b p w) (hb : Below w.heap.size w w') : PAt b p w' := (hb.block b h.lt).trans h
theorem PAt.c0 {b : Nat} {p : PR} {w : World} (h : PAt b p w) : w.cell? ⟨b, 0, none⟩ = some (.string p.sc) := row_cellAt 0 h
theorem PAt.s0 {b : Nat} {p : PR} {w : World} (h : PAt b p w) (u : ByteArray) : PAt b { p with sc := u } (w.setCell ⟨b, 0, none⟩ (.string u)) := row_setAt (.string u) h
theorem PAt.c1 {b : Nat} {p : PR} {w : World} (h : PAt b p w) : w.cell? ⟨b, 1, none⟩ = some (.bool p.hs) := row_cellAt 1 h
theorem PAt.s1 {b : Nat} {p : PR} {w : World} (h : PAt b p w) (u : Bool) : PAt b { p with hs := u } (w.setCell ⟨b, 1, none⟩ (.bool u)) := row_setAt (.bool u) h
theorem PAt.c2 {b : Nat} {p : PR} {w : World} (h : PAt b p w) : w.cell? ⟨b, 2, none⟩ = some (.string p.us) := row_cellAt 2 h
theorem PAt.s2 {b : Nat} {p : PR} {w : World} (h : PAt b p w) (u : ByteArray) : PAt b { p with us := u } (w.setCell ⟨b, 2, none⟩ (.string u)) := row_setAt (.string u) h
theorem PAt.c3 {b : Nat} {p : PR} {w : World} (h : PAt b p w) : w.cell? ⟨b, 3, none⟩ = some (.bool p.hu) := row_cellAt 3 h
theorem PAt.s3 {b : Nat} {p : PR} {w : World} (h : PAt b p w) (u : Bool) : PAt b { p with hu := u } (w.setCell ⟨b, 3, none⟩ (.bool u)) := row_setAt (.bool u) h
theorem PAt.c4 {b : Nat} {p : PR} {w : World} (h : PAt b p w) : w.cell? ⟨b, 4, none⟩ = some (.string p.ho) := row_cellAt 4 h
theorem PAt.s4 {b : Nat} {p : PR} {w : World} (h : PAt b p w) (u : ByteArray) : PAt b { p with ho := u } (w.setCell ⟨b, 4, none⟩ (.string u)) := row_setAt (.string u) h
theorem PAt.c5 {b : Nat} {p : PR} {w : World} (h : PAt b p w) : w.cell? ⟨b, 5, none⟩ = some (.bool p.ha) := row_cellAt 5 h
theorem PAt.s5 {b : Nat} {p : PR} {w : World} (h : PAt b p w) (u : Bool) : PAt b { p with ha := u } (w.setCell ⟨b, 5, none⟩ (.bool u)) := row_setAt (.bool u) h
theorem PAt.c6 {b : Nat} {p : PR} {w : World} (h : PAt b p w) : w.cell? ⟨b, 6, none⟩ = some (.string p.po) := row_cellAt 6 h
theorem PAt.s6 {b : Nat} {p : PR} {w : World} (h : PAt b p w) (u : ByteArray) : PAt b { p with po := u } (w.setCell ⟨b, 6, none⟩ (.string u)) := row_setAt (.string u) h
theorem PAt.c7 {b : Nat} {p : PR} {w : World} (h : PAt b p w) : w.cell? ⟨b, 7, none⟩ = some (.bool p.hp) := row_cellAt 7 h
theorem PAt.s7 {b : Nat} {p : PR} {w : World} (h : PAt b p w) (u : Bool) : PAt b { p with hp := u } (w.setCell ⟨b, 7, none⟩ (.bool u)) := row_setAt (.bool u) h
theorem PAt.c8 {b : Nat} {p : PR} {w : World} (h : PAt b p w) : w.cell? ⟨b, 8, none⟩ = some (.string p.pa) := row_cellAt 8 h
theorem PAt.s8 {b : Nat} {p : PR} {w : World} (h : PAt b p w) (u : ByteArray) : PAt b { p with pa := u } (w.setCell ⟨b, 8, none⟩ (.string u)) := row_setAt (.string u) h
theorem PAt.c9 {b : Nat} {p : PR} {w : World} (h : PAt b p w) : w.cell? ⟨b, 9, none⟩ = some (.string p.qu) := row_cellAt 9 h
theorem PAt.s9 {b : Nat} {p : PR} {w : World} (h : PAt b p w) (u : ByteArray) : PAt b { p with qu := u } (w.setCell ⟨b, 9, none⟩ (.string u)) := row_setAt (.string u) h
theorem PAt.c10 {b : Nat} {p : PR} {w : World} (h : PAt b p w) : w.cell? ⟨b, 10, none⟩ = some (.bool p.hq) := row_cellAt 10 h
theorem PAt.s10 {b : Nat} {p : PR} {w : World} (h : PAt b p w) (u : Bool) : PAt b { p with hq := u } (w.setCell ⟨b, 10, none⟩ (.bool u)) := row_setAt (.bool u) h
theorem PAt.c11 {b : Nat} {p : PR} {w : World} (h : PAt b p w) : w.cell? ⟨b, 11, none⟩ = some (.string p.fr) := row_cellAt 11 h
theorem PAt.s11 {b : Nat} {p : PR} {w : World} (h : PAt b p w) (u : ByteArray) : PAt b { p with fr := u } (w.setCell ⟨b, 11, none⟩ (.string u)) := row_setAt (.string u) h
theorem PAt.c12 {b : Nat} {p : PR} {w : World} (h : PAt b p w) : w.cell? ⟨b, 12, none⟩ = some (.bool p.hf) := row_cellAt 12 h
theorem PAt.s12 {b : Nat} {p : PR} {w : World} (h : PAt b p w) (u : Bool) : PAt b { p with hf := u } (w.setCell ⟨b, 12, none⟩ (.bool u)) := row_setAt (.bool u) h
def pathB (pa : ByteArray) (ha hs : Bool) : Bool := isB pa ⟨#[58, 64, 47]⟩ && (bif ha then (cut1 pa 47).toList.isEmpty else (!Lib.hasPrefix pa.data.toList [47, 47] && (hs || !decide (0 ≤ Lib.indexByte (cut1 pa 47).data.toList 58))))
set_option maxHeartbeats 2000000 in
set_option maxRecDepth 100000 in
theorem path_any (b : Nat) (p : PR) (w : World) (h : PAt b p w) (hz : p.pa.size ≤ 500000) (hv : VarsOk w) : Calls Tryz.prog 61 #[.pointer (some ⟨b, 0, none⟩)] w fun e w' => e = .returned (.bool (pathB p.pa p.ha p.hs)) ∧ Below w.heap.size w w' := by
  have HP := Lib.hid h
  have c8 := h.c8
  have CC := Lib.hid (cut_ch p.pa 47 w (by omega) hv)
  have CI := Lib.hid (fun w1 => is_any p.pa ⟨#[58, 64, 47]⟩ w1 hz (by decide))
  have CN := Lib.hid (fun w1 => Tryz.strings_Contains_one (cut1 p.pa 47) 58 w1)
  have CH := Lib.hid (fun w1 => Tryz.strings_HasPrefix p.pa ⟨#[47, 47]⟩ w1)
  have HT : Hid (pathB p.pa p.ha p.hs = (isB p.pa ⟨#[58, 64, 47]⟩ && (bif p.ha then (cut1 p.pa 47).toList.isEmpty else (!Lib.hasPrefix p.pa.data.toList [47, 47] && (p.hs || !decide (0 ≤ Lib.indexByte (cut1 p.pa 47).data.toList 58)))))) := Lib.hid rfl
  clear h hz hv
  generalize pathB p.pa p.ha p.hs = r at HT ⊢
  generalize isB p.pa ⟨#[58, 64, 47]⟩ = ib at CI HT
  generalize decide (0 ≤ Lib.indexByte (cut1 p.pa 47).data.toList 58) = cn at CN HT
  generalize Lib.hasPrefix p.pa.data.toList [47, 47] = hpx at CH HT
  cases ib with
  | false =>
    have HF : Hid (r = false) := Lib.hid (by rw [HT.out]; first | rfl | simp)
    go_enter Tryz.func61, Tryz.ntmps61
    go_wp2_with (first | (go_at_call 126; refine (CN.out _).mono ?_; rintro e w3 ⟨rfl, hww⟩; rw [hww]; clear hww w3) | (go_at_call 25; refine (CH.out _).mono ?_; rintro e w3 ⟨rfl, hww⟩; rw [hww]; clear hww w3) | (go_at_call 62; refine (CI.out _).mono ?_; rintro e w2 ⟨rfl, hb⟩; have HB2 := Lib.hid (HB1.out.trans (hb.mono HB1.out.size)); have e8 := (HP.out.move HB2.out).c8; have e5 := (HP.out.move HB2.out).c5; have e1 := (HP.out.move HB2.out).c1; (try rw [hha] at e5); (try rw [hhs] at e1); clear hb) | (go_at_call 58; refine CC.out.mono ?_; rintro e w1 ⟨rfl, hb⟩; have HB1 := Lib.hid hb; have d8 := (HP.out.move hb).c8; clear hb))
    go_ret
    exact ⟨by rw [HF.out] <;> first | rfl | simp, HB2.out⟩
  | true =>
    cases hha : p.ha with
    | true =>
      have HF : Hid (r = (cut1 p.pa 47).toList.isEmpty) := Lib.hid (by rw [HT.out, hha]; first | rfl | simp)
      go_enter Tryz.func61, Tryz.ntmps61
      go_wp2_with (first | (go_at_call 126; refine (CN.out _).mono ?_; rintro e w3 ⟨rfl, hww⟩; rw [hww]; clear hww w3) | (go_at_call 25; refine (CH.out _).mono ?_; rintro e w3 ⟨rfl, hww⟩; rw [hww]; clear hww w3) | (go_at_call 62; refine (CI.out _).mono ?_; rintro e w2 ⟨rfl, hb⟩; have HB2 := Lib.hid (HB1.out.trans (hb.mono HB1.out.size)); have e8 := (HP.out.move HB2.out).c8; have e5 := (HP.out.move HB2.out).c5; have e1 := (HP.out.move HB2.out).c1; (try rw [hha] at e5); (try rw [hhs] at e1); clear hb) | (go_at_call 58; refine CC.out.mono ?_; rintro e w1 ⟨rfl, hb⟩; have HB1 := Lib.hid hb; have d8 := (HP.out.move hb).c8; clear hb))
      go_ret
      exact ⟨by rw [HF.out] <;> first | rfl | simp, HB2.out⟩
    | false =>
      cases hpx with
      | true =>
        have HF : Hid (r = false) := Lib.hid (by rw [HT.out, hha]; first | rfl | simp)
        go_enter Tryz.func61, Tryz.ntmps61
        go_wp2_with (first | (go_at_call 126; refine (CN.out _).mono ?_; rintro e w3 ⟨rfl, hww⟩; rw [hww]; clear hww w3) | (go_at_call 25; refine (CH.out _).mono ?_; rintro e w3 ⟨rfl, hww⟩; rw [hww]; clear hww w3) | (go_at_call 62; refine (CI.out _).mono ?_; rintro e w2 ⟨rfl, hb⟩; have HB2 := Lib.hid (HB1.out.trans (hb.mono HB1.out.size)); have e8 := (HP.out.move HB2.out).c8; have e5 := (HP.out.move HB2.out).c5; have e1 := (HP.out.move HB2.out).c1; (try rw [hha] at e5); (try rw [hhs] at e1); clear hb) | (go_at_call 58; refine CC.out.mono ?_; rintro e w1 ⟨rfl, hb⟩; have HB1 := Lib.hid hb; have d8 := (HP.out.move hb).c8; clear hb))
        go_ret
        exact ⟨by rw [HF.out] <;> first | rfl | simp, HB2.out⟩
      | false =>
        cases hhs : p.hs with
        | true =>
          have HF : Hid (r = true) := Lib.hid (by rw [HT.out, hha, hhs]; first | rfl | simp)
          go_enter Tryz.func61, Tryz.ntmps61
          go_wp2_with (first | (go_at_call 126; refine (CN.out _).mono ?_; rintro e w3 ⟨rfl, hww⟩; rw [hww]; clear hww w3) | (go_at_call 25; refine (CH.out _).mono ?_; rintro e w3 ⟨rfl, hww⟩; rw [hww]; clear hww w3) | (go_at_call 62; refine (CI.out _).mono ?_; rintro e w2 ⟨rfl, hb⟩; have HB2 := Lib.hid (HB1.out.trans (hb.mono HB1.out.size)); have e8 := (HP.out.move HB2.out).c8; have e5 := (HP.out.move HB2.out).c5; have e1 := (HP.out.move HB2.out).c1; (try rw [hha] at e5); (try rw [hhs] at e1); clear hb) | (go_at_call 58; refine CC.out.mono ?_; rintro e w1 ⟨rfl, hb⟩; have HB1 := Lib.hid hb; have d8 := (HP.out.move hb).c8; clear hb))
          go_ret
          exact ⟨by rw [HF.out] <;> first | rfl | simp, HB2.out⟩
        | false =>
          have HF : Hid (r = (!cn)) := Lib.hid (by rw [HT.out, hha, hhs]; first | rfl | simp)
          go_enter Tryz.func61, Tryz.ntmps61
          go_wp2_with (first | (go_at_call 126; refine (CN.out _).mono ?_; rintro e w3 ⟨rfl, hww⟩; rw [hww]; clear hww w3) | (go_at_call 25; refine (CH.out _).mono ?_; rintro e w3 ⟨rfl, hww⟩; rw [hww]; clear hww w3) | (go_at_call 62; refine (CI.out _).mono ?_; rintro e w2 ⟨rfl, hb⟩; have HB2 := Lib.hid (HB1.out.trans (hb.mono HB1.out.size)); have e8 := (HP.out.move HB2.out).c8; have e5 := (HP.out.move HB2.out).c5; have e1 := (HP.out.move HB2.out).c1; (try rw [hha] at e5); (try rw [hhs] at e1); clear hb) | (go_at_call 58; refine CC.out.mono ?_; rintro e w1 ⟨rfl, hb⟩; have HB1 := Lib.hid hb; have d8 := (HP.out.move hb).c8; clear hb))
          go_ret
          exact ⟨by rw [HF.out] <;> first | rfl | simp, HB2.out⟩
end Go.Proofs.YtakdjflhhaefiaaGreatDoor
