/- abnf.Parse: the walk, more ways. -/
import Derived.Test.YtakdjflhhaefiaaGreatDoorC4
import Derived.Test.YtakdjflhhaefiaaGreatDoorC5
import Derived.Test.YtakdjflhhaefiaaGreatDoorC6
import Derived.Test.YtakdjflhhaefiaaGreatDoorC7
set_option linter.unusedVariables false
set_option linter.unusedSimpArgs false
namespace Go.Proofs.YtakdjflhhaefiaaGreatDoor
open Go.RowKit Go.Proofs.YtakdjflhhaefiaaGreatDoor.PDotsGo Go.Proofs.YtakdjflhhaefiaaGreatDoorW.PrintWords Go.Proofs.YtakdjflhhaefiaaGreatDoorW.PrintLast Go.Proofs.YtakdjflhhaefiaaGreatDoorW.PrintMore

theorem chk_val (s : ByteArray) : chkB (midR s).1 (midR s).2 = ((midR s).2 && (pathB (midR s).1.pa (midR s).1.ha (midR s).1.hs && (isB (cut2 (cut1 (reS s) 35) 63) ⟨#[58, 64, 47, 63]⟩ && isB (cut2 (reS s) 35) ⟨#[58, 64, 47, 63]⟩))) := by
  have hk := fore_keeps (cut1 (cut1 (reS s) 35) 63) (p0 s (reS s))
  have h1 : (midR s).1.qu = cut2 (cut1 (reS s) 35) 63 := hk.2.2.1
  have h2 : (midR s).1.fr = cut2 (reS s) 35 := hk.2.2.2.2.1
  unfold chkB
  rw [h1, h2]
theorem parse_any (s : ByteArray) (w : World) (hv : VarsOk w) : Calls Tryz.prog 18 #[.string s] w fun e w' => e = .returned (.tuple #[.agg (parseR s).1.row, .int .i64 (parseR s).2]) ∧ Below w.heap.size w w' := by
  by_cases hz : 4096 < s.size
  · have hR : parseR s = (PR.zero, 3) := by unfold parseR; rw [if_pos hz]
    rw [hR]; exact parse_long s w hz
  · have hz2 : s.size ≤ 4096 := by omega
    have hck := chk_val s
    have hR : (colB s && !schemeB (scS s)) = false → parseR s = bif chkB (midR s).1 (midR s).2 then ((midR s).1, 0) else (PR.zero, 11) := fun h => by unfold parseR; rw [if_neg hz, h]; rfl
    cases hcol : colB s with
    | true =>
      cases hsch : schemeB (scS s) with
      | false =>
        have hR2 : parseR s = (PR.zero, 5) := by unfold parseR; rw [if_neg hz, hcol, hsch]; rfl
        rw [hR2]; exact parse_X s w hz2 hv hcol hsch
      | true =>
        have hR := hR (by rw [hcol, hsch]; rfl)
        cases hsl : Lib.hasPrefix (cut1 (cut1 (reS s) 35) 63).data.toList [47, 47] with
        | true =>
          cases x0 : (midR s).2 with
          | false => rw [hR, hck, x0]; exact parse_TT_F s w hz2 hv hcol hsch hsl x0
          | true =>
            cases x1 : pathB (midR s).1.pa (midR s).1.ha (midR s).1.hs with
            | false => rw [hR, hck, x0, x1]; exact parse_TT_TF s w hz2 hv hcol hsch hsl x0 x1
            | true =>
              cases x2 : isB (cut2 (cut1 (reS s) 35) 63) ⟨#[58, 64, 47, 63]⟩ with
              | false => rw [hR, hck, x0, x1, x2]; exact parse_TT_TTF s w hz2 hv hcol hsch hsl x0 x1 x2
              | true =>
                cases x3 : isB (cut2 (reS s) 35) ⟨#[58, 64, 47, 63]⟩ with
                | false => rw [hR, hck, x0, x1, x2, x3]; exact parse_TT_TTTF s w hz2 hv hcol hsch hsl x0 x1 x2 x3
                | true =>
                  rw [hR, hck, x0, x1, x2, x3]; exact parse_TT_TTTT s w hz2 hv hcol hsch hsl x0 x1 x2 x3
        | false =>
          have hm2 : (midR s).2 = true := congrArg Prod.snd (fore_F _ (p0 s (reS s)) hsl)
          cases x1 : pathB (midR s).1.pa (midR s).1.ha (midR s).1.hs with
          | false => rw [hR, hck, hm2, x1]; exact parse_TF_F s w hz2 hv hcol hsch hsl x1
          | true =>
            cases x2 : isB (cut2 (cut1 (reS s) 35) 63) ⟨#[58, 64, 47, 63]⟩ with
            | false => rw [hR, hck, hm2, x1, x2]; exact parse_TF_TF s w hz2 hv hcol hsch hsl x1 x2
            | true =>
              cases x3 : isB (cut2 (reS s) 35) ⟨#[58, 64, 47, 63]⟩ with
              | false => rw [hR, hck, hm2, x1, x2, x3]; exact parse_TF_TTF s w hz2 hv hcol hsch hsl x1 x2 x3
              | true =>
                rw [hR, hck, hm2, x1, x2, x3]; exact parse_TF_TTT s w hz2 hv hcol hsch hsl x1 x2 x3
    | false =>
      have hR := hR (by rw [hcol]; rfl)
      cases hsl : Lib.hasPrefix (cut1 (cut1 (reS s) 35) 63).data.toList [47, 47] with
      | true =>
        cases x0 : (midR s).2 with
        | false => rw [hR, hck, x0]; exact parse_FT_F s w hz2 hv hcol hsl x0
        | true =>
          cases x1 : pathB (midR s).1.pa (midR s).1.ha (midR s).1.hs with
          | false => rw [hR, hck, x0, x1]; exact parse_FT_TF s w hz2 hv hcol hsl x0 x1
          | true =>
            cases x2 : isB (cut2 (cut1 (reS s) 35) 63) ⟨#[58, 64, 47, 63]⟩ with
            | false => rw [hR, hck, x0, x1, x2]; exact parse_FT_TTF s w hz2 hv hcol hsl x0 x1 x2
            | true =>
              cases x3 : isB (cut2 (reS s) 35) ⟨#[58, 64, 47, 63]⟩ with
              | false => rw [hR, hck, x0, x1, x2, x3]; exact parse_FT_TTTF s w hz2 hv hcol hsl x0 x1 x2 x3
              | true =>
                rw [hR, hck, x0, x1, x2, x3]; exact parse_FT_TTTT s w hz2 hv hcol hsl x0 x1 x2 x3
      | false =>
        have hm2 : (midR s).2 = true := congrArg Prod.snd (fore_F _ (p0 s (reS s)) hsl)
        cases x1 : pathB (midR s).1.pa (midR s).1.ha (midR s).1.hs with
        | false => rw [hR, hck, hm2, x1]; exact parse_FF_F s w hz2 hv hcol hsl x1
        | true =>
          cases x2 : isB (cut2 (cut1 (reS s) 35) 63) ⟨#[58, 64, 47, 63]⟩ with
          | false => rw [hR, hck, hm2, x1, x2]; exact parse_FF_TF s w hz2 hv hcol hsl x1 x2
          | true =>
            cases x3 : isB (cut2 (reS s) 35) ⟨#[58, 64, 47, 63]⟩ with
            | false => rw [hR, hck, hm2, x1, x2, x3]; exact parse_FF_TTF s w hz2 hv hcol hsl x1 x2 x3
            | true =>
              rw [hR, hck, hm2, x1, x2, x3]; exact parse_FF_TTT s w hz2 hv hcol hsl x1 x2 x3
end Go.Proofs.YtakdjflhhaefiaaGreatDoor
