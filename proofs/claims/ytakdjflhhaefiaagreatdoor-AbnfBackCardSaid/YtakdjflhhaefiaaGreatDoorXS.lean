/- THE EXECUTOR OVER THIS SEAT's PROGRAM. -/
import Derived.Test.YtakdjflhhaefiaaGreatDoorXM2
import Derived.Test.YtakdjflhhaefiaaGreatDoorChecked
import Derived.Laws.Externs
import Derived.Laws.StandIn
import Derived.KernelRfl
import Derived.Lib.MakeNoZero
namespace Go.Proofs.YtakdjflhhaefiaaGreatDoor
open Go.Xc

noncomputable def mkT (t : Nat) : Option TI := match Tryz.prog.underlying t, Tryz.prog.info? t with
  | some d, some i => some ⟨d, i.size, i.bytes, i.zero⟩
  | _, _ => none

noncomputable def XC : Ctx := { P := Tryz.prog, G := 8, ti := mkT, fn := fun f => Tryz.prog.funcs[f]?, ext := fun f => if f = 163 then some .indexByte else if f = 165 then some .noEscape else if f = 168 then some .count else if f = 170 then some .noZero else none, sum := fun _ _ _ => none }

def tab64 : List Value := [0, 1, 56, 2, 57, 49, 28, 3, 61, 58, 42, 50, 38, 29, 17, 4, 62, 47, 59, 36, 45, 43, 51, 22, 53, 39, 33, 30, 24, 18, 12, 5, 63, 55, 48, 27, 60, 41, 37, 16, 46, 35, 44, 21, 52, 32, 23, 11, 54, 26, 40, 15, 34, 20, 31, 10, 25, 14, 19, 9, 13, 8, 7, 6].map fun n => Value.int .u8 n
def tab10 : List Value := [1, 10, 100, 1000, 10000, 100000, 1000000, 10000000, 100000000, 1000000000, 10000000000, 100000000000, 1000000000000, 10000000000000, 100000000000000, 1000000000000000, 10000000000000000, 100000000000000000, 1000000000000000000, 10000000000000000000].map fun n => Value.int .u64 n
noncomputable def glob : AH := ⟨8, 8, ((NM.leaf : NM AObj).set 5 (.ro tab10)).set 7 (.ro tab64)⟩
end Go.Proofs.YtakdjflhhaefiaaGreatDoor
/- THE EXECUTOR OVER THIS SEAT's PROGRAM: its context is sound. -/
namespace Go.Proofs.YtakdjflhhaefiaaGreatDoor
open Go.Xc

theorem XC_fnAll : (Tryz.prog.funcs.toList.all fun fn => !(fn.body.isSome && (fn.name == "runtime.NumGoroutine"))) = true := by kernel_rfl

theorem f163 : ∃ fn, Tryz.prog.funcs[163]? = some fn ∧ (fn.name == "runtime.NumGoroutine") = false ∧ fn.body.isNone = true ∧ Extern.findNext fn = none ∧ Extern.find fn = some Extern.BytealgIndexByte.indexByte :=
  ⟨_, Tryz.func163, by kernel_rfl, by kernel_rfl, by kernel_rfl, by kernel_rfl⟩
theorem f165 : ∃ fn, Tryz.prog.funcs[165]? = some fn ∧ (fn.name == "runtime.NumGoroutine") = false ∧ fn.body.isNone = true ∧ Extern.findNext fn = none ∧ Extern.find fn = some Extern.AbiNoEscape.same :=
  ⟨_, Tryz.func165, by kernel_rfl, by kernel_rfl, by kernel_rfl, by kernel_rfl⟩
theorem f168 : ∃ fn, Tryz.prog.funcs[168]? = some fn ∧ (fn.name == "runtime.NumGoroutine") = false ∧ fn.body.isNone = true ∧ Extern.findNext fn = none ∧ Extern.find fn = some Extern.BytealgCount.count :=
  ⟨_, Tryz.func168, by kernel_rfl, by kernel_rfl, by kernel_rfl, by kernel_rfl⟩
theorem f170 : ∃ fn ps t, Tryz.prog.funcs[170]? = some fn ∧ (fn.name == "runtime.NumGoroutine") = false ∧ fn.body.isNone = true ∧ Extern.findNext fn = none ∧ fn.resultTypes = #[t] ∧ Extern.find fn = some (Extern.BytealgMakeNoZero.makeNoZero ps #[t]) :=
  ⟨Tryz.f170, #[3], 93, Tryz.func170, by kernel_rfl, by kernel_rfl, by kernel_rfl, by kernel_rfl, by kernel_rfl⟩

theorem XC_P : XC.P = Tryz.prog := rfl
theorem XC_ti : XC.ti = mkT := by kernel_rfl
theorem XC_fn (f : Nat) : XC.fn f = Tryz.prog.funcs[f]? := rfl
theorem XC_fn' (f : Nat) (fn : Func) (h : XC.fn f = some fn) : XC.P.funcs[f]? = some fn := by
  have h' : Tryz.prog.funcs[f]? = some fn := h
  rw [XC_P]
  exact h'
theorem XC_mixed : Tryz.prog.follows .mixedOrders = true := by kernel_rfl
theorem XC_ok : XC.Ok := by
  refine ⟨?_, XC_fn', ?_, ?_, ?_, ?_, ?_, XC_mixed⟩
  · intro t i h
    rw [XC_ti] at h
    have h' := h
    unfold mkT at h'
    split at h'
    · rename_i d inf h1 h2
      simp only [Option.some.injEq] at h'; subst h'
      exact ⟨h1, inf, h2, rfl, rfl, rfl⟩
    · cases h'
  · intro f fn h hb
    have h' : Tryz.prog.funcs[f]? = some fn := h
    have hm : fn ∈ Tryz.prog.funcs.toList := by simpa using Array.mem_of_getElem? h'
    have := List.all_eq_true.1 XC_fnAll fn hm
    cases hn : fn.name == "runtime.NumGoroutine" with
    | false => rfl
    | true => rw [hn, hb] at this; cases this
  all_goals intro f h
  all_goals have h' : (if f = 163 then some Ext.indexByte else if f = 165 then some .noEscape else if f = 168 then some .count else if f = 170 then some .noZero else none) = some _ := h
  all_goals repeat' split at h'
  all_goals try (cases h'; done)
  · rename_i hf; subst hf
    obtain ⟨fn, h1, h2, h3, h4, h5⟩ := f165
    intro v w
    exact (run_callFunc_extern h1 h2 h3 h4 h5 _ w).trans rfl
  · rename_i hf; subst hf
    obtain ⟨fn, h1, h2, h3, h4, h5⟩ := f163
    intro s c w
    refine (run_callFunc_extern h1 h2 h3 h4 h5 _ w).trans ?_
    rw [run_indexByte_string]; rfl
  · rename_i hf; subst hf
    obtain ⟨fn, h1, h2, h3, h4, h5⟩ := f168
    intro s c w
    refine (run_callFunc_extern h1 h2 h3 h4 h5 _ w).trans ?_
    have : (Extern.BytealgCount.count #[.string s, .int .u8 c]).run Tryz.prog w = .ok (.int .i64 (s.foldl (fun (n : Int) x => if x == c.toNat.toUInt8 then n + 1 else n) 0)) w := by
      change Sem.run Tryz.prog (do
        let b ← Extern.Bytes.bytesOf (.string s)
        let c' ← Extern.Bytes.asByte (.int .u8 c)
        pure (goInt (b.foldl (fun n x => if x == c' then n + 1 else n) (0 : Nat)))) w = _
      simp only [Extern.Bytes.bytesOf, Extern.Bytes.asByte, Sem.run_bind, Sem.run_pure, Result.andThen_ok, goInt]
      rfl
    rw [this]; rfl
  · rename_i hf; subst hf
    obtain ⟨fn, ps, t, h1, h2, h3, h4, h5, h6⟩ := f170
    intro fn' t' e hfn ht hu n w hn0 hn1
    have hfn' : Tryz.prog.funcs[170]? = some fn' := hfn
    rw [h1] at hfn'; cases hfn'
    rw [h5] at ht
    have ht2 : t = t' := by simpa using ht
    subst ht2
    obtain ⟨k, rfl⟩ := Int.eq_ofNat_of_zero_le hn0
    obtain ⟨cs, hr, hle, _⟩ := Lib.run_makeNoZero (P := Tryz.prog) w ps t e hu k (by omega)
    refine ⟨cs.size, cs, by simpa using hle, rfl, (run_callFunc_extern h1 h2 h3 h4 h6 _ w).trans ?_⟩
    rw [hr]
    rfl
end Go.Proofs.YtakdjflhhaefiaaGreatDoor
