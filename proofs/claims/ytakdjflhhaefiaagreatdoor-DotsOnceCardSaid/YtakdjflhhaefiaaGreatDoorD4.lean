/- The law DotsClimb's walk. -/
import Derived.Test.YtakdjflhhaefiaaGreatDoorD3
import Derived.Test.YtakdjflhhaefiaaGreatDoorD0
import Derived.Test.YtakdjflhhaefiaaGreatDoorXAw
import Derived.Lib.Repeat
import Derived.Maps.AppendAt
import Derived.Deep.AppendLies
import Derived.Deep.RegionLaw
import Derived.Laws.OwnMore
set_option linter.unusedVariables false
set_option linter.unusedSimpArgs false
namespace Go.Proofs.YtakdjflhhaefiaaGreatDoor
open Go.RowKit Go.Xc

theorem keep_cell {w w' : World} {n : Nat} {a : Addr} {v : Value} (h : w.cell? a = some v) (hn : w.heap.size ≤ n) (hb : Below n w w') : w'.cell? a = some v :=
  (hb.cell (Nat.lt_of_lt_of_le (block_lt_of_cell h) hn)).trans h

theorem info9 : (Tryz.prog.info? 9).map (fun i => (i.zero, i.size, i.bytes)) = some (some (.string ⟨#[]⟩), 1, 16) := by kernel_rfl
/-- append of a row of texts, as one step of a region that draws. -/
theorem step_app {ops : Array Oper} {o : Oper} {a : Act} {w : World} {K : Act → World → Prop} {Q : Exit → Act → World → Prop} {E : Prop}
    (hg : o.guard = none) (s x : Operand) (hop : o.op = Op.call { callee := Callee.builtin Builtin.append, args := #[s, x], argTypes := #[48, 48] })
    (v : Value) (n : Nat) (xs : List Value) (hs : a.eval s = v) (base : Nat) (hown : w.ownsRow base 9 1 v n xs)
    (ad : Addr) (m c : Nat) (news : List Value) (hx : a.eval x = .slice (some ad) m c) (hl : news.length = m) (hc : ∀ j u, news[j]? = some u → w.cell? (ad.add j) = some u) (h1 : ∀ u ∈ news, u.oneCell' = true)
    (hn : n + m ≤ 1000000) (hbase : base ≤ w.heap.size)
    (hK : ∀ v' w', w'.ownsRow base 9 1 v' (n + m) (xs ++ news) → w.grownBy w' v.ownBlock → K (a.put o.dst v') w') :
    if Region.wanted o (yielded ops a.tmps) = true then Oper.wp Tryz.prog o a w K Q else E := by
  have hw : Region.wanted o (yielded ops a.tmps) = true := by simp [Region.wanted, hg]
  rw [if_pos hw]
  obtain ⟨i0, hi, hzz⟩ := Option.map_eq_some_iff.1 info9
  simp only [Prod.mk.injEq] at hzz
  obtain ⟨hz0, hz1, hz2⟩ := hzz
  obtain ⟨v', w', hr, ho, hgr, -, -⟩ := run_append_own_at (P := Tryz.prog) w base 48 o.type 9 i0 (.string ⟨#[]⟩) 1 16 Tryz.underlying48 hi hz0 hz1 hz2 rfl (by decide) v n xs hown ad m c news (by omega) hc h1 (by unfold maxLen; omega) (by omega) hbase
  unfold Oper.wp execOp
  simp only [hop, resolve, invoke, builtin, Sem.run_bind, Sem.run_pure, Result.andThen_ok, List.map_toArray, List.map_cons, List.map_nil, hs, hx, hr]
  exact hK v' w' ho hgr

theorem own_new (X : World) (b n k : Nat) (cs : Array Value) (hn : n = X.heap.size) (hb : b ≤ X.heap.size) (hk : cs.size = k) (h : k ≤ 1000) : (X.alloc (.cells cs 9)).drew.ownsRow b 9 1 (.slice (some ⟨n, 0, none⟩) k k) k cs.toList := by
  subst hn
  exact (World.ownsRow_lit X cs k hb (by unfold maxLen; omega) (by omega)).drew
theorem own_past {X : World} {b n : Nat} {v : Value} {xs : List Value} (h : X.drew.ownsRow b 9 1 v n xs) (o : Obj) : (X.alloc o).drew.ownsRow b 9 1 v n xs :=
  (World.ownsRow.alloc (w := X) h o).drew
theorem add_at (B i j : Nat) : (⟨B, i, none⟩ : Addr).add j = ⟨B, i + j, none⟩ := by
  unfold Addr.add
  split
  · rename_i h; subst h; rfl
  · rfl
theorem own_form {X : World} {b n : Nat} {v : Value} {xs : List Value} (h : X.ownsRow b 9 1 v n xs) (hn : 0 < n) :
    ∃ g cap, v = .slice (some ⟨g, 0, none⟩) n cap ∧ g < X.heap.size ∧ n ≤ cap ∧ ∀ (j : Nat) u, xs[j]? = some u → X.cell? ⟨g, 0 + j, none⟩ = some u := by
  have h2 := h
  rcases h.2 with ⟨_, h0⟩ | ⟨g, cap, cur, hv, hb, hg, hc, _⟩
  · omega
  · refine ⟨g, cap, hv, (Array.getElem?_eq_some_iff.1 hg).1, hc, fun j u hu => ?_⟩
    have h3 := h2.cells (by rw [hv]; rfl) j u hu
    rw [add_at] at h3
    exact h3
theorem news_take {l : List ByteArray} {B i : Nat} {w5 W : World} (hc : ∀ (j : Nat) x, l[j]? = some x → w5.cell? ⟨B, j, none⟩ = some (.string x)) (hb : Below w5.heap.size w5 W) :
    ∀ (j : Nat) u, ((l.take i).map Value.string)[j]? = some u → W.cell? ((⟨B, 0, none⟩ : Addr).add j) = some u := by
  intro j u hu
  rw [List.getElem?_map, List.getElem?_take] at hu
  by_cases hj : j < i
  · rw [if_pos hj] at hu
    obtain ⟨x, hx, rfl⟩ := Option.map_eq_some_iff.1 hu
    have h1 := hc j x hx
    have e : (⟨B, 0, none⟩ : Addr).add j = ⟨B, j, none⟩ := by rw [add_at, Nat.zero_add]
    rw [e]
    exact (hb.cell (block_lt_of_cell h1)).trans h1
  · rw [if_neg hj] at hu; cases hu
theorem news_drop {l : List ByteArray} {B i : Nat} {w5 W : World} (hc : ∀ (j : Nat) x, l[j]? = some x → w5.cell? ⟨B, j, none⟩ = some (.string x)) (hb : Below w5.heap.size w5 W) :
    ∀ (j : Nat) u, ((l.drop i).map Value.string)[j]? = some u → W.cell? ((⟨B, i, none⟩ : Addr).add j) = some u := by
  intro j u hu
  rw [List.getElem?_map, List.getElem?_drop] at hu
  obtain ⟨x, hx, rfl⟩ := Option.map_eq_some_iff.1 hu
  have h1 := hc (i + j) x hx
  have e := add_at B i j
  rw [e]
  exact (hb.cell (block_lt_of_cell h1)).trans h1
theorem news_dot {N : Nat} {W : World} (h : W.cell? ⟨N, 0, none⟩ = some (.string ⟨#[46]⟩)) : ∀ (j : Nat) u, ([Value.string ⟨#[46]⟩] : List Value)[j]? = some u → W.cell? ((⟨N, 0, none⟩ : Addr).add j) = some u := by
  intro j u hu
  cases j with
  | zero => simp at hu; subst hu; exact h
  | succ j => simp at hu
theorem ones (l : List ByteArray) : ∀ u ∈ l.map Value.string, u.oneCell' = true := by
  intro u hu
  obtain ⟨x, _, rfl⟩ := List.mem_map.1 hu
  rfl
theorem jn_len (a b : List (List UInt8)) : (jn (a ++ [46] :: b)).length = (jn (a ++ b)).length + 2 := by
  rw [jn_append, jn_append, jn_cons]
  simp
  omega
theorem rel_len (l : List (List UInt8)) (h : l ≠ []) : (rel l).length + 1 = (jn l).length := by
  cases l with
  | nil => exact absurd rfl h
  | cons x l => rw [jn_rel]; simp

def oneB (s : ByteArray) : ByteArray := ⟨#[47]⟩ ++ s
def resB (s : ByteArray) : ByteArray := ⟨(remL s.data.toList).toArray⟩
def repB (n : Int) : ByteArray := ⟨(Lib.repeatL [46, 46, 47] (n % 40).toNat).toArray⟩
theorem repB_list (n : Int) : (repB n).data.toList = Lib.repeatL [46, 46, 47] (n % 40).toNat := rfl
theorem repB_size {n : Int} (hn : 0 ≤ n) : (repB n).size ≤ 120 := by
  rw [size_len, repB_list, Lib.repeatL_length]
  have : n % 40 < 40 := Int.emod_lt_of_pos _ (by decide)
  simp
  omega
theorem rep_any {n : Int} (hn : 0 ≤ n) (w : World) : Calls Tryz.prog 34 #[.string ⟨#[46, 46, 47]⟩, .int .i64 (n % 40)] w fun e w' => e = .returned (.string (repB n)) ∧ Below w.heap.size w w' := by
  have h0 : 0 ≤ n % 40 := Int.emod_nonneg _ (by decide)
  have h1 : n % 40 < 40 := Int.emod_lt_of_pos _ (by decide)
  have := Tryz.strings_Repeat ⟨#[46, 46, 47]⟩ (n % 40).toNat w (by omega) (by show 3 * _ ≤ _; omega)
  rw [Int.toNat_of_nonneg h0] at this
  exact this
theorem res_climb (s : ByteArray) (n : Int) : resB (⟨#[47]⟩ ++ repB n ++ s) = resB (oneB s) := by
  unfold resB oneB
  rw [append_list, append_list, append_list, repB_list]
  show (⟨(remL ([47] ++ _ ++ _)).toArray⟩ : ByteArray) = ⟨(remL ([47] ++ _)).toArray⟩
  rw [List.append_assoc]
  have := remL_climb s.data.toList (n % 40).toNat
  exact congrArg (fun l : List UInt8 => (⟨l.toArray⟩ : ByteArray)) this
/-- The steps with a point between, put together. -/
def moreL (l : List ByteArray) (i : Nat) : List ByteArray := l.take i ++ ⟨#[46]⟩ :: l.drop i
def moreB (l : List ByteArray) (i : Nat) : ByteArray := ⟨(Lib.join ((moreL l i).map (·.data.toList)) [47]).toArray⟩
theorem moreL_data (l : List ByteArray) (i : Nat) : (moreL l i).map (·.data.toList) = (l.map (·.data.toList)).take i ++ [46] :: (l.map (·.data.toList)).drop i := by
  unfold moreL
  rw [List.map_append, List.map_take, List.map_cons, List.map_drop]
theorem more_join (s : ByteArray) (i : Nat) : Lib.join ((moreL (stepsB s) i).map (·.data.toList)) [47] = rel ((spl 47 s.data.toList).take i ++ [46] :: (spl 47 s.data.toList).drop i) := by
  rw [moreL_data, steps_list]
  cases h : (spl 47 s.data.toList).take i ++ [46] :: (spl 47 s.data.toList).drop i with
  | nil => simp at h
  | cons x xs => exact join_rel x xs
theorem more_len (s : ByteArray) (i : Nat) : (Lib.join ((moreL (stepsB s) i).map (·.data.toList)) [47]).length = s.size + 2 := by
  rw [more_join]
  have h1 := rel_len ((spl 47 s.data.toList).take i ++ [46] :: (spl 47 s.data.toList).drop i) (by simp)
  rw [jn_len, List.take_append_drop] at h1
  have h2 := rel_len (spl 47 s.data.toList) (spl_ne 47 _)
  rw [rel_spl] at h2
  rw [size_len]; omega
theorem res_more (s : ByteArray) (i : Nat) (hi : i < (stepsB s).length) : resB (⟨#[47]⟩ ++ moreB (stepsB s) i) = resB (oneB s) := by
  have hi' : i < (spl 47 s.data.toList).length := by rw [← steps_list, List.length_map]; exact hi
  have := remL_insert s.data.toList i hi'
  unfold resB oneB
  rw [append_list, append_list]
  have e : (moreB (stepsB s) i).data.toList = rel ((spl 47 s.data.toList).take i ++ [46] :: (spl 47 s.data.toList).drop i) := by
    unfold moreB
    rw [more_join]
  rw [e]
  exact congrArg (fun l : List UInt8 => (⟨l.toArray⟩ : ByteArray)) this

set_option maxHeartbeats 4000000 in
set_option maxRecDepth 100000 in
theorem climb_small (s : ByteArray) (n a : Int) (hs : s.size ≤ 500) (hn : 0 ≤ n) (hn2 : n < 256) (ha : 0 ≤ a) (ha2 : a < 256) {w : World} (hg : Xc.Good XC glob w.heap.size w) (hm : ∃ m, w.cell? ⟨0, 0, none⟩ = some (.int .i64 m)) :
    Calls Tryz.prog 10 #[.string s, .int .u8 n, .int .u8 a] w fun e w' => e = .returned (.bool true) ∧ Below w.heap.size w w' := by
  obtain ⟨m, hm⟩ := hm
  have HM := Lib.hid hm
  have ca := Lib.hid (awake16 hg)
  have hrs := repB_size hn
  have hll : (stepsB s).length ≤ 501 := by have := steps_le s; omega
  have hl0 : 0 < ((stepsB s).length : Int) := by rw [steps_len]; omega
  obtain ⟨i, hi⟩ : ∃ i : Nat, a % ((stepsB s).length : Int) = (i : Int) := ⟨(a % ((stepsB s).length : Int)).toNat, (Int.toNat_of_nonneg (Int.emod_nonneg _ (by omega))).symm⟩
  have hil : i < (stepsB s).length := by have := Int.emod_lt_of_pos a hl0; omega
  have HS1 : Hid (∀ (w : World), Calls Tryz.prog 23 #[.string (⟨#[47]⟩ ++ s)] w fun e w' => e = .returned (.string (resB (oneB s))) ∧ Below w.heap.size w w') := Lib.hid (fun w => remove_any _ w (by rw [ByteArray.size_append]; show 1 + s.size < _; omega))
  have HS2 : Hid (∀ (w : World), Calls Tryz.prog 23 #[.string (⟨#[47]⟩ ++ repB n ++ s)] w fun e w' => e = .returned (.string (resB (oneB s))) ∧ Below w.heap.size w w') := Lib.hid (fun w => by
    rw [← res_climb s n]
    exact remove_any _ w (by rw [ByteArray.size_append, ByteArray.size_append]; show 1 + _ + s.size < _; omega))
  have hms : (moreB (stepsB s) i).size ≤ 502 := by rw [size_len]; show (Lib.join _ _).length ≤ _; rw [more_len]; omega
  have HS3 : Hid (∀ (w : World), Calls Tryz.prog 23 #[.string (⟨#[47]⟩ ++ moreB (stepsB s) i)] w fun e w' => e = .returned (.string (resB (oneB s))) ∧ Below w.heap.size w w') := Lib.hid (fun w => by
    rw [← res_more s i hil]
    exact remove_any _ w (by rw [ByteArray.size_append]; show 1 + _ < _; omega))
  have HRP := Lib.hid (fun w => rep_any hn w)
  have HSP : Hid (∀ (w1 : World), Below w.heap.size w w1 → Calls Tryz.prog 24 #[.string s, .string ⟨#[47]⟩] w1 fun e w' => e = .returned (.slice (some ⟨w1.heap.size, 0, none⟩) (stepsB s).length (stepsB s).length) ∧ Below w1.heap.size w1 w' ∧ w1.heap.size < w'.heap.size ∧ ∀ (j : Nat) x, (stepsB s)[j]? = some x → w'.cell? ⟨w1.heap.size, j, none⟩ = some (.string x)) :=
    Lib.hid (fun w1 hb => (split_any s m w1 (by omega) (keep_cell HM.out (Nat.le_refl _) hb)).mono (fun e w' h => by
      obtain ⟨h1, rfl⟩ := h
      refine ⟨h1, (Below.refl _ _).alloc (Nat.le_refl _) _, by simp, fun j x hx => ?_⟩
      rw [World.cell?_alloc_at _ _ _ _ rfl]
      simp [hx]))
  have HJN : Hid (∀ (bk c : Nat) (w : World), (∀ (j : Nat) x, (moreL (stepsB s) i)[j]? = some x → w.cell? ⟨bk, 0 + j, none⟩ = some (.string x)) → bk < w.heap.size → (moreL (stepsB s) i).length ≤ c →
      Calls Tryz.prog 35 #[.slice (some ⟨bk, 0, none⟩) (moreL (stepsB s) i).length c, .string ⟨#[47]⟩] w fun e w' => e = .returned (.string (moreB (stepsB s) i)) ∧ Below w.heap.size w w') :=
    Lib.hid (fun bk c w h1 h2 h3 => Tryz.strings_Join bk 0 c (moreL (stepsB s) i) ⟨#[47]⟩ w h1 h2 (by unfold moreL; simp; omega) h3 (by
      have := more_len s i
      show (Lib.join ((moreL (stepsB s) i).map (·.data.toList)) [47]).length ≤ _
      omega))
  have HML : Hid ((moreL (stepsB s) i).length = (stepsB s).length + 1 ∧ moreL (stepsB s) i = (stepsB s).take i ++ ⟨#[46]⟩ :: (stepsB s).drop i) := Lib.hid ⟨by unfold moreL; simp; omega, rfl⟩
  have hlt : ¬ (500 : Int) < (s.size : Int) := by omega
  clear hg hm
  generalize resB (oneB s) = want at HS1 HS2 HS3
  generalize repB n = rp at HS2 HRP hrs
  generalize moreB (stepsB s) i = mb at HS3 HJN hms
  generalize moreL (stepsB s) i = ml at HJN HML
  generalize stepsB s = l at HSP hll hl0 hi hil HML
  go_enter Tryz.func10, Tryz.ntmps10
  go_wp2_with (first | (go_at_call 24; refine (HSP.out w4 HB4.out).mono ?_; rintro e w5 ⟨rfl, hb, h5, hc⟩; have HB5 := Lib.hid (HB4.out.trans (hb.mono HB4.out.size)); have HC5 := Lib.hid hc; have H5 := Lib.hid h5; clear hb h5 hc) | (go_at_call 23; refine (HS2.out w3).mono ?_; rintro e w4 ⟨rfl, hb⟩; have HB4 := Lib.hid (HB3.out.trans (hb.mono HB3.out.size)); clear hb) | (go_at_call 34; refine (HRP.out w2).mono ?_; rintro e w3 ⟨rfl, hb⟩; have HB3 := Lib.hid (HB2.out.trans (hb.mono HB2.out.size)); clear hb) | (go_at_call 23; refine (HS1.out w1).mono ?_; rintro e w2 ⟨rfl, hb⟩; have HB2 := Lib.hid (HB1.out.trans (hb.mono HB1.out.size)); clear hb) | (go_at_call 22; refine ca.out.mono ?_; rintro e w1 ⟨rfl, hb⟩; have HB1 := Lib.hid hb; clear hb))
  have hil2 : i ≤ l.length := by omega
  have hil3 : ¬ l.length = i := by omega
  go_region_law (first | (go_simp; go_at_call 35; refine (HJN.out g cap w8 (fun j x hx => HCL.out j _ (by rw [List.getElem?_map, hx]; rfl)) HGL.out HCAP.out).mono ?_; rintro e w9 ⟨rfl, hb⟩; have HB9 := Lib.hid (HB5.out.trans ((HB8.out.trans (hb.mono HB8.out.size)).mono HB5.out.size)); clear hb) | (refine step_app rfl (.tmp 42) (.tmp 45) rfl v7 (0 + i + 1) ([] ++ (l.take i).map Value.string ++ [.string ⟨#[46]⟩]) rfl w5.heap.size ?_ ⟨w4.heap.size, i, none⟩ (l.length - i) (l.length - i) ((l.drop i).map Value.string) rfl ?_ ?_ ?_ ?_ ?_ ?_; (focus (exact HO7.out)); (focus (simp)); (focus (exact news_drop HC5.out HB7.out)); (focus (exact ones _)); (focus (omega)); (focus (exact HB7.out.size)); intro v8 w8 ho8 hg8; have HB8 : Hid (Below w5.heap.size w5 w8) := Lib.hid (Below.grown HB7.out hg8 HB7.out.size (fun k e => (HO7.out.lt k e).1)); have HO8 : Hid (w8.ownsRow w5.heap.size 9 1 v8 ml.length (ml.map Value.string)) := Lib.hid (by have e1 : 0 + i + 1 + (l.length - i) = ml.length := (by have := HML.out.1; omega); have e2 : ([] ++ (l.take i).map Value.string ++ [Value.string ⟨#[46]⟩] ++ (l.drop i).map Value.string) = ml.map Value.string := (by rw [HML.out.2]; simp); rw [e1, e2] at ho8; exact ho8); clear ho8 hg8; obtain ⟨g, cap, rfl, hgl, hcap, hcl⟩ := own_form HO8.out (by have := HML.out.1; omega); have HCL := Lib.hid hcl; have HGL := Lib.hid hgl; have HCAP := Lib.hid hcap; clear hcl hgl hcap) | (refine step_app rfl (.tmp 40) (.tmp 41) rfl v6 (0 + i) ([] ++ (l.take i).map Value.string) rfl w5.heap.size ?_ ⟨_, 0, none⟩ 1 1 [.string ⟨#[46]⟩] rfl ?_ ?_ ?_ ?_ ?_ ?_; (focus (first | exact HO6.out | exact HO6.out.alloc _)); (focus (rfl)); (focus (exact news_dot (by first | exact World.cell?_alloc_at _ _ _ _ rfl | exact (HG6.out.cell_far ⟨w5.heap.size + 1, 0, none⟩ (show w5.heap.size + 1 < ((w5.heap.push _).push _).size by simp) (show (some (w5.heap.size + 1) : Option Nat) ≠ some w5.heap.size by simp)).trans (World.cell?_alloc_at _ _ _ _ (by simp)) | exact (HG6.out.cell_far ⟨w5.heap.size, 0, none⟩ (show w5.heap.size < ((w5.heap.push _).push _).size by simp <;> omega) (show (some w5.heap.size : Option Nat) ≠ some (w5.heap.size + 1) by simp)).trans ((World.cell?_alloc_past _ _ _ (by simp)).trans (World.cell?_alloc_at _ _ _ _ rfl))))); (focus (exact ones [⟨#[46]⟩])); (focus (omega)); (focus (first | exact HB6.out.size | exact Nat.le_trans HB6.out.size (by simp))); intro v7 w7 ho7 hg7; have HB7 : Hid (Below w5.heap.size w5 w7) := Lib.hid (Below.grown (by (first | exact HB6.out | exact HB6.out.alloc HB6.out.size _)) hg7 (by first | exact HB6.out.size | (have hx := HB6.out.size; simp only [World.size_alloc]; omega)) (fun k e => (HO6.out.lt k e).1)); have HO7 := Lib.hid ho7; clear ho7) | (refine step_app rfl (.tmp 36) (.tmp 39) rfl _ 0 [] rfl w5.heap.size ?_ ⟨w4.heap.size, 0, none⟩ i l.length ((l.take i).map Value.string) rfl ?_ ?_ ?_ ?_ ?_ ?_; (focus (first | exact own_new w5 _ _ 0 #[] rfl (Nat.le_refl _) rfl (by omega) | exact own_past (own_new w5 _ _ 0 #[] rfl (Nat.le_refl _) rfl (by omega)) _ | exact own_new (w5.alloc _) _ _ 0 #[] (by simp) (by simp) rfl (by omega))); (focus (rw [List.length_map, List.length_take]; omega)); (focus (exact news_take HC5.out (by (first | exact ((Below.refl _ w5).alloc (Nat.le_refl _) _).drew | exact (((Below.refl _ w5).alloc (Nat.le_refl _) _).alloc (by simp) _).drew)))); (focus (exact ones _)); (focus (omega)); (focus (simp <;> omega)); intro v6 w6 ho6 hg6; have HB6 : Hid (Below w5.heap.size w5 w6) := Lib.hid (Below.grown (by (first | exact ((Below.refl _ w5).alloc (Nat.le_refl _) _).drew | exact (((Below.refl _ w5).alloc (Nat.le_refl _) _).alloc (by simp) _).drew)) hg6 (by simp <;> omega) (fun k e => by cases e; simp)); have HO6 := Lib.hid ho6; clear ho6; have HG6 := Lib.hid hg6; clear hg6))
  all_goals go_simp
  all_goals go_wp2_with (first | (go_at_call 23; refine (HS3.out w9).mono ?_; rintro e w10 ⟨rfl, hb⟩; have HB10 := Lib.hid (HB9.out.trans (hb.mono HB9.out.size)); clear hb))
  all_goals go_ret
  all_goals refine ⟨?_, HB10.out⟩
  all_goals first | rfl | (congr 2; exact beq_self_eq_true _)
theorem climb_large (s : ByteArray) (n a : Int) (hs : ¬ s.size ≤ 500) {w : World} (hg : Xc.Good XC glob w.heap.size w) :
    Calls Tryz.prog 10 #[.string s, .int .u8 n, .int .u8 a] w fun e w' => e = .returned (.bool true) ∧ Below w.heap.size w w' := by
  have ca := Lib.hid (awake16 hg)
  have hlt : (500 : Int) < (s.size : Int) := by omega
  clear hg
  go_enter Tryz.func10, Tryz.ntmps10
  go_wp2_with (first | (go_at_call 22; refine ca.out.mono ?_; rintro e w1 ⟨rfl, hb⟩; have HB1 := Lib.hid hb; clear hb))
  go_ret
  exact ⟨rfl, HB1.out⟩
theorem climb_all (s : ByteArray) (n a : Int) (hn : 0 ≤ n) (hn2 : n < 256) (ha : 0 ≤ a) (ha2 : a < 256) {w : World} (hg : Xc.Good XC glob w.heap.size w) (hm : ∃ m, w.cell? ⟨0, 0, none⟩ = some (.int .i64 m)) :
    Calls Tryz.prog 10 #[.string s, .int .u8 n, .int .u8 a] w fun e w' => e = .returned (.bool true) ∧ Below w.heap.size w w' := by
  by_cases hs : s.size ≤ 500
  · exact climb_small s n a hs hn hn2 ha ha2 hg hm
  · exact climb_large s n a hs hg
theorem byte_wf {n : Int} (h : (Lit.int .u8 n).wf = true) : 0 ≤ n ∧ n < 256 := by
  unfold Lit.wf at h
  rw [Bool.and_eq_true] at h
  have h1 : (0 : Int) ≤ n := of_decide_eq_true h.1
  have h2 : n ≤ 255 := of_decide_eq_true h.2
  omega
theorem climb_card (s : ByteArray) (n : Int) (hn : (Lit.int .u8 n).wf = true) (a : Int) (ha : (Lit.int .u8 a).wf = true) {w : World} (hg : Xc.Good XC glob w.heap.size w) (hm : ∃ m, w.cell? ⟨0, 0, none⟩ = some (.int .i64 m)) :
    Calls Tryz.prog 10 #[.string s, .int .u8 n, .int .u8 a] w fun e w' => e = .returned (.bool true) ∧ Below w.heap.size w w' :=
  climb_all s n a (byte_wf hn).1 (byte_wf hn).2 (byte_wf ha).1 (byte_wf ha).2 hg hm
end Go.Proofs.YtakdjflhhaefiaaGreatDoor
