/- Sachs: part 9 of the texts of this claim, joined by a program: the walks over the program's text, the plain laws, the card. No condition beyond the statement's own. -/
import Derived.Test.YtglalkenkmijkaaDoorJSachs7
import Derived.Test.YtglalkenkmijkaaDoorJSachs8
import Derived.Test.YtglalkenkmijkaaDoorRows
import Derived.Test.YtglalkenkmijkaaDoorJSachs0
import Derived.Lib.LaidTab
import Derived.LaidMore
import Derived.ChangeSame
import Derived.ProofKit
import Derived.Stop.Joined
import Derived.Stop.LaidErr
/- TonesSachs, the plain law: the number of Tones at n - k is the first result of Figures for k knots. No condition beyond the statement's own. -/
namespace Go.Proofs.YtglalkenkmijkaaDoor.Pure
open Go.RowKit Enum Hand Go.Proofs.YtglalkenkmijkaaDoor.PAll Go.Proofs.YtglalkenkmijkaaDoorW.PrintWords Go.Proofs.YtglalkenkmijkaaDoorW.PrintLast
set_option linter.unusedVariables false

theorem few_nil (l : List Int) : clochelaw08_few.f l [] = some (decide (l.length ≤ 40)) := by
  unfold clochelaw08_few.f
  by_cases h : (l.length : Int) ≤ 40
  · rw [if_pos h, decide_eq_true (by omega : l.length ≤ 40)]; rfl
  · rw [if_neg h, decide_eq_false (by omega : ¬ l.length ≤ 40)]
theorem sachs_loop {l x y : List Int} (hf : isFr l = true) (hx : ∀ m, 800 ≤ m → ofF l gneg gneg2 m = some x) (hy : ∀ m, 800 ≤ m → ofF l gid gid m = some y) (hxl : x.length = l.length + 1)
    (hex : ∀ k, k ≤ l.length → cof x (l.length - k) = ev (has (adjF l)) k (EO (-1) (-2) l.length 8 (2 ^ l.length - 1))) (hey : ∀ k, k ≤ l.length → cof y (l.length - k) = ev (has (adjF l)) k (EO 1 1 l.length 8 (2 ^ l.length - 1))) :
    ∀ d i m, i + d = l.length + 1 → 800 ≤ m → clochelaw08_TonesSachs.l0 (m + d + 1) l (l.length : Int) x (i : Int) = some true
  | 0, i, m, h, hm => by
    rw [clochelaw08_TonesSachs.l0, if_neg (by omega)]
    rfl
  | d + 1, i, m, h, hm => by
    have hl := isFr_len hf
    have ih := sachs_loop hf hx hy hxl hex hey d (i + 1) m (by omega) hm
    have hfig : tones_Figures.f (m + d + 1) l (i : Int) = some (cof x (l.length - i), cof y (l.length - i), 0) := by
      unfold tones_Figures.f figuresF
      rw [if_pos ⟨hf, by omega, by omega⟩, hx _ (by omega), hy _ (by omega), Option.bind_some, Option.bind_some]
      rw [show (l.length : Int) - (i : Int) = ((l.length - i : Nat) : Int) by omega, rd_cof, rd_cof]
    have hwr : wrap64 ((l.length : Int) - i) = ((l.length - i : Nat) : Int) := by unfold wrap64; omega
    obtain ⟨c1, c2⟩ := ev_counts (has (adjF l)) i (-1) (-2) l.length 8 (2 ^ l.length - 1)
    rw [show m + (d + 1) + 1 = (m + d + 1) + 1 from by omega, clochelaw08_TonesSachs.l0, if_pos (by omega), hfig, Option.bind_some]
    dsimp only
    rw [if_pos rfl, hwr, if_pos (by omega), if_pos (by omega), if_pos (rd_cof x _).symm, hex i (by omega), hey i (by omega), if_neg (by omega), wrap_succ (by omega), ih]
    by_cases h0 : i = 0
    · subst h0
      obtain ⟨_, t2, t3, _⟩ := top_nat l.length (by omega)
      have h1 := ev_EO_zero (has_mult (adjF l)) 1 1 l.length l.length 8 _ t2 t3 (by omega)
      rw [if_pos (show ((0 : Nat) : Int) = 0 from rfl), h1, if_pos rfl, if_neg (by decide)]
    · rw [if_neg (by omega)]
      by_cases hz : ev (has (adjF l)) i (EO 1 1 l.length 8 (2 ^ l.length - 1)) = 0
      · rw [if_pos hz, if_pos (c2 hz)]
      · rw [if_neg hz]
/-- A polynomial whose last number is 1 keeps it. -/
theorem trimZ_monic {r : List Int} {n : Nat} (hl : r.length = n + 1) (h : cof r n = 1) : trimZ r = r :=
  trimZ_stop r (.inr (by
    rw [show ((r.length : Int) - 1) = ((n : Nat) : Int) by omega, rd_cof, h]; rfl))
theorem TonesSachs : clochelaw08_TonesSachs.Pure := by
  intro l _ _ _
  refine ⟨1000, ?_⟩
  unfold clochelaw08_TonesSachs.f
  rw [few_nil, Option.bind_some]
  by_cases h40 : l.length ≤ 40
  · rw [decide_eq_true h40, if_pos rfl, isFrame_eq l 1000 (by decide), Option.bind_some]
    cases hf : isFr l with
    | false => rfl
    | true =>
      have hl := isFr_len hf
      have hxs : ∀ m, 800 ≤ m → ∃ r, ofF l gneg gneg2 m = some r ∧ r.length = l.length + 1 ∧ ∀ k, k ≤ l.length → cof r (l.length - k) = ev (has (adjF l)) k (EO (-1) (-2) l.length 8 (2 ^ l.length - 1)) := of_ev hf lin_neg lin_neg2 mass_sachs
      have hys : ∀ m, 800 ≤ m → ∃ r, ofF l gid gid m = some r ∧ r.length = l.length + 1 ∧ ∀ k, k ≤ l.length → cof r (l.length - k) = ev (has (adjF l)) k (EO 1 1 l.length 8 (2 ^ l.length - 1)) := of_ev hf lin_id lin_id mass_many
      obtain ⟨x, hx, hxl, hex⟩ := hxs 800 (by decide)
      obtain ⟨y, hy, hyl, hey⟩ := hys 800 (by decide)
      have hx' : ∀ m, 800 ≤ m → ofF l gneg gneg2 m = some x := fun m hm => at_rounds (g := fun k => ofF l gneg gneg2 k) (fun k => ofF_mono l gneg gneg2 k) hm hx
      have hy' : ∀ m, 800 ≤ m → ofF l gid gid m = some y := fun m hm => at_rounds (g := fun k => ofF l gid gid k) (fun k => ofF_mono l gid gid k) hm hy
      obtain ⟨_, t2, t3, _⟩ := top_nat l.length (by omega)
      have h1 : cof x l.length = 1 := by
        have := hex 0 (by omega)
        rw [Nat.sub_zero, ev_EO_zero (has_mult (adjF l)) (-1) (-2) l.length l.length 8 _ t2 t3 (by omega)] at this
        exact this
      have htr := trimZ_monic hxl h1
      have hton : tones_Tones.f 999 l = some (x, 0) := by
        unfold tones_Tones.f tonesF
        rw [if_pos hf, hx' 999 (by decide), Option.bind_some, if_pos (by omega), htr]
      show clochelaw08_TonesSachs.j0 1000 l (!true) = some true
      rw [Bool.not_true, clochelaw08_TonesSachs.j0, if_neg (by decide), hton, Option.bind_some]
      dsimp only
      have hw1 : wrap64 ((l.length : Int) + 1) = (l.length : Int) + 1 := by unfold wrap64; omega
      rw [if_pos rfl, hw1, hxl, if_pos (by omega), if_pos (by omega), if_pos (by omega), rd_cof, h1, clochelaw08_TonesSachs.j1, if_neg (by decide)]
      have := sachs_loop hf hx' hy' hxl hex hey (l.length + 1) 0 (998 - (l.length + 1) - 1) (by omega) (by omega)
      rw [show 998 - (l.length + 1) - 1 + (l.length + 1) + 1 = 998 by omega] at this
      exact this
  · rw [decide_eq_false h40, if_neg (by decide)]
    rfl
end Go.Proofs.YtglalkenkmijkaaDoor.Pure
/- From the row's condition on the listed variables to what the walks ask of them; a start that meets it. -/
namespace Go.Proofs.YtglalkenkmijkaaDoor.Hand
open Go.RowKit Go.Proofs.YtglalkenkmijkaaDoorW.PrintWords Go.ChangeShapes
def laidAll : List (String × DataW Unit) := [("math/bits.deBruijn32tab", Rows.laid_math_bits_deBruijn32tab), ("math/bits.deBruijn64tab", Rows.laid_math_bits_deBruijn64tab), ("cloche/tones.sachs", Rows.laid_cloche_tones_sachs), ("cloche/tones.many", Rows.laid_cloche_tones_many), ("cloche/tones.matched", Rows.laid_cloche_tones_matched)]
def tab32 : List Int := [0, 1, 28, 2, 29, 14, 24, 3, 30, 22, 20, 15, 25, 17, 4, 8, 31, 27, 13, 23, 21, 19, 16, 7, 26, 12, 18, 6, 11, 5, 10, 9]
theorem door_met (os : Os) (args : Array Value) : laidMetH Tryd.prog laidAll ((World.doorLaid Tryd.prog 65 os).forCall (fun _ _ => 0) ⟨#[], args, []⟩).memory :=
  laidMetH_of_parts3 (fuel := 8) (laidMet_of_run' 8 (by kernel_rfl) (by kernel_rfl)) (by kernel_rfl) (by kernel_rfl)
theorem pair_of {W : World} {n : String} {g : Nat} {f0 f1 : FuncId} {b0 b1 : UInt8} {r0 r1 : List UInt8} (h : funcsAt Tryd.prog W n (.agg [.iface "func" (.lit (.string (b0 :: r0))), .iface "func" (.lit (.string (b1 :: r1)))]))
    (hg : Tryd.prog.globalNamed n = some g) (ht : (Tryd.prog.globals[g]?).map (·.type) = some 57)
    (h0 : ((List.range Tryd.prog.funcs.size).filter fun f => (Tryd.prog.funcs[f]?).any (·.name.toUTF8.data.toList == b0 :: r0)) = [f0]) (h1 : ((List.range Tryd.prog.funcs.size).filter fun f => (Tryd.prog.funcs[f]?).any (·.name.toUTF8.data.toList == b1 :: r1)) = [f1]) :
    W.cell? ⟨g, 0, none⟩ = some (.func (.func f0) #[] #[]) ∧ W.cell? ⟨g, 1, none⟩ = some (.func (.func f1) #[] #[]) := by
  obtain ⟨g', t, cs, fuel, p, hg', ht', hv, hd⟩ := h
  obtain rfl := Option.some.inj (hg.symm.trans hg')
  obtain rfl := Option.some.inj (ht.symm.trans ht')
  have hd' : DataW.trod (funcToken Tryd.prog) Tryd.prog W 0 (fun _ => true) true fuel 57 cs.toList = some (.agg [.held (b0 :: r0), .held (b1 :: r1)], p) := hd
  obtain ⟨y0, y1, n', hx, hl, hr0, hr1⟩ := trod_struct2 Tryd.underlying57 hd'
  have hc55 : Tryd.prog.cellsOf 55 = 1 := by kernel_rfl
  have hc57 : Tryd.prog.cellsOf 57 = 2 := by kernel_rfl
  rw [hc57] at hl
  obtain ⟨v0, v1, hcs⟩ : ∃ v0 v1, cs.toList = [v0, v1] := by
    match h : cs.toList, hl with
    | [v0, v1], _ => exact ⟨v0, v1, rfl⟩
  rw [hcs] at hr0 hr1
  rw [hc55] at hr0 hr1
  have e := congrArg Prod.fst hx
  injection e with e
  injection e with e0 e
  injection e with e1 _
  have g0 : DataW.trod (funcToken Tryd.prog) Tryd.prog W 0 (fun _ => true) true n' 55 [v0] = some (.held (b0 :: r0), y0.2) := by rw [e0]; exact hr0
  have g1 : DataW.trod (funcToken Tryd.prog) Tryd.prog W 0 (fun _ => true) true n' 55 [v1] = some (.held (b1 :: r1), y1.2) := by rw [e1]; exact hr1
  obtain rfl := func_of_trod Tryd.underlying55 h0 g0
  obtain rfl := func_of_trod Tryd.underlying55 h1 g1
  have c0 := World.var?_cell hg hv 0
  have c1 := World.var?_cell hg hv 1
  have ec : cs = #[.func (.func f0) #[] #[], .func (.func f1) #[] #[]] := by rw [← Array.toArray_toList (xs := cs), hcs]
  rw [ec] at c0 c1
  exact ⟨by simpa using c0, by simpa using c1⟩
theorem glob_of_laid {W : World} (h : laidMetH Tryd.prog laidAll W) : Glob W := by
  have hs := pair_of (h.funcs (n := "cloche/tones.sachs") (List.mem_cons_of_mem _ (List.mem_cons_of_mem _ (List.mem_cons_self ..)))) (g := 0) (by kernel_rfl) (by kernel_rfl) (f0 := 139) (f1 := 140) (by kernel_rfl) (by kernel_rfl)
  have hm := pair_of (h.funcs (n := "cloche/tones.many") (List.mem_cons_of_mem _ (List.mem_cons_of_mem _ (List.mem_cons_of_mem _ (List.mem_cons_self ..))))) (g := 2) (by kernel_rfl) (by kernel_rfl) (f0 := 143) (f1 := 144) (by kernel_rfl) (by kernel_rfl)
  have ht := pair_of (h.funcs (n := "cloche/tones.matched") (List.mem_cons_of_mem _ (List.mem_cons_of_mem _ (List.mem_cons_of_mem _ (List.mem_cons_of_mem _ (List.mem_cons_self ..)))))) (g := 1) (by kernel_rfl) (by kernel_rfl) (f0 := 141) (f1 := 142) (by kernel_rfl) (by kernel_rfl)
  have hp : laidMet Tryd.prog [("math/bits.deBruijn32tab", Lib.tabData .u8 tab32), ("math/bits.deBruijn64tab", Lib.tabData .u8 tab64)] W := (show laidMet Tryd.prog _ W ∧ handlesMet Tryd.prog _ W from h).1
  have hT : ∀ i : Nat, i < 64 → W.cell? ⟨4, i, none⟩ = some (.int .u8 (tab64.getD i 0)) := fun i hi =>
    (Lib.tabIs_of_head (n := 64) (show Tryd.prog.globalNamed "math/bits.deBruijn64tab" = some 4 by kernel_rfl) (t := 123) (by kernel_rfl) Tryd.underlying123 Tryd.underlying5 (by kernel_rfl) (by kernel_rfl) hp.tail).cell (by kernel_rfl) i (by simpa [tab64] using hi)
  exact ⟨hs.1, hs.2, ht.1, ht.2, hm.1, hm.2, hT, by have := World.block_lt_of_cell? W _ (hT 0 (by decide)); exact this⟩
end Go.Proofs.YtglalkenkmijkaaDoor.Hand
