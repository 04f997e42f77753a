/- The common part 6 of the tones claims: walks over the program's text up to the layer's closed example, sums over figures, the listed variables; joined by a program. No condition beyond the statement's own. -/
import Derived.Test.YtglalkenkmijkaaDoorJC5
import Derived.Test.YtglalkenkmijkaaDoorRows
import Derived.Test.YtglalkenkmijkaaDoorJC0
import Derived.Lib.LaidTab
import Derived.LaidMore
import Derived.ChangeSame
import Derived.ProofKit
import Derived.Stop.Joined
import Derived.Stop.LaidErr
/- The sums of all weights without signs are small: reckoned. -/
namespace Go.Proofs.YtglalkenkmijkaaDoor.Enum
set_option linter.unusedVariables false
set_option linter.unusedSimpArgs false
set_option maxRecDepth 100000 in
theorem mass_sachs : ∀ n, n < 8 → mass (EO (-1) (-2) n 8 (2 ^ n - 1)) ≤ 1000000 := by decide +kernel
set_option maxRecDepth 100000 in
theorem mass_many : ∀ n, n < 8 → mass (EO 1 1 n 8 (2 ^ n - 1)) ≤ 1000000 := by decide +kernel
set_option maxRecDepth 100000 in
theorem mass_matched : ∀ n, n < 8 → mass (EO (-1) 0 n 8 (2 ^ n - 1)) ≤ 1000000 := by decide +kernel
end Go.Proofs.YtglalkenkmijkaaDoor.Enum
/- From the row's condition on the listed variables to what the walks ask of them; a start that meets it. -/
namespace Go.Proofs.YtglalkenkmijkaaDoor.Hand
open Go.RowKit Go.Proofs.YtglalkenkmijkaaDoorW.PrintWords Go.ChangeShapes
set_option linter.unusedVariables false
set_option linter.unusedSimpArgs false
def laidAll : List (String × DataW Unit) := [("math/bits.deBruijn32tab", Rows.laid_math_bits_deBruijn32tab), ("math/bits.deBruijn64tab", Rows.laid_math_bits_deBruijn64tab), ("cloche/tones.sachs", Rows.laid_cloche_tones_sachs), ("cloche/tones.many", Rows.laid_cloche_tones_many), ("cloche/tones.matched", Rows.laid_cloche_tones_matched)]
def tab32 : List Int := [0, 1, 28, 2, 29, 14, 24, 3, 30, 22, 20, 15, 25, 17, 4, 8, 31, 27, 13, 23, 21, 19, 16, 7, 26, 12, 18, 6, 11, 5, 10, 9]
theorem door_met (os : Os) (args : Array Value) : laidMetH Tryd.prog laidAll ((World.doorLaid Tryd.prog 65 os).forCall (fun _ _ => 0) ⟨#[], args, []⟩).memory :=
  laidMetH_of_parts3 (fuel := 8) (laidMet_of_run' 8 (by kernel_rfl) (by kernel_rfl)) (by kernel_rfl) (by kernel_rfl)
theorem pair_of {W : World} {n : String} {g : Nat} {f0 f1 : FuncId} {b0 b1 : UInt8} {r0 r1 : List UInt8} (h : funcsAt Tryd.prog W n (.agg [.iface "func" (.lit (.string (b0 :: r0))), .iface "func" (.lit (.string (b1 :: r1)))]))
    (hg : Tryd.prog.globalNamed n = some g) (ht : (Tryd.prog.globals[g]?).map (·.type) = some 57)
    (h0 : ((List.range Tryd.prog.funcs.size).filter fun f => (Tryd.prog.funcs[f]?).any (·.name.toUTF8.data.toList == b0 :: r0)) = [f0]) (h1 : ((List.range Tryd.prog.funcs.size).filter fun f => (Tryd.prog.funcs[f]?).any (·.name.toUTF8.data.toList == b1 :: r1)) = [f1]) :
    W.cell? ⟨g, 0, none⟩ = some (.func (.func f0) #[] #[]) ∧ W.cell? ⟨g, 1, none⟩ = some (.func (.func f1) #[] #[]) := by
  obtain ⟨g', t, cs, fuel, p, hg', ht', hv, hd⟩ := h
  obtain rfl := Option.some.inj (hg.symm.trans hg')
  obtain rfl := Option.some.inj (ht.symm.trans ht')
  have hd' : DataW.trod (funcToken Tryd.prog) Tryd.prog W 0 (fun _ => true) true fuel 57 cs.toList = some (.agg [.held (b0 :: r0), .held (b1 :: r1)], p) := hd
  obtain ⟨y0, y1, n', hx, hl, hr0, hr1⟩ := trod_struct2 Tryd.underlying57 hd'
  have hc55 : Tryd.prog.cellsOf 55 = 1 := by kernel_rfl
  have hc57 : Tryd.prog.cellsOf 57 = 2 := by kernel_rfl
  rw [hc57] at hl
  obtain ⟨v0, v1, hcs⟩ : ∃ v0 v1, cs.toList = [v0, v1] := by
    match h : cs.toList, hl with
    | [v0, v1], _ => exact ⟨v0, v1, rfl⟩
  rw [hcs] at hr0 hr1
  rw [hc55] at hr0 hr1
  have e := congrArg Prod.fst hx
  injection e with e
  injection e with e0 e
  injection e with e1 _
  have g0 : DataW.trod (funcToken Tryd.prog) Tryd.prog W 0 (fun _ => true) true n' 55 [v0] = some (.held (b0 :: r0), y0.2) := by rw [e0]; exact hr0
  have g1 : DataW.trod (funcToken Tryd.prog) Tryd.prog W 0 (fun _ => true) true n' 55 [v1] = some (.held (b1 :: r1), y1.2) := by rw [e1]; exact hr1
  obtain rfl := func_of_trod Tryd.underlying55 h0 g0
  obtain rfl := func_of_trod Tryd.underlying55 h1 g1
  have c0 := World.var?_cell hg hv 0
  have c1 := World.var?_cell hg hv 1
  have ec : cs = #[.func (.func f0) #[] #[], .func (.func f1) #[] #[]] := by rw [← Array.toArray_toList (xs := cs), hcs]
  rw [ec] at c0 c1
  exact ⟨by simpa using c0, by simpa using c1⟩
theorem glob_of_laid {W : World} (h : laidMetH Tryd.prog laidAll W) : Glob W := by
  have hs := pair_of (h.funcs (n := "cloche/tones.sachs") (List.mem_cons_of_mem _ (List.mem_cons_of_mem _ (List.mem_cons_self ..)))) (g := 0) (by kernel_rfl) (by kernel_rfl) (f0 := 139) (f1 := 140) (by kernel_rfl) (by kernel_rfl)
  have hm := pair_of (h.funcs (n := "cloche/tones.many") (List.mem_cons_of_mem _ (List.mem_cons_of_mem _ (List.mem_cons_of_mem _ (List.mem_cons_self ..))))) (g := 2) (by kernel_rfl) (by kernel_rfl) (f0 := 143) (f1 := 144) (by kernel_rfl) (by kernel_rfl)
  have ht := pair_of (h.funcs (n := "cloche/tones.matched") (List.mem_cons_of_mem _ (List.mem_cons_of_mem _ (List.mem_cons_of_mem _ (List.mem_cons_of_mem _ (List.mem_cons_self ..)))))) (g := 1) (by kernel_rfl) (by kernel_rfl) (f0 := 141) (f1 := 142) (by kernel_rfl) (by kernel_rfl)
  have hp : laidMet Tryd.prog [("math/bits.deBruijn32tab", Lib.tabData .u8 tab32), ("math/bits.deBruijn64tab", Lib.tabData .u8 tab64)] W := (show laidMet Tryd.prog _ W ∧ handlesMet Tryd.prog _ W from h).1
  have hT : ∀ i : Nat, i < 64 → W.cell? ⟨4, i, none⟩ = some (.int .u8 (tab64.getD i 0)) := fun i hi =>
    (Lib.tabIs_of_head (n := 64) (show Tryd.prog.globalNamed "math/bits.deBruijn64tab" = some 4 by kernel_rfl) (t := 123) (by kernel_rfl) Tryd.underlying123 Tryd.underlying5 (by kernel_rfl) (by kernel_rfl) hp.tail).cell (by kernel_rfl) i (by simpa [tab64] using hi)
  exact ⟨hs.1, hs.2, ht.1, ht.2, hm.1, hm.2, hT, by have := World.block_lt_of_cell? W _ (hT 0 (by decide)); exact this⟩
end Go.Proofs.YtglalkenkmijkaaDoor.Hand
