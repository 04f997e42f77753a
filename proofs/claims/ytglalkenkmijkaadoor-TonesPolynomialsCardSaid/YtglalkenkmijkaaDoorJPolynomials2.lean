/- TonesPolynomials, part 2: walks over the program's text, plain laws, the row and its card; joined by a program. No condition beyond the statement's own. -/
import Derived.Test.YtglalkenkmijkaaDoorJPolynomials1
import Derived.Test.YtglalkenkmijkaaDoorJPolynomials0
import Derived.Test.YtglalkenkmijkaaDoorJC6
/- The reference's polynomials of a frame are the program's. -/
namespace Go.Proofs.YtglalkenkmijkaaDoor.Hand
open Go.RowKit Enum PAll Go.Proofs.YtglalkenkmijkaaDoorW.PrintWords Go.Proofs.YtglalkenkmijkaaDoorW.PrintLast Go.Proofs.YtglalkenkmijkaaDoorW.PrintMore
set_option linter.unusedVariables false
set_option linter.unusedSimpArgs false
theorem list_cof {a b : List Int} (hl : a.length = b.length) (h : ∀ j, j < a.length → cof a j = cof b j) : a = b := by
  apply List.ext_getElem hl
  intro j h1 h2
  have := h j h1
  unfold cof at this
  rw [List.getD_eq_getElem?_getD, List.getD_eq_getElem?_getD, List.getElem?_eq_getElem h1, List.getElem?_eq_getElem h2] at this
  exact this
theorem cof_zeros (n j : Nat) : cof (List.replicate n 0) j = wrap64 ((fun _ => (0 : Int)) j) := by
  unfold cof
  rw [List.getD_eq_getElem?_getD, List.getElem?_replicate, wrap_zero]
  split <;> rfl
/-- What a frame's sums are made of: the program's polynomial. -/
theorem poly_of {l : List Int} (hf : isFr l = true) {gw gr : Int → Int} {cw cr : Int} (hw : Lin gw cw) (hr : Lin gr cr) (hm : ∀ n, n < 8 → mass (EO cw cr n 8 (2 ^ n - 1)) ≤ 1000000) {out : List Int} (hl : out.length = l.length + 1)
    (ho : ∀ j, j ≤ l.length → cof out j = wrap64 (ev (has (adjF l)) (l.length - j) (EO cw cr l.length 8 (2 ^ l.length - 1)))) (m : Nat) (h800 : 800 ≤ m) : ofF l gw gr m = some out := by
  obtain ⟨r, h1, h2, h3⟩ := of_ev hf hw hr hm m h800
  have hms := hm l.length (by have := isFr_len hf; omega)
  rw [h1]
  congr 1
  refine list_cof (by omega) (fun j hj => ?_)
  have h4 := h3 (l.length - j) (by omega)
  rw [show l.length - (l.length - j) = j by omega] at h4
  rw [ho j (by omega), h4]
  have hev := ev_mass (has (adjF l)) (l.length - j) (EO cw cr l.length 8 (2 ^ l.length - 1))
  unfold wrap64
  omega
theorem matchings_ref {l : List Int} (hf : isFr l = true) (k : Nat) (hk : 800 ≤ k) : clocheref08_matchings.f k l = ofF l gneg gzero k := by
  have hl := isFr_len hf
  have hF := isFr_Fr hf
  obtain ⟨t1, t2, t3, t4⟩ := top_nat l.length (by omega)
  have hw1 : wrap64 ((l.length : Int) + 1) = ((l.length + 1 : Nat) : Int) := by unfold wrap64; omega
  obtain ⟨out, h1, h2, h3⟩ := pair_ev hF l.length 8 (by omega) (2 ^ l.length - 1) t2 (fun k hk => t4 k (testBit_lt t2 hk) hk) t3 l.length (Nat.le_refl _) (by omega) 1 (.inl rfl) k (by omega) (List.replicate (l.length + 1) 0) (fun _ => 0) (by simp) (fun j => cof_zeros _ j)
  have hsh : wrap64 (shl .i64 1 (l.length : Int) - 1) = ((2 ^ l.length - 1 : Nat) : Int) := by
    rw [shl_one _ (by omega), t1]
    unfold wrap64
    omega
  unfold clocheref08_matchings.f
  rw [hw1, if_pos (by omega), Int.toNat_natCast, if_pos (by omega), hsh, h1, Option.bind_some]
  refine (poly_of hf lin_neg lin_zero mass_matched (by rw [h2]; simp) (fun j hj => ?_) k hk).symm
  rw [h3]
  unfold put
  rw [if_pos hj, Int.one_mul, Int.zero_add]
theorem tones_ref {l : List Int} (hf : isFr l = true) (k : Nat) (hk : 800 ≤ k) : clocheref08_tones.f k l = ofF l gneg gneg2 k := by
  have hl := isFr_len hf
  have hF := isFr_Fr hf
  have hw1 : wrap64 ((l.length : Int) + 1) = ((l.length + 1 : Nat) : Int) := by unfold wrap64; omega
  obtain ⟨out, h1, h2, h3⟩ := det_ev hF l.length (Nat.le_refl _) 0 (Nat.two_pow_pos _) 0 (by omega) 1 (.inl rfl) k (by omega) (List.replicate (l.length + 1) 0) (fun _ => 0) (by simp) (fun j => cof_zeros _ j)
  rw [Nat.sub_self] at h1
  unfold clocheref08_tones.f
  rw [hw1, if_pos (by omega), Int.toNat_natCast, if_pos (by omega)]
  rw [show ((0 : Nat) : Int) = 0 from rfl] at h1
  rw [h1, Option.bind_some]
  refine (poly_of hf lin_neg lin_neg2 mass_sachs (by rw [h2]; simp) (fun j hj => ?_) k hk).symm
  rw [h3]
  unfold put
  dsimp only
  rw [Nat.zero_add, if_pos hj, Int.one_mul, Int.zero_add, orders l.length hl.2 (has (adjF l)) (l.length - j) (by omega)]
/-- Same: are two lists the same? -/
theorem same_l0 (a b : List Int) (hl : a.length = b.length) (h40 : a.length ≤ 500) : ∀ d i m, i + d = a.length → clocheref08_Same.l0 (m + d + 1) a b (i : Int) = some (decide (a.drop i = b.drop i))
  | 0, i, m, h => by
    rw [clocheref08_Same.l0, if_neg (by omega), List.drop_eq_nil_of_le (by omega), List.drop_eq_nil_of_le (by omega)]
    rfl
  | d + 1, i, m, h => by
    rw [show m + (d + 1) + 1 = (m + d + 1) + 1 by omega, clocheref08_Same.l0, if_pos (by omega), if_pos (by omega), if_pos (by omega), wrap_succ (by omega), same_l0 a b hl h40 d (i + 1) m (by omega)]
    have e1 : a.drop i = rd a i :: a.drop (i + 1) := by
      rw [List.drop_eq_getElem_cons (by omega), rd, Int.toNat_natCast, List.getD_eq_getElem?_getD, List.getElem?_eq_getElem (by omega)]; rfl
    have e2 : b.drop i = rd b i :: b.drop (i + 1) := by
      rw [List.drop_eq_getElem_cons (by omega), rd, Int.toNat_natCast, List.getD_eq_getElem?_getD, List.getElem?_eq_getElem (by omega)]; rfl
    rw [e1, e2]
    by_cases hx : rd a i = rd b i
    · rw [if_pos hx, hx]
      congr 1
      rw [Bool.eq_iff_iff, decide_eq_true_eq, decide_eq_true_eq]
      simp
    · rw [if_neg hx]
      congr 1
      symm
      exact decide_eq_false (fun h => hx (List.cons.inj h).1)
theorem same_eq (a b : List Int) (h40 : a.length ≤ 500) (k : Nat) (hk : 600 ≤ k) : clocheref08_Same.f k a b = some (decide (a = b)) := by
  unfold clocheref08_Same.f
  by_cases hl : a.length = b.length
  · rw [if_pos (by omega)]
    have := same_l0 a b hl h40 a.length 0 (k - a.length - 1) (by omega)
    rw [show k - a.length - 1 + a.length + 1 = k by omega] at this
    exact this
  · rw [if_neg (by omega)]
    congr 1
    symm
    exact decide_eq_false (fun h => hl (by rw [h]))
theorem ofF_len {l : List Int} {gw gr : Int → Int} {m : Nat} {r : List Int} (h : ofF l gw gr m = some r) : r.length = l.length + 1 := ofF_length h
end Go.Proofs.YtglalkenkmijkaaDoor.Hand
/- TonesPolynomials, the plain law: IsFrame, Tones and Matchings return the judgement, the polynomials and the errors of the specification. No condition beyond the statement's own. -/
namespace Go.Proofs.YtglalkenkmijkaaDoor.Pure
open Go.RowKit Enum Hand Go.Proofs.YtglalkenkmijkaaDoor.PAll Go.Proofs.YtglalkenkmijkaaDoorW.PrintWords Go.Proofs.YtglalkenkmijkaaDoorW.PrintLast
set_option linter.unusedVariables false
set_option linter.unusedSimpArgs false
/-- Tones and Matchings of a frame, and the reference's. -/
theorem polys {l : List Int} (hf : isFr l = true) : ∃ x y : List Int, x.length = l.length + 1 ∧ y.length = l.length + 1 ∧ (∀ k, 800 ≤ k → tones_Tones.f k l = some (x, 0) ∧ clocheref08_Tones.f k l = some (x, 0) ∧ tones_Matchings.f k l = some (y, 0) ∧ clocheref08_Matchings.f k l = some (y, 0)) := by
  have hl := isFr_len hf
  obtain ⟨x, hx, hxl, hex⟩ := of_ev hf lin_neg lin_neg2 mass_sachs 800 (by decide)
  obtain ⟨y, hy, hyl, hey⟩ := of_ev hf lin_neg lin_zero mass_matched 800 (by decide)
  have up : ∀ {gw gr : Int → Int} {r : List Int}, ofF l gw gr 800 = some r → ∀ m, 800 ≤ m → ofF l gw gr m = some r := fun {gw gr r} h m hm => at_rounds (g := fun k => ofF l gw gr k) (fun k => ofF_mono l gw gr k) hm h
  obtain ⟨_, t2, t3, _⟩ := top_nat l.length (by omega)
  have one : ∀ (r : List Int), r.length = l.length + 1 → cof r l.length = 1 → trimZ r = r := fun r hr h1 => trimZ_stop r (.inr (by rw [show ((r.length : Int) - 1) = ((l.length : Nat) : Int) by omega, rd_cof, h1]; rfl))
  have hx1 := one x hxl (by have := hex 0 (by omega); rwa [Nat.sub_zero, ev_EO_zero (has_mult (adjF l)) (-1) (-2) l.length l.length 8 _ t2 t3 (by omega)] at this)
  have hy1 := one y hyl (by have := hey 0 (by omega); rwa [Nat.sub_zero, ev_EO_zero (has_mult (adjF l)) (-1) 0 l.length l.length 8 _ t2 t3 (by omega)] at this)
  refine ⟨x, y, hxl, hyl, fun k hk => ⟨?_, ?_, ?_, ?_⟩⟩
  · unfold tones_Tones.f tonesF
    rw [if_pos hf, up hx k hk, Option.bind_some, if_pos (by omega), hx1]
  · unfold clocheref08_Tones.f
    rw [isFrame_eq l k (by omega), Option.bind_some, hf, if_pos rfl, tones_ref hf k hk, up hx k hk]
    rfl
  · unfold tones_Matchings.f matchingsF
    rw [if_pos hf, up hy k hk, Option.bind_some, if_pos (by omega), hy1]
  · unfold clocheref08_Matchings.f
    rw [isFrame_eq l k (by omega), Option.bind_some, hf, if_pos rfl, matchings_ref hf k hk, up hy k hk]
    rfl
theorem no_polys {l : List Int} (hf : isFr l = false) (k : Nat) (hk : 800 ≤ k) : tones_Tones.f k l = some ([], 2) ∧ clocheref08_Tones.f k l = some ([], 2) ∧ tones_Matchings.f k l = some ([], 2) ∧ clocheref08_Matchings.f k l = some ([], 2) := by
  refine ⟨?_, ?_, ?_, ?_⟩
  · unfold tones_Tones.f tonesF
    rw [hf, if_neg (by decide)]
  · unfold clocheref08_Tones.f
    rw [isFrame_eq l k (by omega), Option.bind_some, hf, if_neg (by decide)]
  · unfold tones_Matchings.f matchingsF
    rw [hf, if_neg (by decide)]
  · unfold clocheref08_Matchings.f
    rw [isFrame_eq l k (by omega), Option.bind_some, hf, if_neg (by decide)]
theorem TonesPolynomials : clochelaw08_TonesPolynomials.Pure := by
  intro l _ _ _
  refine ⟨1000, ?_⟩
  have few : clochelaw08_few.f l [] = some (decide (l.length ≤ 40)) := by
    unfold clochelaw08_few.f
    by_cases h : (l.length : Int) ≤ 40
    · rw [if_pos h, decide_eq_true (by omega : l.length ≤ 40)]; rfl
    · rw [if_neg h, decide_eq_false (by omega : ¬ l.length ≤ 40)]
  unfold clochelaw08_TonesPolynomials.f
  rw [few, Option.bind_some]
  by_cases h40 : l.length ≤ 40
  · rw [decide_eq_true h40, if_pos rfl, Option.bind_some, if_pos (by simp; omega), Option.bind_some, List.nil_append]
    have hfr : tones_IsFrame.f 1000 l = some (isFr l) := rfl
    rw [hfr, Option.bind_some, isFrame_eq l 1000 (by decide), Option.bind_some, if_neg (by simp)]
    have fin : ∀ (x y : List Int) (e : Int), x.length ≤ 50 → y.length ≤ 50 → (∀ k, 800 ≤ k → tones_Tones.f k l = some (x, e) ∧ clocheref08_Tones.f k l = some (x, e) ∧ tones_Matchings.f k l = some (y, e) ∧ clocheref08_Matchings.f k l = some (y, e)) →
        ((tones_Tones.f 1000 l).bind fun bt664 => ((clocheref08_Tones.f 1000 l).bind fun bt668 => ((clocheref08_Same.f 1000 bt664.1 bt668.1).bind fun t672 => (if t672 = true then (clochelaw08_TonesPolynomials.j0 1000 l l (bt664.2 != bt668.2)) else (clochelaw08_TonesPolynomials.j0 1000 l l true))))) = some true := by
      intro x y e hx hy h
      obtain ⟨h1, h2, _, _⟩ := h 1000 (by decide)
      obtain ⟨_, _, h3, h4⟩ := h 999 (by decide)
      rw [h1, h2, Option.bind_some, Option.bind_some]
      dsimp only
      rw [same_eq x x (by omega) 1000 (by decide), Option.bind_some, decide_eq_true rfl, if_pos rfl, show (e != e) = false by simp, clochelaw08_TonesPolynomials.j0, if_neg (by decide), h3, h4, Option.bind_some, Option.bind_some]
      dsimp only
      rw [same_eq y y (by omega) 999 (by decide), Option.bind_some, decide_eq_true rfl, if_pos rfl, if_pos rfl, same_eq l l (by omega) 999 (by decide), Option.bind_some, decide_eq_true rfl, if_pos rfl]
      rfl
    cases hf : isFr l with
    | true =>
      have hl := isFr_len hf
      obtain ⟨x, y, hx, hy, h⟩ := polys hf
      exact fin x y 0 (by omega) (by omega) h
    | false => exact fin [] [] 2 (by simp) (by simp) (fun k hk => no_polys hf k hk)
  · rw [decide_eq_false h40, if_neg (by decide)]
    rfl
end Go.Proofs.YtglalkenkmijkaaDoor.Pure
