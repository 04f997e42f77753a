/- TonesAlike, part 2: walks over the program's text, plain laws, the row and its card; joined by a program. No condition beyond the statement's own. -/
import Derived.Test.YtglalkenkmijkaaDoorJAlike1
import Derived.Test.YtglalkenkmijkaaDoorJC6
/- The reference's polynomials of a frame are the program's. -/
namespace Go.Proofs.YtglalkenkmijkaaDoor.Hand
open Go.RowKit Enum PAll Go.Proofs.YtglalkenkmijkaaDoorW.PrintWords Go.Proofs.YtglalkenkmijkaaDoorW.PrintLast Go.Proofs.YtglalkenkmijkaaDoorW.PrintMore
set_option linter.unusedVariables false
set_option linter.unusedSimpArgs false
theorem list_cof {a b : List Int} (hl : a.length = b.length) (h : ∀ j, j < a.length → cof a j = cof b j) : a = b := by
  apply List.ext_getElem hl
  intro j h1 h2
  have := h j h1
  unfold cof at this
  rw [List.getD_eq_getElem?_getD, List.getD_eq_getElem?_getD, List.getElem?_eq_getElem h1, List.getElem?_eq_getElem h2] at this
  exact this
theorem cof_zeros (n j : Nat) : cof (List.replicate n 0) j = wrap64 ((fun _ => (0 : Int)) j) := by
  unfold cof
  rw [List.getD_eq_getElem?_getD, List.getElem?_replicate, wrap_zero]
  split <;> rfl
/-- What a frame's sums are made of: the program's polynomial. -/
theorem poly_of {l : List Int} (hf : isFr l = true) {gw gr : Int → Int} {cw cr : Int} (hw : Lin gw cw) (hr : Lin gr cr) (hm : ∀ n, n < 8 → mass (EO cw cr n 8 (2 ^ n - 1)) ≤ 1000000) {out : List Int} (hl : out.length = l.length + 1)
    (ho : ∀ j, j ≤ l.length → cof out j = wrap64 (ev (has (adjF l)) (l.length - j) (EO cw cr l.length 8 (2 ^ l.length - 1)))) (m : Nat) (h800 : 800 ≤ m) : ofF l gw gr m = some out := by
  obtain ⟨r, h1, h2, h3⟩ := of_ev hf hw hr hm m h800
  have hms := hm l.length (by have := isFr_len hf; omega)
  rw [h1]
  congr 1
  refine list_cof (by omega) (fun j hj => ?_)
  have h4 := h3 (l.length - j) (by omega)
  rw [show l.length - (l.length - j) = j by omega] at h4
  rw [ho j (by omega), h4]
  have hev := ev_mass (has (adjF l)) (l.length - j) (EO cw cr l.length 8 (2 ^ l.length - 1))
  unfold wrap64
  omega
theorem matchings_ref {l : List Int} (hf : isFr l = true) (k : Nat) (hk : 800 ≤ k) : clocheref08_matchings.f k l = ofF l gneg gzero k := by
  have hl := isFr_len hf
  have hF := isFr_Fr hf
  obtain ⟨t1, t2, t3, t4⟩ := top_nat l.length (by omega)
  have hw1 : wrap64 ((l.length : Int) + 1) = ((l.length + 1 : Nat) : Int) := by unfold wrap64; omega
  obtain ⟨out, h1, h2, h3⟩ := pair_ev hF l.length 8 (by omega) (2 ^ l.length - 1) t2 (fun k hk => t4 k (testBit_lt t2 hk) hk) t3 l.length (Nat.le_refl _) (by omega) 1 (.inl rfl) k (by omega) (List.replicate (l.length + 1) 0) (fun _ => 0) (by simp) (fun j => cof_zeros _ j)
  have hsh : wrap64 (shl .i64 1 (l.length : Int) - 1) = ((2 ^ l.length - 1 : Nat) : Int) := by
    rw [shl_one _ (by omega), t1]
    unfold wrap64
    omega
  unfold clocheref08_matchings.f
  rw [hw1, if_pos (by omega), Int.toNat_natCast, if_pos (by omega), hsh, h1, Option.bind_some]
  refine (poly_of hf lin_neg lin_zero mass_matched (by rw [h2]; simp) (fun j hj => ?_) k hk).symm
  rw [h3]
  unfold put
  rw [if_pos hj, Int.one_mul, Int.zero_add]
theorem tones_ref {l : List Int} (hf : isFr l = true) (k : Nat) (hk : 800 ≤ k) : clocheref08_tones.f k l = ofF l gneg gneg2 k := by
  have hl := isFr_len hf
  have hF := isFr_Fr hf
  have hw1 : wrap64 ((l.length : Int) + 1) = ((l.length + 1 : Nat) : Int) := by unfold wrap64; omega
  obtain ⟨out, h1, h2, h3⟩ := det_ev hF l.length (Nat.le_refl _) 0 (Nat.two_pow_pos _) 0 (by omega) 1 (.inl rfl) k (by omega) (List.replicate (l.length + 1) 0) (fun _ => 0) (by simp) (fun j => cof_zeros _ j)
  rw [Nat.sub_self] at h1
  unfold clocheref08_tones.f
  rw [hw1, if_pos (by omega), Int.toNat_natCast, if_pos (by omega)]
  rw [show ((0 : Nat) : Int) = 0 from rfl] at h1
  rw [h1, Option.bind_some]
  refine (poly_of hf lin_neg lin_neg2 mass_sachs (by rw [h2]; simp) (fun j hj => ?_) k hk).symm
  rw [h3]
  unfold put
  dsimp only
  rw [Nat.zero_add, if_pos hj, Int.one_mul, Int.zero_add, orders l.length hl.2 (has (adjF l)) (l.length - j) (by omega)]
/-- Same: are two lists the same? -/
theorem same_l0 (a b : List Int) (hl : a.length = b.length) (h40 : a.length ≤ 500) : ∀ d i m, i + d = a.length → clocheref08_Same.l0 (m + d + 1) a b (i : Int) = some (decide (a.drop i = b.drop i))
  | 0, i, m, h => by
    rw [clocheref08_Same.l0, if_neg (by omega), List.drop_eq_nil_of_le (by omega), List.drop_eq_nil_of_le (by omega)]
    rfl
  | d + 1, i, m, h => by
    rw [show m + (d + 1) + 1 = (m + d + 1) + 1 by omega, clocheref08_Same.l0, if_pos (by omega), if_pos (by omega), if_pos (by omega), wrap_succ (by omega), same_l0 a b hl h40 d (i + 1) m (by omega)]
    have e1 : a.drop i = rd a i :: a.drop (i + 1) := by
      rw [List.drop_eq_getElem_cons (by omega), rd, Int.toNat_natCast, List.getD_eq_getElem?_getD, List.getElem?_eq_getElem (by omega)]; rfl
    have e2 : b.drop i = rd b i :: b.drop (i + 1) := by
      rw [List.drop_eq_getElem_cons (by omega), rd, Int.toNat_natCast, List.getD_eq_getElem?_getD, List.getElem?_eq_getElem (by omega)]; rfl
    rw [e1, e2]
    by_cases hx : rd a i = rd b i
    · rw [if_pos hx, hx]
      congr 1
      rw [Bool.eq_iff_iff, decide_eq_true_eq, decide_eq_true_eq]
      simp
    · rw [if_neg hx]
      congr 1
      symm
      exact decide_eq_false (fun h => hx (List.cons.inj h).1)
theorem same_eq (a b : List Int) (h40 : a.length ≤ 500) (k : Nat) (hk : 600 ≤ k) : clocheref08_Same.f k a b = some (decide (a = b)) := by
  unfold clocheref08_Same.f
  by_cases hl : a.length = b.length
  · rw [if_pos (by omega)]
    have := same_l0 a b hl h40 a.length 0 (k - a.length - 1) (by omega)
    rw [show k - a.length - 1 + a.length + 1 = k by omega] at this
    exact this
  · rw [if_neg (by omega)]
    congr 1
    symm
    exact decide_eq_false (fun h => hl (by rw [h]))
theorem ofF_len {l : List Int} {gw gr : Int → Int} {m : Nat} {r : List Int} (h : ofF l gw gr m = some r) : r.length = l.length + 1 := ofF_length h
end Go.Proofs.YtglalkenkmijkaaDoor.Hand
/- TonesAlike, the plain law: Alike returns the judgements, or the error, of the specification. No condition beyond the statement's own. -/
namespace Go.Proofs.YtglalkenkmijkaaDoor.Pure
open Go.RowKit Enum Hand Go.Proofs.YtglalkenkmijkaaDoor.PAll Go.Proofs.YtglalkenkmijkaaDoorW.PrintWords Go.Proofs.YtglalkenkmijkaaDoorW.PrintLast
set_option linter.unusedVariables false
set_option linter.unusedSimpArgs false
theorem few_eq (a b : List Int) : clochelaw08_few.f a b = some (decide (a.length ≤ 40 ∧ b.length ≤ 40)) := by
  unfold clochelaw08_few.f
  by_cases h : (a.length : Int) ≤ 40
  · rw [if_pos h]
    by_cases h2 : (b.length : Int) ≤ 40
    · rw [decide_eq_true h2, decide_eq_true ⟨by omega, by omega⟩]
    · rw [decide_eq_false h2, decide_eq_false (fun hc => by omega)]
  · rw [if_neg h, decide_eq_false (fun hc => by omega)]
theorem alike_ref {a b : List Int} : clocheref08_Alike.f 1000 a b = tones_Alike.f 1000 a b := by
  unfold clocheref08_Alike.f tones_Alike.f alikeF
  rw [isFrame_eq a 1000 (by decide), isFrame_eq b 1000 (by decide), Option.bind_some]
  cases ha : isFr a with
  | false =>
    rw [if_neg (by decide), if_neg (by simp)]
    rfl
  | true =>
    rw [if_pos rfl, Option.bind_some]
    cases hb : isFr b with
    | false =>
      rw [if_neg (by simp)]
      rfl
    | true =>
      rw [if_pos ⟨rfl, rfl⟩]
      show clocheref08_Alike.j0 1000 a b (!true) = _
      obtain ⟨xa, h1, h1l, _⟩ := of_ev ha lin_neg lin_neg2 mass_sachs 800 (by decide)
      obtain ⟨xb, h2, h2l, _⟩ := of_ev hb lin_neg lin_neg2 mass_sachs 800 (by decide)
      obtain ⟨ya, h3, h3l, _⟩ := of_ev ha lin_neg lin_zero mass_matched 800 (by decide)
      obtain ⟨yb, h4, h4l, _⟩ := of_ev hb lin_neg lin_zero mass_matched 800 (by decide)
      have up : ∀ {l : List Int} {gw gr : Int → Int} {r : List Int}, ofF l gw gr 800 = some r → ∀ m, 800 ≤ m → ofF l gw gr m = some r := fun {l gw gr r} h m hm => at_rounds (g := fun k => ofF l gw gr k) (fun k => ofF_mono l gw gr k) hm h
      have la := isFr_len ha
      have lb := isFr_len hb
      rw [Bool.not_true, clocheref08_Alike.j0, if_neg (by decide), tones_ref ha 999 (by decide), tones_ref hb 999 (by decide), matchings_ref ha 999 (by decide), matchings_ref hb 999 (by decide), up h1 999 (by decide), up h2 999 (by decide), up h3 999 (by decide), up h4 999 (by decide)]
      simp only [Option.bind_some]
      rw [same_eq xa xb (by omega) 999 (by decide), same_eq ya yb (by omega) 999 (by decide), up h1 1000 (by decide), up h2 1000 (by decide), up h3 1000 (by decide), up h4 1000 (by decide)]
      simp only [Option.bind_some]
theorem TonesAlike : clochelaw08_TonesAlike.Pure := by
  intro a b _ _ _ _ _ _
  refine ⟨1000, ?_⟩
  unfold clochelaw08_TonesAlike.f
  rw [few_eq, Option.bind_some]
  by_cases h : a.length ≤ 40 ∧ b.length ≤ 40
  · rw [decide_eq_true h, if_pos rfl, alike_ref]
    obtain ⟨r, hr⟩ : ∃ r, tones_Alike.f 1000 a b = some r := by
      unfold tones_Alike.f alikeF
      by_cases hab : isFr a = true ∧ isFr b = true
      · rw [if_pos hab]
        obtain ⟨xa, h1, _⟩ := of_ev hab.1 lin_neg lin_neg2 mass_sachs 1000 (by decide)
        obtain ⟨xb, h2, _⟩ := of_ev hab.2 lin_neg lin_neg2 mass_sachs 1000 (by decide)
        obtain ⟨ya, h3, _⟩ := of_ev hab.1 lin_neg lin_zero mass_matched 1000 (by decide)
        obtain ⟨yb, h4, _⟩ := of_ev hab.2 lin_neg lin_zero mass_matched 1000 (by decide)
        exact ⟨_, by rw [h1, h2, h3, h4]; rfl⟩
      · rw [if_neg hab]
        exact ⟨_, rfl⟩
    rw [hr, Option.bind_some, Option.bind_some]
    rw [if_pos (by simp), if_pos (by simp), if_pos rfl]
    rfl
  · rw [decide_eq_false h, if_neg (by decide)]
    rfl
end Go.Proofs.YtglalkenkmijkaaDoor.Pure
