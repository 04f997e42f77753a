/- TonesPolynomials, part 1: walks over the program's text, plain laws, the row and its card; joined by a program. No condition beyond the statement's own. -/
import Derived.Test.YtglalkenkmijkaaDoorJPolynomials0
import Derived.Test.YtglalkenkmijkaaDoorJC6
/- All orders and all figures: the same formal sum, for up to seven knots: reckoned. -/
namespace Go.Proofs.YtglalkenkmijkaaDoor.Enum
set_option linter.unusedVariables false
set_option linter.unusedSimpArgs false
def mj : Nat → List (Nat × Int) → List (Nat × Int) → List (Nat × Int)
  | 0, a, b => a ++ b
  | _ + 1, [], b => b
  | _ + 1, s :: a, [] => s :: a
  | f + 1, s :: a, t :: b => match Nat.ble s.1 t.1, Nat.ble t.1 s.1 with
     | true, true => (s.1, s.2 + t.2) :: mj f a b
     | true, false => s :: mj f a (t :: b)
     | false, _ => t :: mj f (s :: a) b
def pairUp : List (List (Nat × Int)) → List (List (Nat × Int))
  | a :: b :: l => mj (a.length + b.length) a b :: pairUp l
  | l => l
def joinUp : Nat → List (List (Nat × Int)) → List (Nat × Int)
  | 0, l => l.flatten
  | _ + 1, [] => []
  | _ + 1, [a] => a
  | f + 1, a :: b :: l => joinUp f (pairUp (a :: b :: l))
def nrm (E : List Term) : List (Nat × Int) := joinUp 20 (E.map fun t => [(t.1 * 16 + t.2.1, t.2.2)])
def evL (ψ : Nat → Int) : List (List (Nat × Int)) → Int
  | [] => 0
  | a :: l => evK ψ a + evL ψ l
theorem evK_mj (ψ : Nat → Int) : ∀ (f : Nat) (a b : List (Nat × Int)), evK ψ (mj f a b) = evK ψ a + evK ψ b
  | 0, a, b => evK_append ψ a b
  | _ + 1, [], b => by simp [mj, evK]
  | _ + 1, s :: a, [] => by simp [mj, evK]
  | f + 1, s :: a, t :: b => by
    unfold mj
    cases h1 : Nat.ble s.1 t.1 with
    | false => simp only [evK, evK_mj ψ f]; omega
    | true =>
      cases h2 : Nat.ble t.1 s.1 with
      | false => simp only [evK, evK_mj ψ f]; omega
      | true =>
        have hst : t.1 = s.1 := Nat.le_antisymm (Nat.le_of_ble_eq_true h2) (Nat.le_of_ble_eq_true h1)
        simp only [evK, evK_mj ψ f, hst, Int.mul_add]
        omega
theorem evL_pairUp (ψ : Nat → Int) : ∀ l, evL ψ (pairUp l) = evL ψ l
  | [] => rfl
  | [a] => rfl
  | a :: b :: l => by
    rw [pairUp, evL, evL_pairUp ψ l, evK_mj, evL, evL]
    omega
theorem evK_flatten (ψ : Nat → Int) : ∀ l : List (List (Nat × Int)), evK ψ l.flatten = evL ψ l
  | [] => rfl
  | a :: l => by rw [List.flatten_cons, evK_append, evK_flatten ψ l, evL]
theorem evK_joinUp (ψ : Nat → Int) : ∀ f l, evK ψ (joinUp f l) = evL ψ l
  | 0, l => evK_flatten ψ l
  | _ + 1, [] => rfl
  | _ + 1, [a] => by simp [joinUp, evL]
  | f + 1, a :: b :: l => by rw [joinUp, evK_joinUp ψ f, evL_pairUp]
theorem ev_nrm (φ : Nat → Bool) (k : Nat) (hk : k < 16) (E : List Term) (h : ∀ t, t ∈ E → t.2.1 < 16) : ev φ k E = evK (fun x => if φ (x / 16) = true ∧ x % 16 = k then 1 else 0) (nrm E) := by
  rw [ev_key φ k hk E h]
  unfold nrm
  rw [evK_joinUp]
  clear h
  induction E with
  | nil => rfl
  | cons t E ih =>
    rw [List.map_cons, List.map_cons, evK, evL, ih, evK, evK, Int.add_zero]
    rfl
theorem small_mul {e c : Nat} {g : Int} {E : List Term} {b : Nat} (h : ∀ t, t ∈ E → t.2.1 ≤ b) : ∀ t, t ∈ mulT e c g E → t.2.1 ≤ b + c := fun t ht => by
  obtain ⟨u, hu, rfl⟩ := List.mem_map.1 ht
  exact Nat.add_le_add_right (h u hu) c
theorem small_DT (n : Nat) : ∀ d used t, t ∈ DT n d used → t.2.1 ≤ d
  | 0, used, t, ht => by simp [DT] at ht; rw [ht]; exact Nat.le_refl _
  | d + 1, used, t, ht => by
    rw [DT] at ht
    obtain ⟨c, _, hc⟩ := List.mem_flatMap.1 ht
    split at hc
    · simp at hc
    · split at hc
      · exact Nat.le_succ_of_le (small_mul (small_DT n d _) t hc)
      · exact small_mul (small_DT n d _) t hc
def smallB (E : List Term) : Bool := E.all fun t => Nat.blt t.2.1 16
theorem ev_same {E F : List Term} (hE : smallB E = true) (hF : smallB F = true) (h : nrm E = nrm F) (φ : Nat → Bool) (k : Nat) (hk : k < 16) : ev φ k E = ev φ k F := by
  have hs : ∀ {G : List Term}, smallB G = true → ∀ t, t ∈ G → t.2.1 < 16 := fun hG t ht => by
    have := List.all_eq_true.1 hG t ht
    exact Nat.le_of_ble_eq_true this
  rw [ev_nrm φ k hk E (hs hE), ev_nrm φ k hk F (hs hF), h]
/-! The same sums, written so that the kernel reckons each number at once. -/
def force {α : Type} (x : Nat) (f : Nat → α) : α := match x with
  | 0 => f 0
  | k + 1 => f (k + 1)
theorem force_eq {α : Type} (x : Nat) (f : Nat → α) : force x f = f x := by cases x <;> rfl
def forceI {α : Type} (x : Int) (f : Int → α) : α := match x with
  | .ofNat n => force n fun n => f (.ofNat n)
  | .negSucc n => force n fun n => f (.negSucc n)
theorem forceI_eq {α : Type} (x : Int) (f : Int → α) : forceI x f = f x := by
  cases x with
  | ofNat a => exact force_eq a (fun n => f (.ofNat n))
  | negSucc a => exact force_eq a (fun n => f (.negSucc n))
def keyL (E : List Term) : List (Nat × Int) := E.map fun t => (t.1 * 16 + t.2.1, t.2.2)
def DTa (n : Nat) : Nat → Nat → Nat → Nat → Int → List (Nat × Int) → List (Nat × Int)
  | 0, _, mask, kn, w, acc => (mask * 16 + kn, w) :: acc
  | d + 1, used, mask, kn, w, acc => (List.range n).foldr (fun c acc => if used.testBit c then acc else force (used ||| 2 ^ c) fun u =>
      if c + (d + 1) = n then forceI (w * fl used (c + 1) (n - (c + 1))) fun v => DTa n d u mask kn v acc
      else force (eb (n - (d + 1)) c ||| mask) fun m => force (1 + kn) fun q => forceI (w * -fl used (c + 1) (n - (c + 1))) fun v => DTa n d u m q v acc) acc
def EOa (cw cr : Int) (n : Nat) : Nat → Nat → Nat → Nat → Int → List (Nat × Int) → List (Nat × Int)
  | 0, _, _, _, _, acc => acc
  | f + 1, s, mask, kn, w, acc => if s = 0 then (mask * 16 + kn, w) :: acc else force (lowest 7 s) fun i => force (clr s i) fun r =>
      EOa cw cr n f r mask kn w ((List.range n).foldr (fun k acc => if r.testBit k then force (clr r k) fun u => force (eb i k ||| mask) fun m => force (2 + kn) fun q => forceI (w * cw) fun v => EOa cw cr n f u m q v acc else acc)
        ((RP n i r 7 i 0 0).foldr (fun p acc => force (sd r p.2) fun u => force (p.1 ||| mask) fun m => force (popN 7 p.2 + 1 + kn) fun q => forceI (w * cr) fun v => EOa cw cr n f u m q v acc) acc))
theorem mulT_mulT (e c : Nat) (g : Int) (e' c' : Nat) (g' : Int) (E : List Term) : mulT e' c' g' (mulT e c g E) = mulT (e ||| e') (c + c') (g' * g) E := by
  unfold mulT
  rw [List.map_map]
  congr 1
  funext t
  simp [Nat.or_assoc, Nat.add_assoc, Int.mul_assoc]
theorem mulT_append (e c : Nat) (g : Int) (E F : List Term) : mulT e c g (E ++ F) = mulT e c g E ++ mulT e c g F := by simp [mulT]
theorem keyL_append (E F : List Term) : keyL (E ++ F) = keyL E ++ keyL F := by simp [keyL]
theorem foldr_flat {α : Type} (g : α → List (Nat × Int) → List (Nat × Int)) (h : α → List Term) (mask kn : Nat) (w : Int) : ∀ (L : List α), (∀ a acc, g a acc = keyL (mulT mask kn w (h a)) ++ acc) → ∀ acc, L.foldr g acc = keyL (mulT mask kn w (L.flatMap h)) ++ acc
  | [], _, acc => by simp [mulT, keyL]
  | a :: L, hg, acc => by
    rw [List.foldr_cons, foldr_flat g h mask kn w L hg acc, hg, List.flatMap_cons, mulT_append, keyL_append, List.append_assoc]
theorem keyL_one (mask kn : Nat) (w : Int) (acc : List (Nat × Int)) : (mask * 16 + kn, w) :: acc = keyL (mulT mask kn w [(0, 0, 1)]) ++ acc := by simp [keyL, mulT]
theorem DTa_eq (n : Nat) : ∀ d used mask kn w acc, DTa n d used mask kn w acc = keyL (mulT mask kn w (DT n d used)) ++ acc
  | 0, used, mask, kn, w, acc => by rw [DTa, DT]; exact keyL_one _ _ _ _
  | d + 1, used, mask, kn, w, acc => by
    rw [DTa, DT]
    refine foldr_flat _ _ mask kn w _ (fun c acc => ?_) acc
    by_cases hb : used.testBit c = true
    · rw [if_pos hb, if_pos hb]; simp [mulT, keyL]
    · rw [if_neg hb, if_neg hb, force_eq]
      by_cases hc : c + (d + 1) = n
      · rw [if_pos hc, if_pos hc, forceI_eq, DTa_eq n d, mulT_mulT, Nat.zero_or, Nat.zero_add]
      · rw [if_neg hc, if_neg hc, force_eq, force_eq, forceI_eq, DTa_eq n d, mulT_mulT]
theorem EOa_eq (cw cr : Int) (n : Nat) : ∀ f s mask kn w acc, EOa cw cr n f s mask kn w acc = keyL (mulT mask kn w (EO cw cr n f s)) ++ acc
  | 0, s, mask, kn, w, acc => by rw [EOa, EO]; simp [mulT, keyL]
  | f + 1, s, mask, kn, w, acc => by
    rw [EOa, EO]
    by_cases h : s = 0
    · rw [if_pos h, if_pos h]; exact keyL_one _ _ _ _
    · rw [if_neg h, if_neg h, force_eq, force_eq, EOa_eq cw cr n f, foldr_flat _ (fun k => if (clr s (lowest 7 s)).testBit k = true then mulT (eb (lowest 7 s) k) 2 cw (EO cw cr n f (clr (clr s (lowest 7 s)) k)) else []) mask kn w, foldr_flat _ (fun p => mulT p.1 (popN 7 p.2 + 1) cr (EO cw cr n f (sd (clr s (lowest 7 s)) p.2))) mask kn w, mulT_append, mulT_append, keyL_append, keyL_append, List.append_assoc, List.append_assoc]
      · intro p acc
        rw [force_eq, force_eq, force_eq, forceI_eq, EOa_eq cw cr n f, mulT_mulT]
      · intro k acc
        by_cases hb : (clr s (lowest 7 s)).testBit k = true
        · rw [if_pos hb, if_pos hb, force_eq, force_eq, force_eq, forceI_eq, EOa_eq cw cr n f, mulT_mulT]
        · rw [if_neg hb, if_neg hb]; simp [mulT, keyL]
theorem mulT_one (E : List Term) : mulT 0 0 1 E = E := by simp [mulT]
def nrmK (L : List (Nat × Int)) : List (Nat × Int) := joinUp 20 (L.map fun t => [t])
theorem nrm_key (E : List Term) : nrm E = nrmK (keyL E) := by
  unfold nrm nrmK keyL
  rw [List.map_map]
  rfl
theorem nrm_DT (n d used : Nat) : nrm (DT n d used) = nrmK (DTa n d used 0 0 1 []) := by rw [DTa_eq, mulT_one, List.append_nil, nrm_key]
theorem nrm_EO (cw cr : Int) (n f s : Nat) : nrm (EO cw cr n f s) = nrmK (EOa cw cr n f s 0 0 1 []) := by rw [EOa_eq, mulT_one, List.append_nil, nrm_key]
set_option maxRecDepth 100000 in
theorem orders_few : ∀ n, n < 7 → smallB (EO (-1) (-2) n 8 (2 ^ n - 1)) = true ∧ nrmK (EOa (-1) (-2) n 8 (2 ^ n - 1) 0 0 1 []) = nrmK (DTa n n 0 0 0 1 []) := by decide +kernel
set_option maxRecDepth 100000 in
theorem orders_seven : nrmK (EOa (-1) (-2) 7 8 127 0 0 1 []) = nrmK (DTa 7 7 0 0 0 1 []) := by decide +kernel
set_option maxRecDepth 100000 in
theorem small_seven : smallB (EO (-1) (-2) 7 8 127) = true := by decide +kernel
theorem smallB_DT (n : Nat) (hn : n < 16) : smallB (DT n n 0) = true := List.all_eq_true.2 fun t ht => by
  have := small_DT n n 0 t ht
  exact Nat.ble_eq_true_of_le (by omega)
/-- All orders make what all figures make. -/
theorem orders (n : Nat) (hn : n ≤ 7) (φ : Nat → Bool) (k : Nat) (hk : k < 16) : ev φ k (DT n n 0) = ev φ k (EO (-1) (-2) n 8 (2 ^ n - 1)) := by
  by_cases h7 : n = 7
  · subst h7
    exact (ev_same small_seven (smallB_DT 7 (by decide)) (by rw [nrm_EO, nrm_DT]; exact orders_seven) φ k hk).symm
  · obtain ⟨h1, h2⟩ := orders_few n (by omega)
    exact (ev_same h1 (smallB_DT n (by omega)) (by rw [nrm_EO, nrm_DT]; exact h2) φ k hk).symm
end Go.Proofs.YtglalkenkmijkaaDoor.Enum
