/- Sachs: part 7 of the texts of this claim, joined by a program: the walks over the program's text, the plain laws, the card. No condition beyond the statement's own. -/
import Derived.Test.YtglalkenkmijkaaDoorJSachs0
import Derived.Test.YtglalkenkmijkaaDoorJSachs3
import Derived.Test.YtglalkenkmijkaaDoorJSachs6
import Derived.Test.YtglalkenkmijkaaDoorJSachs1
namespace Go.Proofs.YtglalkenkmijkaaDoor.PAll
open Go.RowKit Go.Proofs.YtglalkenkmijkaaDoorW.PrintWords Go.Proofs.YtglalkenkmijkaaDoorW.PrintLast Go.Proofs.YtglalkenkmijkaaDoorW.PrintMore
attribute [local go_sem] max2_int min2_int max_two min_two max_three min_three max_four min_four   -- for this text's walks alone
set_option linter.unusedVariables false
set_option linter.unusedSimpArgs false

/-! ### clochelaw08_TonesSachs: function 4 -/
mutual
def clochelaw08_TonesSachs.j0 : Nat → List Int → Bool → Option (Bool)
  | 0, _, _ => none
  | k + 1, x0, x17 => if x17 = true then ((clochelaw08_alive.f).bind fun t266 => (some t266)) else ((tones_Tones.f k x0).bind fun bt267 => (if bt267.2 = 0 then (if (bt267.1.length : Int) = (wrap64 ((x0.length : Int) + 1)) then (if 0 ≤ (x0.length : Int) then (if (x0.length : Int) < (bt267.1.length : Int) then (clochelaw08_TonesSachs.j1 k x0 (x0.length : Int) bt267.1 ((rd bt267.1 (x0.length : Int)) != 1)) else (none)) else (none)) else (clochelaw08_TonesSachs.j1 k x0 (x0.length : Int) bt267.1 true)) else (clochelaw08_TonesSachs.j1 k x0 (x0.length : Int) bt267.1 true)))
def clochelaw08_TonesSachs.j1 : Nat → List Int → Int → List Int → Bool → Option (Bool)
  | 0, _, _, _, _ => none
  | k + 1, x0, x3, x4, x41 => if x41 = true then (some false) else (clochelaw08_TonesSachs.l0 k x0 x3 x4 0)
def clochelaw08_TonesSachs.l0 : Nat → List Int → Int → List Int → Int → Option (Bool)
  | 0, _, _, _, _ => none
  | k + 1, x0, x3, x4, x6 => if x6 ≤ x3 then ((tones_Figures.f k x0 x6).bind fun bt272 => (if bt272.2.2 = 0 then (if 0 ≤ (wrap64 (x3 - x6)) then (if (wrap64 (x3 - x6)) < (x4.length : Int) then (if bt272.1 = (rd x4 (wrap64 (x3 - x6))) then (if bt272.2.1 < 0 then (some false) else (if x6 = 0 then (if bt272.2.1 = 1 then (if bt272.2.1 = 0 then (if bt272.1 = 0 then (clochelaw08_TonesSachs.l0 k x0 x3 x4 (wrap64 (x6 + 1))) else (some false)) else (clochelaw08_TonesSachs.l0 k x0 x3 x4 (wrap64 (x6 + 1)))) else (some false)) else (if bt272.2.1 = 0 then (if bt272.1 = 0 then (clochelaw08_TonesSachs.l0 k x0 x3 x4 (wrap64 (x6 + 1))) else (some false)) else (clochelaw08_TonesSachs.l0 k x0 x3 x4 (wrap64 (x6 + 1)))))) else (some false)) else (none)) else (none)) else (some false))) else ((clochelaw08_alive.f).bind fun t276 => (some t276))
end
def clochelaw08_TonesSachs.f (k : Nat) (l0 : List Int) : Option (Bool) := (clochelaw08_few.f l0 ([] : List Int)).bind fun t264 => (if t264 = true then ((clocheref08_IsFrame.f k l0).bind fun t265 => (clochelaw08_TonesSachs.j0 k l0 (!t265))) else (clochelaw08_TonesSachs.j0 k l0 true))
theorem clochelaw08_TonesSachs.mono_l : ∀ k, (∀ y0 y1, LeO (clochelaw08_TonesSachs.j0 k y0 y1) (clochelaw08_TonesSachs.j0 (k + 1) y0 y1)) ∧ (∀ y0 y1 y2 y3, LeO (clochelaw08_TonesSachs.j1 k y0 y1 y2 y3) (clochelaw08_TonesSachs.j1 (k + 1) y0 y1 y2 y3)) ∧ (∀ y0 y1 y2 y3, LeO (clochelaw08_TonesSachs.l0 k y0 y1 y2 y3) (clochelaw08_TonesSachs.l0 (k + 1) y0 y1 y2 y3))
  | 0 => ⟨fun _ _ r h => by simp [clochelaw08_TonesSachs.j0] at h, fun _ _ _ _ r h => by simp [clochelaw08_TonesSachs.j1] at h, fun _ _ _ _ r h => by simp [clochelaw08_TonesSachs.l0] at h⟩
  | k + 1 => by
    obtain ⟨ih0, ih1, ih2⟩ := clochelaw08_TonesSachs.mono_l k
    refine ⟨?_, ?_, ?_⟩
    · intro y0 y1
      unfold clochelaw08_TonesSachs.j0
      repeat' first
      | (with_reducible exact ih0 _ _)
      | (with_reducible exact ih1 _ _ _ _)
      | (with_reducible exact ih2 _ _ _ _)
      | (with_reducible exact clocheref08_IsFrame.mono _ _)
      | (with_reducible exact tones_Figures.mono _ _ _)
      | (with_reducible exact tones_Tones.mono _ _)
      | (with_reducible exact LeO.refl _)
      | (with_reducible exact LeO.none _)
      | (with_reducible refine LeO.ite ?_ ?_)
      | (with_reducible refine LeO.bind ?_ (fun _ => ?_))
      | exact ih0 _ _
      | exact ih1 _ _ _ _
      | exact ih2 _ _ _ _
      | exact clocheref08_IsFrame.mono _ _
      | exact tones_Figures.mono _ _ _
      | exact tones_Tones.mono _ _
      | exact LeO.none _
      | refine LeO.ite ?_ ?_
      | refine LeO.bind ?_ (fun _ => ?_)
    · intro y0 y1 y2 y3
      unfold clochelaw08_TonesSachs.j1
      repeat' first
      | (with_reducible exact ih0 _ _)
      | (with_reducible exact ih1 _ _ _ _)
      | (with_reducible exact ih2 _ _ _ _)
      | (with_reducible exact clocheref08_IsFrame.mono _ _)
      | (with_reducible exact tones_Figures.mono _ _ _)
      | (with_reducible exact tones_Tones.mono _ _)
      | (with_reducible exact LeO.refl _)
      | (with_reducible exact LeO.none _)
      | (with_reducible refine LeO.ite ?_ ?_)
      | (with_reducible refine LeO.bind ?_ (fun _ => ?_))
      | exact ih0 _ _
      | exact ih1 _ _ _ _
      | exact ih2 _ _ _ _
      | exact clocheref08_IsFrame.mono _ _
      | exact tones_Figures.mono _ _ _
      | exact tones_Tones.mono _ _
      | exact LeO.none _
      | refine LeO.ite ?_ ?_
      | refine LeO.bind ?_ (fun _ => ?_)
    · intro y0 y1 y2 y3
      unfold clochelaw08_TonesSachs.l0
      repeat' first
      | (with_reducible exact ih0 _ _)
      | (with_reducible exact ih1 _ _ _ _)
      | (with_reducible exact ih2 _ _ _ _)
      | (with_reducible exact clocheref08_IsFrame.mono _ _)
      | (with_reducible exact tones_Figures.mono _ _ _)
      | (with_reducible exact tones_Tones.mono _ _)
      | (with_reducible exact LeO.refl _)
      | (with_reducible exact LeO.none _)
      | (with_reducible refine LeO.ite ?_ ?_)
      | (with_reducible refine LeO.bind ?_ (fun _ => ?_))
      | exact ih0 _ _
      | exact ih1 _ _ _ _
      | exact ih2 _ _ _ _
      | exact clocheref08_IsFrame.mono _ _
      | exact tones_Figures.mono _ _ _
      | exact tones_Tones.mono _ _
      | exact LeO.none _
      | refine LeO.ite ?_ ?_
      | refine LeO.bind ?_ (fun _ => ?_)
theorem clochelaw08_TonesSachs.mono : ∀ a0 k, LeO (clochelaw08_TonesSachs.f k a0) (clochelaw08_TonesSachs.f (k + 1) a0) := by
  intro a0 k
  obtain ⟨ih0, ih1, ih2⟩ := clochelaw08_TonesSachs.mono_l k
  unfold clochelaw08_TonesSachs.f
  repeat' first
      | (with_reducible exact ih0 _ _)
      | (with_reducible exact ih1 _ _ _ _)
      | (with_reducible exact ih2 _ _ _ _)
      | (with_reducible exact clocheref08_IsFrame.mono _ _)
      | (with_reducible exact tones_Figures.mono _ _ _)
      | (with_reducible exact tones_Tones.mono _ _)
      | (with_reducible exact LeO.refl _)
      | (with_reducible exact LeO.none _)
      | (with_reducible refine LeO.ite ?_ ?_)
      | (with_reducible refine LeO.bind ?_ (fun _ => ?_))
      | exact ih0 _ _
      | exact ih1 _ _ _ _
      | exact ih2 _ _ _ _
      | exact clocheref08_IsFrame.mono _ _
      | exact tones_Figures.mono _ _ _
      | exact tones_Tones.mono _ _
      | exact LeO.none _
      | refine LeO.ite ?_ ?_
      | refine LeO.bind ?_ (fun _ => ?_)
set_option maxHeartbeats 8000000 in
set_option maxRecDepth 100000 in
theorem clochelaw08_TonesSachs.calls (k : Nat) (A0 : Option Addr) (c0 : Nat) (l0 : List Int) (r : Bool) (w : World) (hr0 : Kd.C (Kd.int .i64) w A0 l0.length l0) (hc0 : l0.length ≤ c0) (h : clochelaw08_TonesSachs.f k l0 = some r) (hG : Hand.Glob w := by first | exact HG.out | exact Hand.Glob.of_below HG.out HB.out | exact Hand.Glob.of_below HG.out (by repeat (first | (with_reducible first | exact HB.out | exact Below.refl _ _ | apply below_alloc | apply pw_below_drewN | apply below_drew1) | exact HB.out | refine below_set ?_ (by with_reducible assumption)))) :
    Calls Tryd.prog 4 #[.slice A0 l0.length c0] w fun e w' => e = .returned (.bool r) ∧ Below w.heap.size w w' := by
  have HG := Aside0.mk hG
  clear hG
  have HR0 := Aside0.mk hr0
  have HC0 := Aside0.mk hc0
  clear hr0 hc0
  have HB := Aside0.mk (Below.refl w.heap.size w)
  have H : ((clochelaw08_few.f l0 ([] : List Int)).bind fun t264 => (if t264 = true then ((clocheref08_IsFrame.f k l0).bind fun t265 => (clochelaw08_TonesSachs.j0 k l0 (!t265))) else (clochelaw08_TonesSachs.j0 k l0 true))) = some r := h
  clear h
  have HC2 := Aside0.mk H
  clear H
  go_enter Tryd.func4, Tryd.ntmps4
  go_upto_region 1 with (fail)
  go_cut [17] (fun v17 wc => ∃ (kq : Nat) (x17_1 : Bool), v17 = .bool x17_1 ∧ Aside0 (clochelaw08_TonesSachs.j0 kq l0 x17_1 = some r) ∧ Aside0 (kq ≤ k) ∧ Aside0 (Below w.heap.size w wc))
  case first =>
    have H := HC2.out
    clear HC2
    replace H := Option.bind_eq_some_iff.mp H
    obtain ⟨t264, A30, H⟩ := H
    replace H : (if t264 = true then ((clocheref08_IsFrame.f k l0).bind fun t265 => (clochelaw08_TonesSachs.j0 k l0 (!t265))) else (clochelaw08_TonesSachs.j0 k l0 true)) = some r := H
    have A3 := Aside0.mk A30
    clear A30
    by_cases c4 : t264 = true
    · subst c4
      have H1 : ((clocheref08_IsFrame.f k l0).bind fun t265 => (clochelaw08_TonesSachs.j0 k l0 (!t265))) = some r := by rw [if_pos rfl] at H; exact H
      clear H
      have H := H1
      clear H1
      replace H := Option.bind_eq_some_iff.mp H
      obtain ⟨t265, A50, H⟩ := H
      replace H : (clochelaw08_TonesSachs.j0 k l0 (!t265)) = some r := H
      have A5 := Aside0.mk A50
      clear A50
      have H' := Aside0.mk H
      clear H
      go_wp2_with (first | ((with_reducible refine gate_callee (f := 16) rfl ?_); refine goesL_ (some 11) rfl rfl Tryd.func16 (by kernel_rfl) rfl #[.slice A0 l0.length c0, .slice none 0 0] rfl (by (try simp only [List.map_toArray, List.map_cons, List.map_nil]); first | done | rfl | (simp only [List.length_drop, List.length_take]; rfl)) ?_; (refine (clochelaw08_few.calls _ _ l0 _ _ ([] : List Int) true _ ?side1 ?side2 ?side3 ?side4 A3.out).mono ?_); (case side1 => repeat (first | exact (Kd.C_below HR0.out HB.out) | (with_reducible refine Kd.C_alloc ?_ _) | (with_reducible refine Kd.C_drewN ?_ _) | (with_reducible refine Kd.C_drew ?_))); (case side2 => exact HC0.out); (case side3 => exact Kd.C_nil _ _); (case side4 => exact Nat.le_refl _); rintro e w' ⟨rfl, ⟨nd, rfl⟩⟩; refine ⟨_, rfl, ?_⟩) | (go_at_call 20; (with_reducible refine (clocheref08_IsFrame.calls k _ _ l0 t265 _ ?side1 ?side2 A5.out).mono ?_); (case side1 => repeat (first | exact (Kd.C_below HR0.out (by repeat (first | (with_reducible first | exact HB.out | apply below_alloc | apply pw_below_drewN | apply below_drew1) | exact HB.out))) | (with_reducible refine Kd.C_alloc ?_ _) | (with_reducible refine Kd.C_drewN ?_ _) | (with_reducible refine Kd.C_drew ?_))); (case side2 => exact HC0.out); rintro e w' ⟨rfl, ⟨nd, rfl⟩⟩))
      go_meet
      case rel => exact ⟨_, (!t265), (by first | rfl | (simp; done) | (simp [*]; done)), H', ⟨by first | omega | exact Nat.le_refl _⟩, ⟨by repeat (first | (with_reducible first | exact HB.out | apply below_alloc | apply pw_below_drewN | apply below_drew1) | exact HB.out)⟩⟩
    · replace c4 := Bool.eq_false_iff.mpr c4
      subst c4
      have H1 : (clochelaw08_TonesSachs.j0 k l0 true) = some r := by rw [if_neg (show ¬ (false = true) by decide)] at H; exact H
      clear H
      have H := H1
      clear H1
      have H' := Aside0.mk H
      clear H
      go_wp2_with (first | ((with_reducible refine gate_callee (f := 16) rfl ?_); refine goesL_ (some 11) rfl rfl Tryd.func16 (by kernel_rfl) rfl #[.slice A0 l0.length c0, .slice none 0 0] rfl (by (try simp only [List.map_toArray, List.map_cons, List.map_nil]); first | done | rfl | (simp only [List.length_drop, List.length_take]; rfl)) ?_; (refine (clochelaw08_few.calls _ _ l0 _ _ ([] : List Int) false _ ?side1 ?side2 ?side3 ?side4 A3.out).mono ?_); (case side1 => repeat (first | exact (Kd.C_below HR0.out HB.out) | (with_reducible refine Kd.C_alloc ?_ _) | (with_reducible refine Kd.C_drewN ?_ _) | (with_reducible refine Kd.C_drew ?_))); (case side2 => exact HC0.out); (case side3 => exact Kd.C_nil _ _); (case side4 => exact Nat.le_refl _); rintro e w' ⟨rfl, ⟨nd, rfl⟩⟩; refine ⟨_, rfl, ?_⟩))
      go_meet
      case rel => exact ⟨_, (true), (by first | rfl | (simp; done) | (simp [*]; done)), H', ⟨by first | omega | exact Nat.le_refl _⟩, ⟨by repeat (first | (with_reducible first | exact HB.out | apply below_alloc | apply pw_below_drewN | apply below_drew1) | exact HB.out)⟩⟩
  case rest =>
    clear HC2
    try clear c1
    try clear p2
    try clear c4
    obtain ⟨kq, x17_1, rfl, HA, HJ1, HB⟩ := hcut
    cases kq with
    | zero => exact absurd HA.out (by simp [clochelaw08_TonesSachs.j0])
    | succ kj1 =>
      have H := HA.out
      clear HA
      simp only [clochelaw08_TonesSachs.j0] at H
      by_cases c6 : x17_1 = true
      · subst c6
        have H1 : ((clochelaw08_alive.f).bind fun t266 => (some t266)) = some r := by rw [if_pos rfl] at H; exact H
        clear H
        have H := H1
        clear H1
        replace H := Option.bind_eq_some_iff.mp H
        obtain ⟨t266, A70, H⟩ := H
        replace H : (some t266) = some r := H
        have A7 := Aside0.mk A70
        clear A70
        obtain rfl := Option.some.inj H
        go_wp2_with (first | ((with_reducible refine gate_callee (f := 17) rfl ?_); refine goesL_ (some 18) rfl rfl Tryd.func17 (by kernel_rfl) rfl #[] rfl (by (try simp only [List.map_toArray, List.map_cons, List.map_nil]); first | done | rfl | (simp only [List.length_drop, List.length_take]; rfl)) ?_; (with_reducible refine (clochelaw08_alive.calls  t266 _ A7.out).mono ?_); rintro e w8 ⟨rfl, hb⟩; refine ⟨_, rfl, ?_⟩; have n0_ := Aside0.mk (below_step (by repeat (first | (with_reducible first | exact HB.out | apply below_alloc | apply pw_below_drewN | apply below_drew1) | exact HB.out)) hb); clear HB; have HB := n0_; clear n0_; (try clear hb); (try clear hb2); (try clear hk); (try clear hi)))
        go_ret
        exact ⟨by first | rfl | (simp [errW_none, errW_some] <;> rfl) | (simp [*, errW_none, errW_some] <;> rfl), by repeat (first | (with_reducible first | exact HB.out | apply below_alloc | apply pw_below_drewN | apply below_drew1) | exact HB.out)⟩
      · replace c6 := Bool.eq_false_iff.mpr c6
        subst c6
        have H1 : ((tones_Tones.f kj1 l0).bind fun bt267 => (if bt267.2 = 0 then (if (bt267.1.length : Int) = (wrap64 ((l0.length : Int) + 1)) then (if 0 ≤ (l0.length : Int) then (if (l0.length : Int) < (bt267.1.length : Int) then (clochelaw08_TonesSachs.j1 kj1 l0 (l0.length : Int) bt267.1 ((rd bt267.1 (l0.length : Int)) != 1)) else (none)) else (none)) else (clochelaw08_TonesSachs.j1 kj1 l0 (l0.length : Int) bt267.1 true)) else (clochelaw08_TonesSachs.j1 kj1 l0 (l0.length : Int) bt267.1 true))) = some r := by rw [if_neg (show ¬ (false = true) by decide)] at H; exact H
        clear H
        have H := H1
        clear H1
        replace H := Option.bind_eq_some_iff.mp H
        obtain ⟨⟨t267, t268⟩, A90, H⟩ := H
        replace H : (if t268 = 0 then (if (t267.length : Int) = (wrap64 ((l0.length : Int) + 1)) then (if 0 ≤ (l0.length : Int) then (if (l0.length : Int) < (t267.length : Int) then (clochelaw08_TonesSachs.j1 kj1 l0 (l0.length : Int) t267 ((rd t267 (l0.length : Int)) != 1)) else (none)) else (none)) else (clochelaw08_TonesSachs.j1 kj1 l0 (l0.length : Int) t267 true)) else (clochelaw08_TonesSachs.j1 kj1 l0 (l0.length : Int) t267 true)) = some r := H
        have A9 := Aside0.mk A90
        clear A90
        have HC10 := Aside0.mk H
        clear H
        go_upto_region 5 with (first | ((with_reducible refine gate_callee (f := 21) rfl ?_); refine goesL_ (some 23) rfl rfl Tryd.func21 (by kernel_rfl) rfl #[.slice A0 l0.length c0] rfl (by (try simp only [List.map_toArray, List.map_cons, List.map_nil]); first | done | rfl | (simp only [List.length_drop, List.length_take]; rfl)) ?_; (with_reducible refine (tones_Tones.calls kj1 _ _ l0 t267 t268 _ ?side1 ?side2 A9.out).mono ?_); (case side1 => repeat (first | exact (Kd.C_below HR0.out HB.out) | (with_reducible refine Kd.C_alloc ?_ _) | (with_reducible refine Kd.C_drewN ?_ _) | (with_reducible refine Kd.C_drew ?_))); (case side2 => exact HC0.out); rintro e w11 ⟨v269, rfl, ho0, hb⟩; refine ⟨_, rfl, ?_⟩; have n0_ := Aside0.mk (Kd.R_lower ho0 (below_size (by repeat (first | (with_reducible first | exact HB.out | apply below_alloc | apply pw_below_drewN | apply below_drew1) | exact HB.out)))); have n1_ := Aside0.mk (below_step (by repeat (first | (with_reducible first | exact HB.out | apply below_alloc | apply pw_below_drewN | apply below_drew1) | exact HB.out)) hb); clear HB; have HO270 := n0_; have HB := n1_; clear n0_ n1_; (try clear hb); (try clear hb2); (try clear hk); (try clear hi); (try clear ho0)))
        (try simp only [Act.put, List.setIfInBounds_toArray, List.set_cons_zero, List.set_cons_succ])
        go_cut [41] (fun v41 wc => ∃ (kq : Nat) (x41_9 : Bool), v41 = .bool x41_9 ∧ Aside0 (clochelaw08_TonesSachs.j1 kq l0 (l0.length : Int) t267 x41_9 = some r) ∧ Aside0 (kq ≤ kj1) ∧ Aside0 (Kd.R (Kd.int .i64) 3 wc w.heap.size (fun _ => True) v269 t267) ∧ Aside0 (Below w.heap.size w wc))
        case first =>
          have H := HC10.out
          clear HC10
          by_cases c12 : t268 = 0
          · rw [if_pos c12] at H
            have c12b0 : (t268 == 0) = true := beq_iff_eq.mpr c12
            have c12b1 : (t268 != 0) = false := bne_eq_false_iff_eq.mpr c12
            clear c12
            (first | rw [c12b0] | (simp only [i64_w, i32_w]; rw [c12b0]) | skip)
            by_cases c13 : (t267.length : Int) = (wrap64 ((l0.length : Int) + 1))
            · rw [if_pos c13] at H
              have c13b0 : ((t267.length : Int) == (wrap64 ((l0.length : Int) + 1))) = true := beq_iff_eq.mpr c13
              have c13b1 : ((t267.length : Int) != (wrap64 ((l0.length : Int) + 1))) = false := bne_eq_false_iff_eq.mpr c13
              clear c13
              by_cases c14 : 0 ≤ (l0.length : Int)
              · rw [if_pos c14] at H
                have c14b0 : decide (0 ≤ (l0.length : Int)) = true := decide_eq_true c14
                have c14b1 : decide (0 ≤ l0.length) = true := decide_eq_true (by omega)
                clear c14
                by_cases c15 : (l0.length : Int) < (t267.length : Int)
                · rw [if_pos c15] at H
                  have c15b0 : decide ((l0.length : Int) < (t267.length : Int)) = true := decide_eq_true c15
                  have c15b1 : decide (l0.length < t267.length) = true := decide_eq_true (Int.ofNat_lt.mp c15)
                  clear c15
                  have H' := Aside0.mk H
                  clear H
                  obtain ⟨Ao16, co16, eo16⟩ := Kd.R_slice HO270.out
                  subst eo16
                  have p271 : 0 ≤ ((l0.length : Int) : Int) := of_decide_eq_true (by first | (with_reducible assumption) | assumption)
                  have q271 : (l0.length : Int) < (t267.length : Int) := of_decide_eq_true (by first | (with_reducible assumption) | assumption)
                  obtain ⟨ad271, e271, hx271_0⟩ := Kd.at_int (Kd.R_reads' HO270.out).2.2 (l0.length : Int) p271 q271
                  cases e271
                  (try simp only [Go.IntWalk.toNatUp] at hx271_0)
                  replace p271 := eq_true p271
                  replace q271 := eq_true q271
                  go_wp2
                  go_meet
                  case rel => exact ⟨_, (((rd t267 (l0.length : Int)) != 1)), (by first | rfl | (simp; done) | (simp [*]; done)), H', ⟨by have := HJ1.out; first | omega | exact Nat.le_refl _⟩, ⟨by (with_reducible repeat (first | apply Kd.R_alloc | apply Kd.R_drewN | apply Kd.R_drew)); exact HO270.out⟩, ⟨by repeat (first | (with_reducible first | exact HB.out | apply below_alloc | apply pw_below_drewN | apply below_drew1) | exact HB.out)⟩⟩
                · rw [if_neg c15] at H
                  exact absurd H (by simp)
              · rw [if_neg c14] at H
                exact absurd H (by simp)
            · rw [if_neg c13] at H
              have c13b0 : ((t267.length : Int) == (wrap64 ((l0.length : Int) + 1))) = false := beq_eq_false_iff_ne.mpr c13
              have c13b1 : ((t267.length : Int) != (wrap64 ((l0.length : Int) + 1))) = true := bne_iff_ne.mpr c13
              have H' := Aside0.mk H
              clear H
              obtain ⟨Ao17, co17, eo17⟩ := Kd.R_slice HO270.out
              subst eo17
              go_wp2
              go_meet
              case rel => exact ⟨_, (true), (by first | rfl | (simp; done) | (simp [*]; done)), H', ⟨by have := HJ1.out; first | omega | exact Nat.le_refl _⟩, ⟨by (with_reducible repeat (first | apply Kd.R_alloc | apply Kd.R_drewN | apply Kd.R_drew)); exact HO270.out⟩, ⟨by repeat (first | (with_reducible first | exact HB.out | apply below_alloc | apply pw_below_drewN | apply below_drew1) | exact HB.out)⟩⟩
          · rw [if_neg c12] at H
            have c12b0 : (t268 == 0) = false := beq_eq_false_iff_ne.mpr c12
            have c12b1 : (t268 != 0) = true := bne_iff_ne.mpr c12
            (first | rw [c12b0] | (simp only [i64_w, i32_w]; rw [c12b0]) | skip)
            have H' := Aside0.mk H
            clear H
            go_wp2
            go_meet
            case rel => exact ⟨_, (true), (by first | rfl | (simp; done) | (simp [*]; done)), H', ⟨by have := HJ1.out; first | omega | exact Nat.le_refl _⟩, ⟨by (with_reducible repeat (first | apply Kd.R_alloc | apply Kd.R_drewN | apply Kd.R_drew)); exact HO270.out⟩, ⟨by repeat (first | (with_reducible first | exact HB.out | apply below_alloc | apply pw_below_drewN | apply below_drew1) | exact HB.out)⟩⟩
        case rest =>
          clear HC10
          try clear c1
          try clear c2
          try clear p2
          try clear q2
          try clear hx2
          try clear c4
          try clear c6
          try clear p6
          try clear c12
          try clear c12b0
          try clear c12b1
          try clear c13
          try clear c13b0
          try clear c13b1
          try clear c14
          try clear c14b0
          try clear c14b1
          try clear c15
          try clear c15b0
          try clear c15b1
          try clear c16
          try clear c17
          try clear hx271_0
          try clear p2
          try clear p271
          try clear q271
          obtain ⟨kq, x41_9, rfl, HA, HJ9, HO_4, HB⟩ := hcut
          cases kq with
          | zero => exact absurd HA.out (by simp [clochelaw08_TonesSachs.j1])
          | succ kj9 =>
            have H := HA.out
            clear HA
            simp only [clochelaw08_TonesSachs.j1] at H
            by_cases c18 : x41_9 = true
            · subst c18
              have H1 : (some false) = some r := by rw [if_pos rfl] at H; exact H
              clear H
              have H := H1
              clear H1
              obtain rfl := Option.some.inj H
              go_wp2
              go_ret
              exact ⟨by first | rfl | (simp [errW_none, errW_some] <;> rfl) | (simp [*, errW_none, errW_some] <;> rfl), by repeat (first | (with_reducible first | exact HB.out | apply below_alloc | apply pw_below_drewN | apply below_drew1) | exact HB.out)⟩
            · replace c18 := Bool.eq_false_iff.mpr c18
              subst c18
              have H1 : (clochelaw08_TonesSachs.l0 kj9 l0 (l0.length : Int) t267 0) = some r := by rw [if_neg (show ¬ (false = true) by decide)] at H; exact H
              clear H
              have H := H1
              clear H1
              have H' := Aside0.mk H
              clear H
              go_wp2
              go_loopg [6] kj9 (fun kq v6 w' => ∃ (x6_3 : Int), v6 = .int .i64 x6_3 ∧ Aside0 (clochelaw08_TonesSachs.l0 kq l0 (l0.length : Int) t267 x6_3 = some r) ∧ Aside0 (kq ≤ kj9) ∧ Aside0 (Kd.R (Kd.int .i64) 3 w' w.heap.size (fun _ => True) v269 t267) ∧ Aside0 (Below w.heap.size w w'))
              case atStart => exact ⟨(0), (by first | rfl | (simp; done) | (simp [*]; done)), H', ⟨Nat.le_refl _⟩, ⟨by (with_reducible repeat (first | apply Kd.R_alloc | apply Kd.R_drewN | apply Kd.R_drew)); exact HO_4.out⟩, ⟨by repeat (first | (with_reducible first | exact HB.out | apply below_alloc | apply pw_below_drewN | apply below_drew1) | exact HB.out)⟩⟩
              case round =>
                clear H'
                try clear c1
                try clear c2
                try clear p2
                try clear q2
                try clear hx2
                try clear c4
                try clear c6
                try clear p6
                try clear c12
                try clear c12b0
                try clear c12b1
                try clear c13
                try clear c13b0
                try clear c13b1
                try clear c14
                try clear c14b0
                try clear c14b1
                try clear c15
                try clear c15b0
                try clear c15b1
                try clear c16
                try clear c17
                try clear c18
                try clear hx271_0
                try clear p2
                try clear p271
                try clear p6
                try clear q2
                try clear q271
                obtain ⟨x6_3, rfl, HA, HK3, HO_4, HB⟩ := hrel
                cases gk with
                | zero => exact absurd HA.out (by simp [clochelaw08_TonesSachs.l0])
                | succ k3 =>
                  have H := HA.out
                  clear HA
                  simp only [clochelaw08_TonesSachs.l0] at H
                  by_cases c19 : x6_3 ≤ (l0.length : Int)
                  · rw [if_pos c19] at H
                    have c19b0 : decide (x6_3 ≤ (l0.length : Int)) = true := decide_eq_true c19
                    clear c19
                    replace H := Option.bind_eq_some_iff.mp H
                    obtain ⟨⟨t272, t273, t274⟩, A200, H⟩ := H
                    replace H : (if t274 = 0 then (if 0 ≤ (wrap64 ((l0.length : Int) - x6_3)) then (if (wrap64 ((l0.length : Int) - x6_3)) < (t267.length : Int) then (if t272 = (rd t267 (wrap64 ((l0.length : Int) - x6_3))) then (if t273 < 0 then (some false) else (if x6_3 = 0 then (if t273 = 1 then (if t273 = 0 then (if t272 = 0 then (clochelaw08_TonesSachs.l0 k3 l0 (l0.length : Int) t267 (wrap64 (x6_3 + 1))) else (some false)) else (clochelaw08_TonesSachs.l0 k3 l0 (l0.length : Int) t267 (wrap64 (x6_3 + 1)))) else (some false)) else (if t273 = 0 then (if t272 = 0 then (clochelaw08_TonesSachs.l0 k3 l0 (l0.length : Int) t267 (wrap64 (x6_3 + 1))) else (some false)) else (clochelaw08_TonesSachs.l0 k3 l0 (l0.length : Int) t267 (wrap64 (x6_3 + 1)))))) else (some false)) else (none)) else (none)) else (some false)) = some r := H
                    have A20 := Aside0.mk A200
                    clear A200
                    by_cases c21 : t274 = 0
                    · rw [if_pos c21] at H
                      have c21b0 : (t274 == 0) = true := beq_iff_eq.mpr c21
                      have c21b1 : (t274 != 0) = false := bne_eq_false_iff_eq.mpr c21
                      clear c21
                      obtain ⟨ji22, hji22⟩ : ∃ j_ : Int, (wrap64 ((l0.length : Int) - x6_3)) = j_ := ⟨_, rfl⟩
                      replace H : (if 0 ≤ (ji22) then (if (ji22) < (t267.length : Int) then (if t272 = (rd t267 (ji22)) then (if t273 < 0 then (some false) else (if x6_3 = 0 then (if t273 = 1 then (if t273 = 0 then (if t272 = 0 then (clochelaw08_TonesSachs.l0 k3 l0 (l0.length : Int) t267 (wrap64 (x6_3 + 1))) else (some false)) else (clochelaw08_TonesSachs.l0 k3 l0 (l0.length : Int) t267 (wrap64 (x6_3 + 1)))) else (some false)) else (if t273 = 0 then (if t272 = 0 then (clochelaw08_TonesSachs.l0 k3 l0 (l0.length : Int) t267 (wrap64 (x6_3 + 1))) else (some false)) else (clochelaw08_TonesSachs.l0 k3 l0 (l0.length : Int) t267 (wrap64 (x6_3 + 1)))))) else (some false)) else (none)) else (none)) = some r := by first | (rw [hji22] at H; exact H) | (simp only [hji22] at H ⊢; exact H)
                      (try rw [hji22] at A20)
                      have hji22w : (IntKind.i64.wrap ((l0.length : Int) - x6_3)) = ji22 := (i64_w _).trans hji22
                      by_cases c23 : 0 ≤ (ji22)
                      · rw [if_pos c23] at H
                        have c23b0 : decide (0 ≤ (ji22)) = true := decide_eq_true c23
                        clear c23
                        by_cases c24 : (ji22) < (t267.length : Int)
                        · rw [if_pos c24] at H
                          have c24b0 : decide ((ji22) < (t267.length : Int)) = true := decide_eq_true c24
                          clear c24
                          by_cases c25 : t272 = (rd t267 (ji22))
                          · rw [if_pos c25] at H
                            have c25b0 : (t272 == (rd t267 (ji22))) = true := beq_iff_eq.mpr c25
                            have c25b1 : (t272 != (rd t267 (ji22))) = false := bne_eq_false_iff_eq.mpr c25
                            clear c25
                            by_cases c26 : t273 < 0
                            · rw [if_pos c26] at H
                              have c26b0 : decide (t273 < 0) = true := decide_eq_true c26
                              clear c26
                              obtain rfl := Option.some.inj H
                              go_wp2_with (first | ((with_reducible refine gate_callee (f := 22) rfl ?_); refine goesL_ (some 50) rfl rfl Tryd.func22 (by kernel_rfl) rfl #[.slice A0 l0.length c0, .int .i64 x6_3] rfl (by (try simp only [List.map_toArray, List.map_cons, List.map_nil]); first | done | rfl | (simp only [List.length_drop, List.length_take]; rfl)) ?_; (with_reducible refine (tones_Figures.calls k3 _ _ l0 x6_3 t272 t273 t274 _ ?side1 ?side2 A20.out).mono ?_); (case side1 => repeat (first | exact (Kd.C_below HR0.out HB.out) | (with_reducible refine Kd.C_alloc ?_ _) | (with_reducible refine Kd.C_drewN ?_ _) | (with_reducible refine Kd.C_drew ?_))); (case side2 => exact HC0.out); rintro e w27 ⟨rfl, hb⟩; refine ⟨_, rfl, ?_⟩; have n0_ := Aside0.mk (Kd.R_below (by (with_reducible repeat (first | apply Kd.R_alloc | apply Kd.R_drewN | apply Kd.R_drew)); exact HO_4.out) hb); have n1_ := Aside0.mk (below_step (by repeat (first | (with_reducible first | exact HB.out | apply below_alloc | apply pw_below_drewN | apply below_drew1) | exact HB.out)) hb); clear HO_4; clear HB; have HO_4 := n0_; have HB := n1_; clear n0_ n1_; (try clear hb); (try clear hb2); (try clear hk); (try clear hi); obtain ⟨Ao28, co28, eo28⟩ := Kd.R_slice HO_4.out; subst eo28; have p275 : 0 ≤ ((ji22) : Int) := of_decide_eq_true (by first | (with_reducible assumption) | assumption); have q275 : (ji22) < (t267.length : Int) := of_decide_eq_true (by first | (with_reducible assumption) | assumption); obtain ⟨ad275, e275, hx275_0⟩ := Kd.at_int (Kd.R_reads' HO_4.out).2.2 (ji22) p275 q275; cases e275; replace p275 := eq_true p275; replace q275 := eq_true q275))
                              go_ret
                              exact ⟨by first | rfl | (simp [errW_none, errW_some] <;> rfl) | (simp only [← hji22]; first | rfl | (simp [errW_none, errW_some] <;> rfl)) | (simp [*, errW_none, errW_some] <;> rfl), by repeat (first | (with_reducible first | exact HB.out | apply below_alloc | apply pw_below_drewN | apply below_drew1) | exact HB.out)⟩
                            · rw [if_neg c26] at H
                              have c26b0 : decide (t273 < 0) = false := decide_eq_false c26
                              clear c26
                              by_cases c29 : x6_3 = 0
                              · rw [if_pos c29] at H
                                have c29b0 : (x6_3 == 0) = true := beq_iff_eq.mpr c29
                                have c29b1 : (x6_3 != 0) = false := bne_eq_false_iff_eq.mpr c29
                                clear c29
                                by_cases c30 : t273 = 1
                                · rw [if_pos c30] at H
                                  have c30b0 : (t273 == 1) = true := beq_iff_eq.mpr c30
                                  have c30b1 : (t273 != 1) = false := bne_eq_false_iff_eq.mpr c30
                                  clear c30
                                  by_cases c31 : t273 = 0
                                  · rw [if_pos c31] at H
                                    have c31b0 : (t273 == 0) = true := beq_iff_eq.mpr c31
                                    have c31b1 : (t273 != 0) = false := bne_eq_false_iff_eq.mpr c31
                                    clear c31
                                    by_cases c32 : t272 = 0
                                    · rw [if_pos c32] at H
                                      have c32b0 : (t272 == 0) = true := beq_iff_eq.mpr c32
                                      have c32b1 : (t272 != 0) = false := bne_eq_false_iff_eq.mpr c32
                                      clear c32
                                      have H' := Aside0.mk H
                                      clear H
                                      go_wp2_with (first | ((with_reducible refine gate_callee (f := 22) rfl ?_); refine goesL_ (some 50) rfl rfl Tryd.func22 (by kernel_rfl) rfl #[.slice A0 l0.length c0, .int .i64 x6_3] rfl (by (try simp only [List.map_toArray, List.map_cons, List.map_nil]); first | done | rfl | (simp only [List.length_drop, List.length_take]; rfl)) ?_; (with_reducible refine (tones_Figures.calls k3 _ _ l0 x6_3 t272 t273 t274 _ ?side1 ?side2 A20.out).mono ?_); (case side1 => repeat (first | exact (Kd.C_below HR0.out HB.out) | (with_reducible refine Kd.C_alloc ?_ _) | (with_reducible refine Kd.C_drewN ?_ _) | (with_reducible refine Kd.C_drew ?_))); (case side2 => exact HC0.out); rintro e w33 ⟨rfl, hb⟩; refine ⟨_, rfl, ?_⟩; have n0_ := Aside0.mk (Kd.R_below (by (with_reducible repeat (first | apply Kd.R_alloc | apply Kd.R_drewN | apply Kd.R_drew)); exact HO_4.out) hb); have n1_ := Aside0.mk (below_step (by repeat (first | (with_reducible first | exact HB.out | apply below_alloc | apply pw_below_drewN | apply below_drew1) | exact HB.out)) hb); clear HO_4; clear HB; have HO_4 := n0_; have HB := n1_; clear n0_ n1_; (try clear hb); (try clear hb2); (try clear hk); (try clear hi); obtain ⟨Ao34, co34, eo34⟩ := Kd.R_slice HO_4.out; subst eo34; have p275 : 0 ≤ ((ji22) : Int) := of_decide_eq_true (by first | (with_reducible assumption) | assumption); have q275 : (ji22) < (t267.length : Int) := of_decide_eq_true (by first | (with_reducible assumption) | assumption); obtain ⟨ad275, e275, hx275_0⟩ := Kd.at_int (Kd.R_reads' HO_4.out).2.2 (ji22) p275 q275; cases e275; replace p275 := eq_true p275; replace q275 := eq_true q275))
                                      go_roundg k3
                                      case measure => have := HJ1.out; have := HJ9.out; have := HK3.out; omega
                                      case rel => exact ⟨(wrap64 (x6_3 + 1)), (by first | rfl | (simp; done) | (simp [*]; done)), H', ⟨by have := HJ1.out; have := HJ9.out; have := HK3.out; omega⟩, ⟨by (with_reducible repeat (first | apply Kd.R_alloc | apply Kd.R_drewN | apply Kd.R_drew)); exact HO_4.out⟩, ⟨by repeat (first | (with_reducible first | exact HB.out | apply below_alloc | apply pw_below_drewN | apply below_drew1) | exact HB.out)⟩⟩
                                    · rw [if_neg c32] at H
                                      have c32b0 : (t272 == 0) = false := beq_eq_false_iff_ne.mpr c32
                                      have c32b1 : (t272 != 0) = true := bne_iff_ne.mpr c32
                                      obtain rfl := Option.some.inj H
                                      go_wp2_with (first | ((with_reducible refine gate_callee (f := 22) rfl ?_); refine goesL_ (some 50) rfl rfl Tryd.func22 (by kernel_rfl) rfl #[.slice A0 l0.length c0, .int .i64 x6_3] rfl (by (try simp only [List.map_toArray, List.map_cons, List.map_nil]); first | done | rfl | (simp only [List.length_drop, List.length_take]; rfl)) ?_; (with_reducible refine (tones_Figures.calls k3 _ _ l0 x6_3 t272 t273 t274 _ ?side1 ?side2 A20.out).mono ?_); (case side1 => repeat (first | exact (Kd.C_below HR0.out HB.out) | (with_reducible refine Kd.C_alloc ?_ _) | (with_reducible refine Kd.C_drewN ?_ _) | (with_reducible refine Kd.C_drew ?_))); (case side2 => exact HC0.out); rintro e w35 ⟨rfl, hb⟩; refine ⟨_, rfl, ?_⟩; have n0_ := Aside0.mk (Kd.R_below (by (with_reducible repeat (first | apply Kd.R_alloc | apply Kd.R_drewN | apply Kd.R_drew)); exact HO_4.out) hb); have n1_ := Aside0.mk (below_step (by repeat (first | (with_reducible first | exact HB.out | apply below_alloc | apply pw_below_drewN | apply below_drew1) | exact HB.out)) hb); clear HO_4; clear HB; have HO_4 := n0_; have HB := n1_; clear n0_ n1_; (try clear hb); (try clear hb2); (try clear hk); (try clear hi); obtain ⟨Ao36, co36, eo36⟩ := Kd.R_slice HO_4.out; subst eo36; have p275 : 0 ≤ ((ji22) : Int) := of_decide_eq_true (by first | (with_reducible assumption) | assumption); have q275 : (ji22) < (t267.length : Int) := of_decide_eq_true (by first | (with_reducible assumption) | assumption); obtain ⟨ad275, e275, hx275_0⟩ := Kd.at_int (Kd.R_reads' HO_4.out).2.2 (ji22) p275 q275; cases e275; replace p275 := eq_true p275; replace q275 := eq_true q275))
                                      go_ret
                                      exact ⟨by first | rfl | (simp [errW_none, errW_some] <;> rfl) | (simp only [← hji22]; first | rfl | (simp [errW_none, errW_some] <;> rfl)) | (simp [*, errW_none, errW_some] <;> rfl), by repeat (first | (with_reducible first | exact HB.out | apply below_alloc | apply pw_below_drewN | apply below_drew1) | exact HB.out)⟩
                                  · rw [if_neg c31] at H
                                    have c31b0 : (t273 == 0) = false := beq_eq_false_iff_ne.mpr c31
                                    have c31b1 : (t273 != 0) = true := bne_iff_ne.mpr c31
                                    have H' := Aside0.mk H
                                    clear H
                                    go_wp2_with (first | ((with_reducible refine gate_callee (f := 22) rfl ?_); refine goesL_ (some 50) rfl rfl Tryd.func22 (by kernel_rfl) rfl #[.slice A0 l0.length c0, .int .i64 x6_3] rfl (by (try simp only [List.map_toArray, List.map_cons, List.map_nil]); first | done | rfl | (simp only [List.length_drop, List.length_take]; rfl)) ?_; (with_reducible refine (tones_Figures.calls k3 _ _ l0 x6_3 t272 t273 t274 _ ?side1 ?side2 A20.out).mono ?_); (case side1 => repeat (first | exact (Kd.C_below HR0.out HB.out) | (with_reducible refine Kd.C_alloc ?_ _) | (with_reducible refine Kd.C_drewN ?_ _) | (with_reducible refine Kd.C_drew ?_))); (case side2 => exact HC0.out); rintro e w37 ⟨rfl, hb⟩; refine ⟨_, rfl, ?_⟩; have n0_ := Aside0.mk (Kd.R_below (by (with_reducible repeat (first | apply Kd.R_alloc | apply Kd.R_drewN | apply Kd.R_drew)); exact HO_4.out) hb); have n1_ := Aside0.mk (below_step (by repeat (first | (with_reducible first | exact HB.out | apply below_alloc | apply pw_below_drewN | apply below_drew1) | exact HB.out)) hb); clear HO_4; clear HB; have HO_4 := n0_; have HB := n1_; clear n0_ n1_; (try clear hb); (try clear hb2); (try clear hk); (try clear hi); obtain ⟨Ao38, co38, eo38⟩ := Kd.R_slice HO_4.out; subst eo38; have p275 : 0 ≤ ((ji22) : Int) := of_decide_eq_true (by first | (with_reducible assumption) | assumption); have q275 : (ji22) < (t267.length : Int) := of_decide_eq_true (by first | (with_reducible assumption) | assumption); obtain ⟨ad275, e275, hx275_0⟩ := Kd.at_int (Kd.R_reads' HO_4.out).2.2 (ji22) p275 q275; cases e275; replace p275 := eq_true p275; replace q275 := eq_true q275))
                                    go_roundg k3
                                    case measure => have := HJ1.out; have := HJ9.out; have := HK3.out; omega
                                    case rel => exact ⟨(wrap64 (x6_3 + 1)), (by first | rfl | (simp; done) | (simp [*]; done)), H', ⟨by have := HJ1.out; have := HJ9.out; have := HK3.out; omega⟩, ⟨by (with_reducible repeat (first | apply Kd.R_alloc | apply Kd.R_drewN | apply Kd.R_drew)); exact HO_4.out⟩, ⟨by repeat (first | (with_reducible first | exact HB.out | apply below_alloc | apply pw_below_drewN | apply below_drew1) | exact HB.out)⟩⟩
                                · rw [if_neg c30] at H
                                  have c30b0 : (t273 == 1) = false := beq_eq_false_iff_ne.mpr c30
                                  have c30b1 : (t273 != 1) = true := bne_iff_ne.mpr c30
                                  obtain rfl := Option.some.inj H
                                  go_wp2_with (first | ((with_reducible refine gate_callee (f := 22) rfl ?_); refine goesL_ (some 50) rfl rfl Tryd.func22 (by kernel_rfl) rfl #[.slice A0 l0.length c0, .int .i64 x6_3] rfl (by (try simp only [List.map_toArray, List.map_cons, List.map_nil]); first | done | rfl | (simp only [List.length_drop, List.length_take]; rfl)) ?_; (with_reducible refine (tones_Figures.calls k3 _ _ l0 x6_3 t272 t273 t274 _ ?side1 ?side2 A20.out).mono ?_); (case side1 => repeat (first | exact (Kd.C_below HR0.out HB.out) | (with_reducible refine Kd.C_alloc ?_ _) | (with_reducible refine Kd.C_drewN ?_ _) | (with_reducible refine Kd.C_drew ?_))); (case side2 => exact HC0.out); rintro e w39 ⟨rfl, hb⟩; refine ⟨_, rfl, ?_⟩; have n0_ := Aside0.mk (Kd.R_below (by (with_reducible repeat (first | apply Kd.R_alloc | apply Kd.R_drewN | apply Kd.R_drew)); exact HO_4.out) hb); have n1_ := Aside0.mk (below_step (by repeat (first | (with_reducible first | exact HB.out | apply below_alloc | apply pw_below_drewN | apply below_drew1) | exact HB.out)) hb); clear HO_4; clear HB; have HO_4 := n0_; have HB := n1_; clear n0_ n1_; (try clear hb); (try clear hb2); (try clear hk); (try clear hi); obtain ⟨Ao40, co40, eo40⟩ := Kd.R_slice HO_4.out; subst eo40; have p275 : 0 ≤ ((ji22) : Int) := of_decide_eq_true (by first | (with_reducible assumption) | assumption); have q275 : (ji22) < (t267.length : Int) := of_decide_eq_true (by first | (with_reducible assumption) | assumption); obtain ⟨ad275, e275, hx275_0⟩ := Kd.at_int (Kd.R_reads' HO_4.out).2.2 (ji22) p275 q275; cases e275; replace p275 := eq_true p275; replace q275 := eq_true q275))
                                  go_ret
                                  exact ⟨by first | rfl | (simp [errW_none, errW_some] <;> rfl) | (simp only [← hji22]; first | rfl | (simp [errW_none, errW_some] <;> rfl)) | (simp [*, errW_none, errW_some] <;> rfl), by repeat (first | (with_reducible first | exact HB.out | apply below_alloc | apply pw_below_drewN | apply below_drew1) | exact HB.out)⟩
                              · rw [if_neg c29] at H
                                have c29b0 : (x6_3 == 0) = false := beq_eq_false_iff_ne.mpr c29
                                have c29b1 : (x6_3 != 0) = true := bne_iff_ne.mpr c29
                                by_cases c41 : t273 = 0
                                · rw [if_pos c41] at H
                                  have c41b0 : (t273 == 0) = true := beq_iff_eq.mpr c41
                                  have c41b1 : (t273 != 0) = false := bne_eq_false_iff_eq.mpr c41
                                  clear c41
                                  by_cases c42 : t272 = 0
                                  · rw [if_pos c42] at H
                                    have c42b0 : (t272 == 0) = true := beq_iff_eq.mpr c42
                                    have c42b1 : (t272 != 0) = false := bne_eq_false_iff_eq.mpr c42
                                    clear c42
                                    have H' := Aside0.mk H
                                    clear H
                                    go_wp2_with (first | ((with_reducible refine gate_callee (f := 22) rfl ?_); refine goesL_ (some 50) rfl rfl Tryd.func22 (by kernel_rfl) rfl #[.slice A0 l0.length c0, .int .i64 x6_3] rfl (by (try simp only [List.map_toArray, List.map_cons, List.map_nil]); first | done | rfl | (simp only [List.length_drop, List.length_take]; rfl)) ?_; (with_reducible refine (tones_Figures.calls k3 _ _ l0 x6_3 t272 t273 t274 _ ?side1 ?side2 A20.out).mono ?_); (case side1 => repeat (first | exact (Kd.C_below HR0.out HB.out) | (with_reducible refine Kd.C_alloc ?_ _) | (with_reducible refine Kd.C_drewN ?_ _) | (with_reducible refine Kd.C_drew ?_))); (case side2 => exact HC0.out); rintro e w43 ⟨rfl, hb⟩; refine ⟨_, rfl, ?_⟩; have n0_ := Aside0.mk (Kd.R_below (by (with_reducible repeat (first | apply Kd.R_alloc | apply Kd.R_drewN | apply Kd.R_drew)); exact HO_4.out) hb); have n1_ := Aside0.mk (below_step (by repeat (first | (with_reducible first | exact HB.out | apply below_alloc | apply pw_below_drewN | apply below_drew1) | exact HB.out)) hb); clear HO_4; clear HB; have HO_4 := n0_; have HB := n1_; clear n0_ n1_; (try clear hb); (try clear hb2); (try clear hk); (try clear hi); obtain ⟨Ao44, co44, eo44⟩ := Kd.R_slice HO_4.out; subst eo44; have p275 : 0 ≤ ((ji22) : Int) := of_decide_eq_true (by first | (with_reducible assumption) | assumption); have q275 : (ji22) < (t267.length : Int) := of_decide_eq_true (by first | (with_reducible assumption) | assumption); obtain ⟨ad275, e275, hx275_0⟩ := Kd.at_int (Kd.R_reads' HO_4.out).2.2 (ji22) p275 q275; cases e275; replace p275 := eq_true p275; replace q275 := eq_true q275))
                                    go_roundg k3
                                    case measure => have := HJ1.out; have := HJ9.out; have := HK3.out; omega
                                    case rel => exact ⟨(wrap64 (x6_3 + 1)), (by first | rfl | (simp; done) | (simp [*]; done)), H', ⟨by have := HJ1.out; have := HJ9.out; have := HK3.out; omega⟩, ⟨by (with_reducible repeat (first | apply Kd.R_alloc | apply Kd.R_drewN | apply Kd.R_drew)); exact HO_4.out⟩, ⟨by repeat (first | (with_reducible first | exact HB.out | apply below_alloc | apply pw_below_drewN | apply below_drew1) | exact HB.out)⟩⟩
                                  · rw [if_neg c42] at H
                                    have c42b0 : (t272 == 0) = false := beq_eq_false_iff_ne.mpr c42
                                    have c42b1 : (t272 != 0) = true := bne_iff_ne.mpr c42
                                    obtain rfl := Option.some.inj H
                                    go_wp2_with (first | ((with_reducible refine gate_callee (f := 22) rfl ?_); refine goesL_ (some 50) rfl rfl Tryd.func22 (by kernel_rfl) rfl #[.slice A0 l0.length c0, .int .i64 x6_3] rfl (by (try simp only [List.map_toArray, List.map_cons, List.map_nil]); first | done | rfl | (simp only [List.length_drop, List.length_take]; rfl)) ?_; (with_reducible refine (tones_Figures.calls k3 _ _ l0 x6_3 t272 t273 t274 _ ?side1 ?side2 A20.out).mono ?_); (case side1 => repeat (first | exact (Kd.C_below HR0.out HB.out) | (with_reducible refine Kd.C_alloc ?_ _) | (with_reducible refine Kd.C_drewN ?_ _) | (with_reducible refine Kd.C_drew ?_))); (case side2 => exact HC0.out); rintro e w45 ⟨rfl, hb⟩; refine ⟨_, rfl, ?_⟩; have n0_ := Aside0.mk (Kd.R_below (by (with_reducible repeat (first | apply Kd.R_alloc | apply Kd.R_drewN | apply Kd.R_drew)); exact HO_4.out) hb); have n1_ := Aside0.mk (below_step (by repeat (first | (with_reducible first | exact HB.out | apply below_alloc | apply pw_below_drewN | apply below_drew1) | exact HB.out)) hb); clear HO_4; clear HB; have HO_4 := n0_; have HB := n1_; clear n0_ n1_; (try clear hb); (try clear hb2); (try clear hk); (try clear hi); obtain ⟨Ao46, co46, eo46⟩ := Kd.R_slice HO_4.out; subst eo46; have p275 : 0 ≤ ((ji22) : Int) := of_decide_eq_true (by first | (with_reducible assumption) | assumption); have q275 : (ji22) < (t267.length : Int) := of_decide_eq_true (by first | (with_reducible assumption) | assumption); obtain ⟨ad275, e275, hx275_0⟩ := Kd.at_int (Kd.R_reads' HO_4.out).2.2 (ji22) p275 q275; cases e275; replace p275 := eq_true p275; replace q275 := eq_true q275))
                                    go_ret
                                    exact ⟨by first | rfl | (simp [errW_none, errW_some] <;> rfl) | (simp only [← hji22]; first | rfl | (simp [errW_none, errW_some] <;> rfl)) | (simp [*, errW_none, errW_some] <;> rfl), by repeat (first | (with_reducible first | exact HB.out | apply below_alloc | apply pw_below_drewN | apply below_drew1) | exact HB.out)⟩
                                · rw [if_neg c41] at H
                                  have c41b0 : (t273 == 0) = false := beq_eq_false_iff_ne.mpr c41
                                  have c41b1 : (t273 != 0) = true := bne_iff_ne.mpr c41
                                  have H' := Aside0.mk H
                                  clear H
                                  go_wp2_with (first | ((with_reducible refine gate_callee (f := 22) rfl ?_); refine goesL_ (some 50) rfl rfl Tryd.func22 (by kernel_rfl) rfl #[.slice A0 l0.length c0, .int .i64 x6_3] rfl (by (try simp only [List.map_toArray, List.map_cons, List.map_nil]); first | done | rfl | (simp only [List.length_drop, List.length_take]; rfl)) ?_; (with_reducible refine (tones_Figures.calls k3 _ _ l0 x6_3 t272 t273 t274 _ ?side1 ?side2 A20.out).mono ?_); (case side1 => repeat (first | exact (Kd.C_below HR0.out HB.out) | (with_reducible refine Kd.C_alloc ?_ _) | (with_reducible refine Kd.C_drewN ?_ _) | (with_reducible refine Kd.C_drew ?_))); (case side2 => exact HC0.out); rintro e w47 ⟨rfl, hb⟩; refine ⟨_, rfl, ?_⟩; have n0_ := Aside0.mk (Kd.R_below (by (with_reducible repeat (first | apply Kd.R_alloc | apply Kd.R_drewN | apply Kd.R_drew)); exact HO_4.out) hb); have n1_ := Aside0.mk (below_step (by repeat (first | (with_reducible first | exact HB.out | apply below_alloc | apply pw_below_drewN | apply below_drew1) | exact HB.out)) hb); clear HO_4; clear HB; have HO_4 := n0_; have HB := n1_; clear n0_ n1_; (try clear hb); (try clear hb2); (try clear hk); (try clear hi); obtain ⟨Ao48, co48, eo48⟩ := Kd.R_slice HO_4.out; subst eo48; have p275 : 0 ≤ ((ji22) : Int) := of_decide_eq_true (by first | (with_reducible assumption) | assumption); have q275 : (ji22) < (t267.length : Int) := of_decide_eq_true (by first | (with_reducible assumption) | assumption); obtain ⟨ad275, e275, hx275_0⟩ := Kd.at_int (Kd.R_reads' HO_4.out).2.2 (ji22) p275 q275; cases e275; replace p275 := eq_true p275; replace q275 := eq_true q275))
                                  go_roundg k3
                                  case measure => have := HJ1.out; have := HJ9.out; have := HK3.out; omega
                                  case rel => exact ⟨(wrap64 (x6_3 + 1)), (by first | rfl | (simp; done) | (simp [*]; done)), H', ⟨by have := HJ1.out; have := HJ9.out; have := HK3.out; omega⟩, ⟨by (with_reducible repeat (first | apply Kd.R_alloc | apply Kd.R_drewN | apply Kd.R_drew)); exact HO_4.out⟩, ⟨by repeat (first | (with_reducible first | exact HB.out | apply below_alloc | apply pw_below_drewN | apply below_drew1) | exact HB.out)⟩⟩
                          · rw [if_neg c25] at H
                            have c25b0 : (t272 == (rd t267 (ji22))) = false := beq_eq_false_iff_ne.mpr c25
                            have c25b1 : (t272 != (rd t267 (ji22))) = true := bne_iff_ne.mpr c25
                            obtain rfl := Option.some.inj H
                            go_wp2_with (first | ((with_reducible refine gate_callee (f := 22) rfl ?_); refine goesL_ (some 50) rfl rfl Tryd.func22 (by kernel_rfl) rfl #[.slice A0 l0.length c0, .int .i64 x6_3] rfl (by (try simp only [List.map_toArray, List.map_cons, List.map_nil]); first | done | rfl | (simp only [List.length_drop, List.length_take]; rfl)) ?_; (with_reducible refine (tones_Figures.calls k3 _ _ l0 x6_3 t272 t273 t274 _ ?side1 ?side2 A20.out).mono ?_); (case side1 => repeat (first | exact (Kd.C_below HR0.out HB.out) | (with_reducible refine Kd.C_alloc ?_ _) | (with_reducible refine Kd.C_drewN ?_ _) | (with_reducible refine Kd.C_drew ?_))); (case side2 => exact HC0.out); rintro e w49 ⟨rfl, hb⟩; refine ⟨_, rfl, ?_⟩; have n0_ := Aside0.mk (Kd.R_below (by (with_reducible repeat (first | apply Kd.R_alloc | apply Kd.R_drewN | apply Kd.R_drew)); exact HO_4.out) hb); have n1_ := Aside0.mk (below_step (by repeat (first | (with_reducible first | exact HB.out | apply below_alloc | apply pw_below_drewN | apply below_drew1) | exact HB.out)) hb); clear HO_4; clear HB; have HO_4 := n0_; have HB := n1_; clear n0_ n1_; (try clear hb); (try clear hb2); (try clear hk); (try clear hi); obtain ⟨Ao50, co50, eo50⟩ := Kd.R_slice HO_4.out; subst eo50; have p275 : 0 ≤ ((ji22) : Int) := of_decide_eq_true (by first | (with_reducible assumption) | assumption); have q275 : (ji22) < (t267.length : Int) := of_decide_eq_true (by first | (with_reducible assumption) | assumption); obtain ⟨ad275, e275, hx275_0⟩ := Kd.at_int (Kd.R_reads' HO_4.out).2.2 (ji22) p275 q275; cases e275; replace p275 := eq_true p275; replace q275 := eq_true q275))
                            go_ret
                            exact ⟨by first | rfl | (simp [errW_none, errW_some] <;> rfl) | (simp only [← hji22]; first | rfl | (simp [errW_none, errW_some] <;> rfl)) | (simp [*, errW_none, errW_some] <;> rfl), by repeat (first | (with_reducible first | exact HB.out | apply below_alloc | apply pw_below_drewN | apply below_drew1) | exact HB.out)⟩
                        · rw [if_neg c24] at H
                          exact absurd H (by simp)
                      · rw [if_neg c23] at H
                        exact absurd H (by simp)
                    · rw [if_neg c21] at H
                      have c21b0 : (t274 == 0) = false := beq_eq_false_iff_ne.mpr c21
                      have c21b1 : (t274 != 0) = true := bne_iff_ne.mpr c21
                      obtain rfl := Option.some.inj H
                      go_wp2_with (first | ((with_reducible refine gate_callee (f := 22) rfl ?_); refine goesL_ (some 50) rfl rfl Tryd.func22 (by kernel_rfl) rfl #[.slice A0 l0.length c0, .int .i64 x6_3] rfl (by (try simp only [List.map_toArray, List.map_cons, List.map_nil]); first | done | rfl | (simp only [List.length_drop, List.length_take]; rfl)) ?_; (with_reducible refine (tones_Figures.calls k3 _ _ l0 x6_3 t272 t273 t274 _ ?side1 ?side2 A20.out).mono ?_); (case side1 => repeat (first | exact (Kd.C_below HR0.out HB.out) | (with_reducible refine Kd.C_alloc ?_ _) | (with_reducible refine Kd.C_drewN ?_ _) | (with_reducible refine Kd.C_drew ?_))); (case side2 => exact HC0.out); rintro e w51 ⟨rfl, hb⟩; refine ⟨_, rfl, ?_⟩; have n0_ := Aside0.mk (Kd.R_below (by (with_reducible repeat (first | apply Kd.R_alloc | apply Kd.R_drewN | apply Kd.R_drew)); exact HO_4.out) hb); have n1_ := Aside0.mk (below_step (by repeat (first | (with_reducible first | exact HB.out | apply below_alloc | apply pw_below_drewN | apply below_drew1) | exact HB.out)) hb); clear HO_4; clear HB; have HO_4 := n0_; have HB := n1_; clear n0_ n1_; (try clear hb); (try clear hb2); (try clear hk); (try clear hi)))
                      go_ret
                      exact ⟨by first | rfl | (simp [errW_none, errW_some] <;> rfl) | (simp [*, errW_none, errW_some] <;> rfl), by repeat (first | (with_reducible first | exact HB.out | apply below_alloc | apply pw_below_drewN | apply below_drew1) | exact HB.out)⟩
                  · rw [if_neg c19] at H
                    have c19b0 : decide (x6_3 ≤ (l0.length : Int)) = false := decide_eq_false c19
                    clear c19
                    replace H := Option.bind_eq_some_iff.mp H
                    obtain ⟨t276, A520, H⟩ := H
                    replace H : (some t276) = some r := H
                    have A52 := Aside0.mk A520
                    clear A520
                    obtain rfl := Option.some.inj H
                    go_wp2_with (first | ((with_reducible refine gate_callee (f := 17) rfl ?_); refine goesL_ (some 86) rfl rfl Tryd.func17 (by kernel_rfl) rfl #[] rfl (by (try simp only [List.map_toArray, List.map_cons, List.map_nil]); first | done | rfl | (simp only [List.length_drop, List.length_take]; rfl)) ?_; (with_reducible refine (clochelaw08_alive.calls  t276 _ A52.out).mono ?_); rintro e w53 ⟨rfl, hb⟩; refine ⟨_, rfl, ?_⟩; have n0_ := Aside0.mk (Kd.R_below (by (with_reducible repeat (first | apply Kd.R_alloc | apply Kd.R_drewN | apply Kd.R_drew)); exact HO_4.out) hb); have n1_ := Aside0.mk (below_step (by repeat (first | (with_reducible first | exact HB.out | apply below_alloc | apply pw_below_drewN | apply below_drew1) | exact HB.out)) hb); clear HO_4; clear HB; have HO_4 := n0_; have HB := n1_; clear n0_ n1_; (try clear hb); (try clear hb2); (try clear hk); (try clear hi)))
                    go_ret
                    exact ⟨by first | rfl | (simp [errW_none, errW_some] <;> rfl) | (simp [*, errW_none, errW_some] <;> rfl), by repeat (first | (with_reducible first | exact HB.out | apply below_alloc | apply pw_below_drewN | apply below_drew1) | exact HB.out)⟩

/-- THE ONE PURE STATEMENT of clochelaw08_TonesSachs: yours. -/
def clochelaw08_TonesSachs.Pure : Prop := ∀ (l0 : List Int), l0.length ≤ maxLen → l0.length * 8 ≤ 140737488351232 → (∀ x ∈ l0, (Lit.int .i64 x).wf = true) → ∃ k, clochelaw08_TonesSachs.f k l0 = some true
theorem clochelaw08_TonesSachs.walk (P : clochelaw08_TonesSachs.Pure) (a0 : Option Addr) (len0 cap0 : Nat) (z0 : List Int) (w : World) (w0 : (a0 = none ∧ len0 = 0 ∧ cap0 = 0 ∧ z0 = []) ∨ ∃ x, a0 = some x ∧ len0 ≤ cap0 ∧ cap0 ≤ maxLen ∧ z0.length = cap0 ∧ (∀ i, i < z0.length → w.cell? (x.add i) = some (.int .i64 (z0.getD i 0))) ∧ ∀ n ∈ z0, (Lit.int .i64 n).wf = true) (y0 : len0 * 8 ≤ 140737488351232) (hG : Hand.Glob w) :
    Calls Tryd.prog 4 #[.slice a0 len0 cap0] w fun e w' => e = .returned (.bool true) ∧ Below w.heap.size w w' := by
  obtain ⟨l0, rfl, hr0, hm0, hw0, hc0⟩ := ReadsInt.ofRowC w0
  obtain ⟨k, h⟩ := P l0 hm0 y0 hw0
  refine (clochelaw08_TonesSachs.calls k _ _ l0 true w (Kd.C_of_reads (d := (0 : Int)) (h1 := fun _ => rfl) hr0) hc0 h hG).mono ?_
  rintro e w' ⟨rfl, hd⟩
  exact ⟨rfl, hd⟩

/-! ### clocheref08_Polynomial: function 24 -/
def clocheref08_Polynomial.l0 : Nat → List Int → Int → Option (Int)
  | 0, _, _ => none
  | k + 1, x0, x3 => if x3 < (x0.length : Int) then (if 0 ≤ x3 then (if (rd x0 x3) < (-10000) then (some 2) else (if (rd x0 x3) > 10000 then (some 2) else (if x3 = (wrap64 ((x0.length : Int) - 1)) then (if (rd x0 x3) = 0 then (some 2) else (clocheref08_Polynomial.l0 k x0 (wrap64 (x3 + 1)))) else (clocheref08_Polynomial.l0 k x0 (wrap64 (x3 + 1)))))) else (none)) else (some 0)
def clocheref08_Polynomial.f (k : Nat) (l0 : List Int) : Option (Int) := if (l0.length : Int) > 8 then (some 3) else (clocheref08_Polynomial.l0 k l0 0)
theorem clocheref08_Polynomial.mono_l : ∀ k, (∀ y0 y1, LeO (clocheref08_Polynomial.l0 k y0 y1) (clocheref08_Polynomial.l0 (k + 1) y0 y1))
  | 0 => fun _ _ r h => by simp [clocheref08_Polynomial.l0] at h
  | k + 1 => by
    have ih0 := clocheref08_Polynomial.mono_l k
    · intro y0 y1
      unfold clocheref08_Polynomial.l0
      repeat' first
      | (with_reducible exact ih0 _ _)
      | (with_reducible exact LeO.refl _)
      | (with_reducible exact LeO.none _)
      | (with_reducible refine LeO.ite ?_ ?_)
      | (with_reducible refine LeO.bind ?_ (fun _ => ?_))
      | exact ih0 _ _
      | exact LeO.none _
      | refine LeO.ite ?_ ?_
      | refine LeO.bind ?_ (fun _ => ?_)
theorem clocheref08_Polynomial.mono : ∀ a0 k, LeO (clocheref08_Polynomial.f k a0) (clocheref08_Polynomial.f (k + 1) a0) := by
  intro a0 k
  have ih0 := clocheref08_Polynomial.mono_l k
  unfold clocheref08_Polynomial.f
  repeat' first
      | (with_reducible exact ih0 _ _)
      | (with_reducible exact LeO.refl _)
      | (with_reducible exact LeO.none _)
      | (with_reducible refine LeO.ite ?_ ?_)
      | (with_reducible refine LeO.bind ?_ (fun _ => ?_))
      | exact ih0 _ _
      | exact LeO.none _
      | refine LeO.ite ?_ ?_
      | refine LeO.bind ?_ (fun _ => ?_)
set_option maxHeartbeats 8000000 in
set_option maxRecDepth 100000 in
theorem clocheref08_Polynomial.calls (k : Nat) (A0 : Option Addr) (c0 : Nat) (l0 : List Int) (r : Int) (w : World) (hr0 : Kd.C (Kd.int .i64) w A0 l0.length l0) (hc0 : l0.length ≤ c0) (h : clocheref08_Polynomial.f k l0 = some r) :
    Calls Tryd.prog 24 #[.slice A0 l0.length c0] w fun e w' => e = .returned (.int .i64 r) ∧ Drawn0 w w' := by
  have HR0 := Aside0.mk hr0
  have HC0 := Aside0.mk hc0
  clear hr0 hc0
  have H : (if (l0.length : Int) > 8 then (some 3) else (clocheref08_Polynomial.l0 k l0 0)) = some r := h
  clear h
  by_cases c2 : (l0.length : Int) > 8
  · rw [if_pos c2] at H
    have c2b0 : decide (8 < (l0.length : Int)) = true := decide_eq_true c2
    have c2b1 : decide (8 < l0.length) = true := decide_eq_true (by omega)
    clear c2
    obtain rfl := Option.some.inj H
    go_enter Tryd.func24, Tryd.ntmps24
    go_wp2
    go_ret
    exact ⟨by first | rfl | (simp; done) | (simp [*]; done), by repeat (first | exact Drawn0.refl _ | apply Drawn0.step)⟩
  · rw [if_neg c2] at H
    have c2b0 : decide (8 < (l0.length : Int)) = false := decide_eq_false c2
    have c2b1 : decide (8 < l0.length) = false := decide_eq_false (by omega)
    clear c2
    have H' := Aside0.mk H
    clear H
    go_enter Tryd.func24, Tryd.ntmps24
    go_wp2
    go_loopg [3] k (fun kq v3 w' => ∃ (x3_1 : Int), v3 = .int .i64 x3_1 ∧ Aside0 (clocheref08_Polynomial.l0 kq l0 x3_1 = some r) ∧ Aside0 (kq ≤ k) ∧ Drawn0 w w')
    case atStart => exact ⟨(0), (by first | rfl | (simp; done) | (simp [*]; done)), H', ⟨Nat.le_refl _⟩, by repeat (first | exact Drawn0.refl _ | apply Drawn0.step)⟩
    case round =>
      clear H'
      try clear c2
      try clear c2b0
      try clear c2b1
      try clear p2
      obtain ⟨x3_1, rfl, HA, HK1, ⟨m1, rfl⟩⟩ := hrel
      cases gk with
      | zero => exact absurd HA.out (by simp [clocheref08_Polynomial.l0])
      | succ k1 =>
        have H := HA.out
        clear HA
        simp only [clocheref08_Polynomial.l0] at H
        by_cases c3 : x3_1 < (l0.length : Int)
        · rw [if_pos c3] at H
          have c3b0 : decide (x3_1 < (l0.length : Int)) = true := decide_eq_true c3
          clear c3
          by_cases c4 : 0 ≤ x3_1
          · rw [if_pos c4] at H
            have c4b0 : decide (0 ≤ x3_1) = true := decide_eq_true c4
            clear c4
            by_cases c5 : (rd l0 x3_1) < (-10000)
            · rw [if_pos c5] at H
              have c5b0 : decide ((rd l0 x3_1) < (-10000)) = true := decide_eq_true c5
              clear c5
              obtain rfl := Option.some.inj H
              have p277 : 0 ≤ (x3_1 : Int) := of_decide_eq_true (by first | (with_reducible assumption) | assumption)
              have q277 : x3_1 < (l0.length : Int) := of_decide_eq_true (by first | (with_reducible assumption) | assumption)
              obtain ⟨ad277, e277, hx277_0⟩ := Kd.at_int HR0.out x3_1 p277 q277
              cases e277
              replace p277 := eq_true p277
              replace q277 := eq_true q277
              go_wp2
              go_ret
              exact ⟨by first | rfl | (simp; done) | (simp [*]; done), by repeat (first | exact Drawn0.refl _ | apply Drawn0.step)⟩
            · rw [if_neg c5] at H
              have c5b0 : decide ((rd l0 x3_1) < (-10000)) = false := decide_eq_false c5
              clear c5
              by_cases c6 : (rd l0 x3_1) > 10000
              · rw [if_pos c6] at H
                have c6b0 : decide (10000 < (rd l0 x3_1)) = true := decide_eq_true c6
                clear c6
                obtain rfl := Option.some.inj H
                have p277 : 0 ≤ (x3_1 : Int) := of_decide_eq_true (by first | (with_reducible assumption) | assumption)
                have q277 : x3_1 < (l0.length : Int) := of_decide_eq_true (by first | (with_reducible assumption) | assumption)
                obtain ⟨ad277, e277, hx277_0⟩ := Kd.at_int HR0.out x3_1 p277 q277
                cases e277
                replace p277 := eq_true p277
                replace q277 := eq_true q277
                have p278 : 0 ≤ (x3_1 : Int) := of_decide_eq_true (by first | (with_reducible assumption) | assumption)
                have q278 : x3_1 < (l0.length : Int) := of_decide_eq_true (by first | (with_reducible assumption) | assumption)
                obtain ⟨ad278, e278, hx278_0⟩ := Kd.at_int HR0.out x3_1 p278 q278
                obtain rfl : ad277 = ad278 := (by injection e278)
                replace p278 := eq_true p278
                replace q278 := eq_true q278
                go_wp2
                go_ret
                exact ⟨by first | rfl | (simp; done) | (simp [*]; done), by repeat (first | exact Drawn0.refl _ | apply Drawn0.step)⟩
              · rw [if_neg c6] at H
                have c6b0 : decide (10000 < (rd l0 x3_1)) = false := decide_eq_false c6
                clear c6
                by_cases c7 : x3_1 = (wrap64 ((l0.length : Int) - 1))
                · rw [if_pos c7] at H
                  have c7b0 : (x3_1 == (wrap64 ((l0.length : Int) - 1))) = true := beq_iff_eq.mpr c7
                  have c7b1 : (x3_1 != (wrap64 ((l0.length : Int) - 1))) = false := bne_eq_false_iff_eq.mpr c7
                  clear c7
                  by_cases c8 : (rd l0 x3_1) = 0
                  · rw [if_pos c8] at H
                    have c8b0 : ((rd l0 x3_1) == 0) = true := beq_iff_eq.mpr c8
                    have c8b1 : ((rd l0 x3_1) != 0) = false := bne_eq_false_iff_eq.mpr c8
                    clear c8
                    obtain rfl := Option.some.inj H
                    have p277 : 0 ≤ (x3_1 : Int) := of_decide_eq_true (by first | (with_reducible assumption) | assumption)
                    have q277 : x3_1 < (l0.length : Int) := of_decide_eq_true (by first | (with_reducible assumption) | assumption)
                    obtain ⟨ad277, e277, hx277_0⟩ := Kd.at_int HR0.out x3_1 p277 q277
                    cases e277
                    replace p277 := eq_true p277
                    replace q277 := eq_true q277
                    have p278 : 0 ≤ (x3_1 : Int) := of_decide_eq_true (by first | (with_reducible assumption) | assumption)
                    have q278 : x3_1 < (l0.length : Int) := of_decide_eq_true (by first | (with_reducible assumption) | assumption)
                    obtain ⟨ad278, e278, hx278_0⟩ := Kd.at_int HR0.out x3_1 p278 q278
                    obtain rfl : ad277 = ad278 := (by injection e278)
                    replace p278 := eq_true p278
                    replace q278 := eq_true q278
                    have p279 : 0 ≤ (x3_1 : Int) := of_decide_eq_true (by first | (with_reducible assumption) | assumption)
                    have q279 : x3_1 < (l0.length : Int) := of_decide_eq_true (by first | (with_reducible assumption) | assumption)
                    obtain ⟨ad279, e279, hx279_0⟩ := Kd.at_int HR0.out x3_1 p279 q279
                    obtain rfl : ad277 = ad279 := (by injection e279)
                    replace p279 := eq_true p279
                    replace q279 := eq_true q279
                    go_wp2
                    go_ret
                    exact ⟨by first | rfl | (simp; done) | (simp [*]; done), by repeat (first | exact Drawn0.refl _ | apply Drawn0.step)⟩
                  · rw [if_neg c8] at H
                    have c8b0 : ((rd l0 x3_1) == 0) = false := beq_eq_false_iff_ne.mpr c8
                    have c8b1 : ((rd l0 x3_1) != 0) = true := bne_iff_ne.mpr c8
                    have H' := Aside0.mk H
                    clear H
                    have p277 : 0 ≤ (x3_1 : Int) := of_decide_eq_true (by first | (with_reducible assumption) | assumption)
                    have q277 : x3_1 < (l0.length : Int) := of_decide_eq_true (by first | (with_reducible assumption) | assumption)
                    obtain ⟨ad277, e277, hx277_0⟩ := Kd.at_int HR0.out x3_1 p277 q277
                    cases e277
                    replace p277 := eq_true p277
                    replace q277 := eq_true q277
                    have p278 : 0 ≤ (x3_1 : Int) := of_decide_eq_true (by first | (with_reducible assumption) | assumption)
                    have q278 : x3_1 < (l0.length : Int) := of_decide_eq_true (by first | (with_reducible assumption) | assumption)
                    obtain ⟨ad278, e278, hx278_0⟩ := Kd.at_int HR0.out x3_1 p278 q278
                    obtain rfl : ad277 = ad278 := (by injection e278)
                    replace p278 := eq_true p278
                    replace q278 := eq_true q278
                    have p279 : 0 ≤ (x3_1 : Int) := of_decide_eq_true (by first | (with_reducible assumption) | assumption)
                    have q279 : x3_1 < (l0.length : Int) := of_decide_eq_true (by first | (with_reducible assumption) | assumption)
                    obtain ⟨ad279, e279, hx279_0⟩ := Kd.at_int HR0.out x3_1 p279 q279
                    obtain rfl : ad277 = ad279 := (by injection e279)
                    replace p279 := eq_true p279
                    replace q279 := eq_true q279
                    go_wp2
                    go_roundg k1
                    case measure => have := HK1.out; omega
                    case rel => exact ⟨(wrap64 (x3_1 + 1)), (by first | rfl | (simp; done) | (simp [*]; done)), H', ⟨by have := HK1.out; omega⟩, by repeat (first | exact Drawn0.refl _ | apply Drawn0.step)⟩
                · rw [if_neg c7] at H
                  have c7b0 : (x3_1 == (wrap64 ((l0.length : Int) - 1))) = false := beq_eq_false_iff_ne.mpr c7
                  have c7b1 : (x3_1 != (wrap64 ((l0.length : Int) - 1))) = true := bne_iff_ne.mpr c7
                  have H' := Aside0.mk H
                  clear H
                  have p277 : 0 ≤ (x3_1 : Int) := of_decide_eq_true (by first | (with_reducible assumption) | assumption)
                  have q277 : x3_1 < (l0.length : Int) := of_decide_eq_true (by first | (with_reducible assumption) | assumption)
                  obtain ⟨ad277, e277, hx277_0⟩ := Kd.at_int HR0.out x3_1 p277 q277
                  cases e277
                  replace p277 := eq_true p277
                  replace q277 := eq_true q277
                  have p278 : 0 ≤ (x3_1 : Int) := of_decide_eq_true (by first | (with_reducible assumption) | assumption)
                  have q278 : x3_1 < (l0.length : Int) := of_decide_eq_true (by first | (with_reducible assumption) | assumption)
                  obtain ⟨ad278, e278, hx278_0⟩ := Kd.at_int HR0.out x3_1 p278 q278
                  obtain rfl : ad277 = ad278 := (by injection e278)
                  replace p278 := eq_true p278
                  replace q278 := eq_true q278
                  go_wp2
                  go_roundg k1
                  case measure => have := HK1.out; omega
                  case rel => exact ⟨(wrap64 (x3_1 + 1)), (by first | rfl | (simp; done) | (simp [*]; done)), H', ⟨by have := HK1.out; omega⟩, by repeat (first | exact Drawn0.refl _ | apply Drawn0.step)⟩
          · rw [if_neg c4] at H
            exact absurd H (by simp)
        · rw [if_neg c3] at H
          have c3b0 : decide (x3_1 < (l0.length : Int)) = false := decide_eq_false c3
          clear c3
          obtain rfl := Option.some.inj H
          go_wp2
          go_ret
          exact ⟨by first | rfl | (simp; done) | (simp [*]; done), by repeat (first | exact Drawn0.refl _ | apply Drawn0.step)⟩

end Go.Proofs.YtglalkenkmijkaaDoor.PAll
/- Formal sums: terms of a mask of wires, a number of knots and a weight; their values; when two of them agree. No program in sight. -/
namespace Go.Proofs.YtglalkenkmijkaaDoor.Enum

/-- A mask of wires, how many knots, a weight. -/
abbrev Term := Nat × Nat × Int
/-- The sum of the weights of the terms with k knots whose mask is told. -/
def ev (φ : Nat → Bool) (k : Nat) : List Term → Int
  | [] => 0
  | t :: E => (if φ t.1 = true ∧ t.2.1 = k then t.2.2 else 0) + ev φ k E
/-- Each term times a term. -/
def mulT (e c : Nat) (g : Int) (E : List Term) : List Term := E.map fun t => (t.1 ||| e, t.2.1 + c, g * t.2.2)

/-- Masks are told wire by wire. -/
structure Mult (φ : Nat → Bool) : Prop where
  zero : φ 0 = true
  or : ∀ a b, φ (a ||| b) = (φ a && φ b)

theorem ev_nil (φ : Nat → Bool) (k : Nat) : ev φ k [] = 0 := rfl
theorem ev_append (φ : Nat → Bool) (k : Nat) : ∀ E F : List Term, ev φ k (E ++ F) = ev φ k E + ev φ k F
  | [], F => by simp [ev]
  | t :: E, F => by rw [List.cons_append, ev, ev, ev_append φ k E F]; omega
theorem ev_mul_off {φ : Nat → Bool} (hφ : Mult φ) (e c : Nat) (g : Int) (he : φ e = false) (k : Nat) : ∀ E, ev φ k (mulT e c g E) = 0
  | [] => rfl
  | t :: E => by
    have := ev_mul_off hφ e c g he k E
    unfold mulT at this ⊢
    rw [List.map_cons, ev, this]
    simp [hφ.or, he]
theorem ev_mul_low {φ : Nat → Bool} (e c : Nat) (g : Int) (k : Nat) (hk : k < c) : ∀ E, ev φ k (mulT e c g E) = 0
  | [] => rfl
  | t :: E => by
    have := ev_mul_low (φ := φ) e c g k hk E
    unfold mulT at this ⊢
    rw [List.map_cons, ev, this, if_neg (by simp; omega)]
    rfl
theorem ev_mul_on {φ : Nat → Bool} (hφ : Mult φ) (e c : Nat) (g : Int) (he : φ e = true) (k : Nat) : ∀ E, ev φ (k + c) (mulT e c g E) = g * ev φ k E
  | [] => by simp [mulT, ev]
  | t :: E => by
    have := ev_mul_on hφ e c g he k E
    unfold mulT at this ⊢
    rw [List.map_cons, ev, ev, this, Int.mul_add]
    simp only [hφ.or, he, Bool.and_true, Nat.add_right_cancel_iff]
    split <;> simp

/-! ### Two sums agree -/
def key (t : Term) : Nat × Int := (t.1 * 16 + t.2.1, t.2.2)
def evK (ψ : Nat → Int) : List (Nat × Int) → Int
  | [] => 0
  | t :: E => ψ t.1 * t.2 + evK ψ E
theorem evK_append (ψ : Nat → Int) : ∀ E F : List (Nat × Int), evK ψ (E ++ F) = evK ψ E + evK ψ F
  | [], F => by simp [evK]
  | t :: E, F => by rw [List.cons_append, evK, evK, evK_append ψ E F]; omega
def mg : Nat → List (Nat × Int) → List (Nat × Int) → List (Nat × Int)
  | 0, a, b => a ++ b
  | _ + 1, [], b => b
  | _ + 1, s :: a, [] => s :: a
  | f + 1, s :: a, t :: b => if s.1 < t.1 then s :: mg f a (t :: b) else if t.1 < s.1 then t :: mg f (s :: a) b else if s.2 + t.2 = 0 then mg f a b else (s.1, s.2 + t.2) :: mg f a b
theorem evK_mg (ψ : Nat → Int) : ∀ (f : Nat) (a b : List (Nat × Int)), evK ψ (mg f a b) = evK ψ a + evK ψ b
  | 0, a, b => evK_append ψ a b
  | _ + 1, [], b => by simp [mg, evK]
  | _ + 1, s :: a, [] => by simp [mg, evK]
  | f + 1, s :: a, t :: b => by
    unfold mg
    split
    · simp only [evK, evK_mg ψ f]; omega
    · split
      · simp only [evK, evK_mg ψ f]; omega
      · have hst : t.1 = s.1 := by omega
        split
        · next h0 =>
          simp only [evK, evK_mg ψ f, hst]
          have h1 : ψ s.1 * s.2 + ψ s.1 * t.2 = 0 := by rw [← Int.mul_add, h0, Int.mul_zero]
          omega
        · simp only [evK, evK_mg ψ f, hst, Int.mul_add]
          omega
def ms : Nat → List (Nat × Int) → List (Nat × Int)
  | 0, l => l
  | _ + 1, [] => []
  | _ + 1, [t] => [t]
  | f + 1, s :: t :: l => mg (l.length + 2) (ms f ((s :: t :: l).take ((l.length + 2) / 2))) (ms f ((s :: t :: l).drop ((l.length + 2) / 2)))
theorem evK_ms (ψ : Nat → Int) : ∀ (f : Nat) (l : List (Nat × Int)), evK ψ (ms f l) = evK ψ l
  | 0, l => rfl
  | _ + 1, [] => rfl
  | _ + 1, [t] => rfl
  | f + 1, s :: t :: l => by
    rw [ms, evK_mg, evK_ms ψ f, evK_ms ψ f, ← evK_append, List.take_append_drop]
theorem ev_key (φ : Nat → Bool) (k : Nat) (hk : k < 16) : ∀ E : List Term, (∀ t, t ∈ E → t.2.1 < 16) → ev φ k E = evK (fun x => if φ (x / 16) = true ∧ x % 16 = k then 1 else 0) (E.map key)
  | [], _ => rfl
  | t :: E, h => by
    have ht := h t List.mem_cons_self
    rw [ev, List.map_cons, evK, ev_key φ k hk E (fun u hu => h u (List.mem_cons_of_mem _ hu))]
    have e1 : (key t).1 / 16 = t.1 := by show (t.1 * 16 + t.2.1) / 16 = t.1; omega
    have e2 : (key t).1 % 16 = t.2.1 := by show (t.1 * 16 + t.2.1) % 16 = t.2.1; omega
    rw [e1, e2]
    congr 1
    split <;> simp [key]
def small (E : List Term) : Bool := E.all fun t => decide (t.2.1 < 16)
def agree (E F : List Term) : Bool := small E && small F && decide (ms 20 (E.map key) = ms 20 (F.map key))
theorem ev_agree {E F : List Term} (h : agree E F = true) (φ : Nat → Bool) (k : Nat) (hk : k < 16) : ev φ k E = ev φ k F := by
  unfold agree small at h
  simp only [Bool.and_eq_true, List.all_eq_true, decide_eq_true_eq] at h
  obtain ⟨⟨h1, h2⟩, h3⟩ := h
  rw [ev_key φ k hk E h1, ev_key φ k hk F h2, ← evK_ms _ 20, h3, evK_ms]
/-- The sum of all weights without their signs. -/
def mass : List Term → Nat
  | [] => 0
  | t :: E => t.2.2.natAbs + mass E
theorem ev_mass (φ : Nat → Bool) (k : Nat) : ∀ E, (ev φ k E).natAbs ≤ mass E
  | [] => by simp [ev, mass]
  | t :: E => by
    have := ev_mass φ k E
    rw [ev, mass]
    split <;> omega
end Go.Proofs.YtglalkenkmijkaaDoor.Enum
/- Sets below 128, wires and rings of the complete frame; the sums over all figures, as formal sums. -/
namespace Go.Proofs.YtglalkenkmijkaaDoor.Enum

/-- The wire between two knots. -/
def eb (i j : Nat) : Nat := 2 ^ (min i j * 7 + max i j)
def lowest : Nat → Nat → Nat
  | 0, _ => 0
  | f + 1, s => if s % 2 = 1 then 0 else lowest f (s / 2) + 1
def popN : Nat → Nat → Nat
  | 0, _ => 0
  | f + 1, s => s % 2 + popN f (s / 2)
/-- a less b. -/
def sd (a b : Nat) : Nat := a &&& (127 ^^^ b)
def clr (s k : Nat) : Nat := sd s (2 ^ k)
/-- Rings through knot i, the others in r: the wires, the others. -/
def RP (n i r : Nat) : Nat → Nat → Nat → Nat → List (Nat × Nat)
  | 0, _, _, _ => []
  | f + 1, at_, second, met => (List.range n).flatMap fun k => if (sd r met).testBit k then
      (if met ≠ 0 ∧ second < k then [(eb k i ||| eb at_ k, met ||| 2 ^ k)] else []) ++ (RP n i r f k (if met = 0 then k else second) (met ||| 2 ^ k)).map fun p => (p.1 ||| eb at_ k, p.2)
      else []
/-- All figures on the knots of s: a wire counts cw, a ring cr. -/
def EO (cw cr : Int) (n : Nat) : Nat → Nat → List Term
  | 0, _ => []
  | f + 1, s => if s = 0 then [(0, 0, 1)] else
    EO cw cr n f (clr s (lowest 7 s)) ++ ((List.range n).flatMap fun k => if (clr s (lowest 7 s)).testBit k then mulT (eb (lowest 7 s) k) 2 cw (EO cw cr n f (clr (clr s (lowest 7 s)) k)) else [])
      ++ (RP n (lowest 7 s) (clr s (lowest 7 s)) 7 (lowest 7 s) 0 0).flatMap fun p => mulT p.1 (popN 7 p.2 + 1) cr (EO cw cr n f (sd (clr s (lowest 7 s)) p.2))

theorem testBit_lt {s k : Nat} (hs : s < 128) (h : s.testBit k = true) : k < 7 := by
  rcases Nat.lt_or_ge k 7 with h1 | h1
  · exact h1
  · rw [Nat.testBit_lt_two_pow (Nat.lt_of_lt_of_le hs (show 2 ^ 7 ≤ 2 ^ k from Nat.pow_le_pow_right (by decide) h1))] at h
    cases h
theorem testBit_127 {k : Nat} (hk : k < 7) : (127 : Nat).testBit k = true := by
  revert k; decide
theorem sd_lt {a b : Nat} (ha : a < 128) : sd a b < 128 := by
  unfold sd
  exact Nat.lt_of_le_of_lt Nat.and_le_left ha
theorem testBit_sd {a b k : Nat} (ha : a < 128) : (sd a b).testBit k = (a.testBit k && !b.testBit k) := by
  unfold sd
  rw [Nat.testBit_and, Nat.testBit_xor]
  cases h : a.testBit k with
  | false => simp
  | true => rw [testBit_127 (testBit_lt ha h)]; simp
theorem clr_lt {s k : Nat} (hs : s < 128) : clr s k < 128 := sd_lt hs
theorem sd_zero {a : Nat} (ha : a < 128) : sd a 0 = a := by
  apply Nat.eq_of_testBit_eq
  intro k
  rw [testBit_sd ha]
  simp
theorem sd_or {r met k : Nat} (hr : r < 128) : sd r (met ||| 2 ^ k) = clr (sd r met) k := by
  apply Nat.eq_of_testBit_eq
  intro t
  unfold clr
  rw [testBit_sd hr, testBit_sd (sd_lt hr), testBit_sd hr, Nat.testBit_or]
  cases r.testBit t <;> cases met.testBit t <;> simp
theorem or_lt {met k : Nat} (hm : met < 128) (hk : k < 7) : met ||| 2 ^ k < 128 :=
  Nat.or_lt_two_pow (n := 7) hm (show 2 ^ k < 2 ^ 7 from Nat.pow_lt_pow_right (by decide) hk)
theorem pop_clr : ∀ s, s < 128 → ∀ k, k < 7 → s.testBit k = true → popN 7 (clr s k) + 1 = popN 7 s := by decide +kernel
theorem low_bit : ∀ s, s < 128 → s ≠ 0 → lowest 7 s < 7 ∧ s.testBit (lowest 7 s) = true := by decide +kernel
theorem pop_zero : ∀ s, s < 128 → popN 7 s = 0 → s = 0 := by decide +kernel
theorem pop_le : ∀ s, s < 128 → popN 7 s ≤ 7 := by decide +kernel
/-- Every ring's knots are of r. -/
theorem sd_sub {r met k : Nat} (hr : r < 128) (h : (sd r met).testBit k = true) : r.testBit k = true ∧ met.testBit k = false := by
  rw [testBit_sd hr] at h
  simpa using h

/-- A frame's wires. -/
structure Wired (n : Nat) (adj : Nat → Nat → Bool) : Prop where
  sym : ∀ i j, i < n → j < n → adj i j = adj j i
/-- Which masks have all their wires in the frame. -/
def has (adj : Nat → Nat → Bool) (mask : Nat) : Bool := (List.range 7).all fun i => (List.range 7).all fun j => !mask.testBit (i * 7 + j) || adj i j
theorem has_iff {adj : Nat → Nat → Bool} {mask : Nat} : has adj mask = true ↔ ∀ i, i < 7 → ∀ j, j < 7 → mask.testBit (i * 7 + j) = true → adj i j = true := by
  unfold has
  simp only [List.all_eq_true, List.mem_range, Bool.or_eq_true, Bool.not_eq_true']
  constructor
  · intro h i hi j hj hm
    rcases h i hi j hj with h | h
    · rw [h] at hm; cases hm
    · exact h
  · intro h i hi j hj
    cases hm : mask.testBit (i * 7 + j) with
    | false => exact .inl rfl
    | true => exact .inr (h i hi j hj hm)
theorem has_mult (adj : Nat → Nat → Bool) : Mult (has adj) where
  zero := has_iff.2 (fun i _ j _ h => by simp at h)
  or := fun a b => by
    rw [Bool.eq_iff_iff, Bool.and_eq_true, has_iff, has_iff, has_iff]
    constructor
    · exact fun h => ⟨fun i hi j hj hm => h i hi j hj (by rw [Nat.testBit_or, hm]; rfl), fun i hi j hj hm => h i hi j hj (by rw [Nat.testBit_or, hm, Bool.or_true])⟩
    · intro h i hi j hj hm
      rw [Nat.testBit_or, Bool.or_eq_true] at hm
      rcases hm with hm | hm
      · exact h.1 i hi j hj hm
      · exact h.2 i hi j hj hm
theorem has_eb {n : Nat} {adj : Nat → Nat → Bool} (hA : Wired n adj) (hn : n ≤ 7) {i j : Nat} (hi : i < n) (hj : j < n) : has adj (eb i j) = adj i j := by
  have key : ∀ a b, a < n → b < n → has adj (2 ^ (a * 7 + b)) = adj a b := by
    intro a b ha hb
    rw [Bool.eq_iff_iff, has_iff]
    constructor
    · exact fun h => h a (by omega) b (by omega) Nat.testBit_two_pow_self
    · intro h i hi j hj hm
      rw [Nat.testBit_two_pow] at hm
      have hm := of_decide_eq_true hm
      have h1 : a = i := by omega
      have h2 : b = j := by omega
      rw [← h1, ← h2]
      exact h
  unfold eb
  rcases Nat.le_total i j with h | h
  · rw [Nat.min_eq_left h, Nat.max_eq_right h, key i j hi hj]
  · rw [Nat.min_eq_right h, Nat.max_eq_left h, key j i hj hi, hA.sym i j hi hj]
end Go.Proofs.YtglalkenkmijkaaDoor.Enum
/- The sums over figures that 'over' makes, number by number; the sets as numbers without a sign. -/
namespace Go.Proofs.YtglalkenkmijkaaDoor.Hand
open Go.RowKit Enum Go.Proofs.YtglalkenkmijkaaDoorW.PrintWords Go.Proofs.YtglalkenkmijkaaDoorW.PrintLast Go.Proofs.YtglalkenkmijkaaDoorW.PrintMore
set_option linter.unusedVariables false
set_option linter.unusedSimpArgs false

def cof (l : List Int) (k : Nat) : Int := l.getD k 0
theorem rd_cof (l : List Int) (k : Nat) : rd l (k : Int) = cof l k := by unfold rd cof; rw [Int.toNat_natCast]
theorem cof_big {l : List Int} {k : Nat} (h : l.length ≤ k) : cof l k = 0 := by
  unfold cof
  rw [List.getD_eq_getElem?_getD, List.getElem?_eq_none h]; rfl
theorem cof_padTo (i : Nat) (out : List Int) (k : Nat) : cof (padTo i out) k = cof out k := by
  unfold cof padTo
  rw [List.getD_eq_getElem?_getD, List.getD_eq_getElem?_getD, List.getElem?_append]
  split
  · rfl
  · rename_i h
    rw [List.getElem?_eq_none (by omega : out.length ≤ k), List.getElem?_replicate]
    split <;> rfl
theorem cof_addAt (i : Nat) (x : Int) (out : List Int) (k : Nat) : cof (addAt i x out) k = if k = i then wrap64 (cof out i + x) else cof out k := by
  have hl := padTo_length i out
  have h1 : rd (padTo i out) i = cof out i := by rw [rd_cof, cof_padTo]
  unfold addAt
  rw [h1]
  by_cases h : k = i
  · subst h
    rw [if_pos rfl]
    unfold cof
    rw [List.getD_eq_getElem?_getD, List.getElem?_set_self (by omega)]
    rfl
  · rw [if_neg h]
    unfold cof
    rw [List.getD_eq_getElem?_getD, List.getElem?_set_ne (Ne.symm h), ← List.getD_eq_getElem?_getD]
    exact cof_padTo i out k
theorem cof_moreTo (g : Int → Int) (kn : Nat) (l out : List Int) (k : Nat) : ∀ j, cof (moreTo g kn l out j) k = if kn ≤ k ∧ k - kn < j then wrap64 (cof out k + g (cof l (k - kn))) else cof out k
  | 0 => by rw [if_neg (by omega)]; rfl
  | j + 1 => by
    have hi := cof_moreTo g kn l out k j
    have hj := cof_moreTo g kn l out (j + kn) j
    rw [moreTo, cof_addAt, rd_cof]
    by_cases h : k = j + kn
    · subst h
      rw [if_pos rfl, hj, if_neg (by omega), if_pos (by omega), Nat.add_sub_cancel]
    · rw [if_neg h, hi]
      by_cases h1 : kn ≤ k ∧ k - kn < j
      · rw [if_pos h1, if_pos (by omega)]
      · rw [if_neg h1, if_neg (by omega)]
theorem moreL_length (g : Int → Int) (kn : Nat) (l out : List Int) : (moreL g kn l out).length ≤ max out.length (l.length + kn) :=
  moreTo_length_le g kn l out _ (by omega) _ (by omega)
theorem wrap_add (a b : Int) : wrap64 (wrap64 a + wrap64 b) = wrap64 (a + b) := by unfold wrap64; omega
theorem wrap_wrap (a : Int) : wrap64 (wrap64 a) = wrap64 a := by unfold wrap64; omega
theorem wrap_off {a b : Int} (h : wrap64 b = 0) : wrap64 (a + b) = wrap64 a := by unfold wrap64 at *; omega
theorem wrap_zero : wrap64 0 = 0 := by unfold wrap64; rfl
/-- What a part counts: so many times. -/
def Lin (g : Int → Int) (c : Int) : Prop := ∀ x, g (wrap64 x) = wrap64 (c * x)
theorem lin_neg : Lin gneg (-1) := fun x => by unfold gneg wrap64; omega
theorem lin_neg2 : Lin gneg2 (-2) := fun x => by unfold gneg2 wrap64; omega
theorem lin_id : Lin gid 1 := fun x => by unfold gid; rw [Int.one_mul]
theorem lin_zero : Lin gzero 0 := fun x => by unfold gzero; rw [Int.zero_mul, wrap_zero]
theorem more_ev {g : Int → Int} {c : Int} (hg : Lin g c) {kn : Nat} {l out : List Int} {e1 e2 : Nat → Int} (hl : ∀ k, cof l k = wrap64 (e1 k)) (ho : ∀ k, cof out k = wrap64 (e2 k)) (k : Nat) :
    cof (moreL g kn l out) k = wrap64 (e2 k + if kn ≤ k then c * e1 (k - kn) else 0) := by
  unfold moreL
  rw [cof_moreTo]
  by_cases h : kn ≤ k
  · rw [if_pos h]
    by_cases h1 : k - kn < l.length
    · rw [if_pos ⟨h, h1⟩, ho, hl, hg, wrap_add]
    · rw [if_neg (by omega), ho]
      have h2 : wrap64 (e1 (k - kn)) = 0 := by rw [← hl, cof_big (by omega)]
      have h3 : wrap64 (c * e1 (k - kn)) = 0 := by
        rw [← hg, h2]
        have := hg 0
        rw [wrap_zero, Int.mul_zero, wrap_zero] at this
        exact this
      rw [wrap_off h3]
  · rw [if_neg (by omega), if_neg h, ho, Int.add_zero]

/-! The sets. -/
theorem sub1_nat : ∀ s, s < 128 → ∀ k, k < 7 → sub1 ((s : Nat) : Int) ((k : Nat) : Int) = ((clr s k : Nat) : Int) := by decide +kernel
theorem ctz_nat : ∀ s, s < 128 → s ≠ 0 → ctz ((s : Nat) : Int) = ((lowest 7 s : Nat) : Int) := by decide +kernel
theorem tst_nat : ∀ s, s < 128 → ∀ k, k < 7 → tst ((s : Nat) : Int) ((k : Nat) : Int) = s.testBit k := by decide +kernel
theorem tst0_nat : ∀ s, s < 128 → ∀ k, k < 7 → (Go.bits .and .i64 (((s : Nat) : Int) / 2 ^ k) 1 = 0 ↔ s.testBit k = false) := by decide +kernel
theorem pop_nat : ∀ s, s < 128 → pop ((s : Nat) : Int) = ((popN 7 s : Nat) : Int) := by decide +kernel
theorem wrap_small (n : Int) (h0 : 0 ≤ n) (h1 : n < 2 ^ 7) : IntKind.i64.wrap n = n := by rw [IntKind.wrap_i64]; omega
theorem and_nat (a b : Nat) (ha : a < 128) (hb : b < 128) : Go.bits .and .i64 (a : Int) (b : Int) = ((a &&& b : Nat) : Int) := (bits_nat .i64 7 (by decide) wrap_small a b ha hb).1
theorem or_nat (a b : Nat) (ha : a < 128) (hb : b < 128) : Go.bits .or .i64 (a : Int) (b : Int) = ((a ||| b : Nat) : Int) := (bits_nat .i64 7 (by decide) wrap_small a b ha hb).2
theorem andNot_nat : ∀ a, a < 128 → ∀ b, b < 128 → Go.bits .andNot .i64 ((a : Nat) : Int) ((b : Nat) : Int) = ((sd a b : Nat) : Int) := by decide +kernel
theorem okS_nat {s : Nat} (h : s < 128) : okS ((s : Nat) : Int) = true := by unfold okS; exact decide_eq_true (by omega)
end Go.Proofs.YtglalkenkmijkaaDoor.Hand
/- 'over' adds up all figures: its numbers are the formal sum's. -/
namespace Go.Proofs.YtglalkenkmijkaaDoor.Hand
open Go.RowKit Enum Go.Proofs.YtglalkenkmijkaaDoorW.PrintWords Go.Proofs.YtglalkenkmijkaaDoorW.PrintLast Go.Proofs.YtglalkenkmijkaaDoorW.PrintMore
set_option linter.unusedVariables false
set_option linter.unusedSimpArgs false

def adjF (f : List Int) (i k : Nat) : Bool := (rd f (i : Int)).toNat.testBit k
structure Fr (f : List Int) (n : Nat) : Prop where
  len : f.length = n
  le : n ≤ 7
  low : ∀ i : Nat, 0 ≤ rd f i ∧ rd f i < 128
  wired : Wired n (adjF f)
theorem Fr.nat {f : List Int} {n : Nat} (h : Fr f n) (i : Nat) : ∃ a : Nat, a < 128 ∧ rd f (i : Int) = (a : Int) ∧ ∀ k, a.testBit k = adjF f i k := by
  obtain ⟨h0, h1⟩ := h.low i
  obtain ⟨a, ha⟩ := Int.eq_ofNat_of_zero_le h0
  exact ⟨a, by omega, ha, fun k => by unfold adjF; rw [ha, Int.toNat_natCast]⟩

theorem pop_or : ∀ s, s < 128 → ∀ k, k < 7 → s.testBit k = false → popN 7 (s ||| 2 ^ k) = popN 7 s + 1 := by decide +kernel
theorem or2_nat : ∀ s, s < 128 → ∀ k, k < 7 → Go.bits .or .i64 ((s : Nat) : Int) (2 ^ k) = ((s ||| 2 ^ k : Nat) : Int) := by decide +kernel
theorem ev_mul {φ : Nat → Bool} (hφ : Mult φ) (e c : Nat) (g : Int) (k : Nat) (E : List Term) : ev φ k (mulT e c g E) = if φ e = true then (if c ≤ k then g * ev φ (k - c) E else 0) else 0 := by
  by_cases he : φ e = true
  · rw [if_pos he]
    by_cases hc : c ≤ k
    · rw [if_pos hc]
      have := ev_mul_on hφ e c g he (k - c) E
      rwa [Nat.sub_add_cancel hc] at this
    · rw [if_neg hc]
      exact ev_mul_low e c g k (by omega) E
  · rw [if_neg he]
    exact ev_mul_off hφ e c g (by simpa using he) k E
theorem ev_mul_or {φ : Nat → Bool} (hφ : Mult φ) (a e c : Nat) (g : Int) (k : Nat) (E : List Term) : ev φ k (mulT (a ||| e) c g E) = if φ e = true then ev φ k (mulT a c g E) else 0 := by
  rw [ev_mul hφ, ev_mul hφ, hφ.or]
  cases φ e <;> cases φ a <;> simp

section
variable {f : List Int} {n : Nat} (hF : Fr f n) {gw gr : Int → Int} {cw cr : Int} (hw : Lin gw cw) (hr : Lin gr cr)

/-- 'over' on sets of p knots. -/
def Over (f : List Int) (n : Nat) (gw gr : Int → Int) (cw cr : Int) (p : Nat) : Prop := ∀ F, p + 1 ≤ F → ∀ s : Nat, s < 128 → (∀ k, s.testBit k = true → k < n) → popN 7 s = p → ∀ m, 100 * p + 1 ≤ m →
  ∃ out, overF f gw gr m (s : Int) = some out ∧ out.length ≤ p + 1 ∧ ∀ k, cof out k = wrap64 (ev (has (adjF f)) k (EO cw cr n F s))

/-- The rings' figures. -/
def RL (cw cr : Int) (n F r : Nat) (L : List (Nat × Nat)) : List Term := L.flatMap fun p => mulT p.1 (popN 7 p.2 + 1) cr (EO cw cr n F (sd r p.2))
theorem RL_append (F r : Nat) (L M : List (Nat × Nat)) : RL cw cr n F r (L ++ M) = RL cw cr n F r L ++ RL cw cr n F r M := by simp [RL]
theorem RL_map (F r e k : Nat) : ∀ L : List (Nat × Nat), ev (has (adjF f)) k (RL cw cr n F r (L.map fun p => (p.1 ||| e, p.2))) = if has (adjF f) e = true then ev (has (adjF f)) k (RL cw cr n F r L) else 0
  | [] => by simp [RL, ev]
  | p :: L => by
    have ih := RL_map F r e k L
    unfold RL at ih ⊢
    rw [List.map_cons, List.flatMap_cons, List.flatMap_cons, ev_append, ev_append, ih]
    dsimp only
    rw [ev_mul_or (has_mult _)]
    split <;> rfl
theorem moreO_some {g : Int → Int} {kn : Nat} {l out : List Int} (h1 : l.length ≤ 1000) (h2 : kn ≤ 1000) (h3 : out.length ≤ 1000) : moreO g (kn : Int) l out = some (moreL g kn l out) := by
  unfold moreO
  rw [if_pos ⟨h1, by omega, by omega, h3⟩, Int.toNat_natCast]

include hF hw in
theorem wires_ev {p' F : Nat} (hp : p' ≤ F) (IH : ∀ q, q < p' → Over f n gw gr cw cr q) {i r : Nat} (hi : i < n) (hr1 : r < 128) (hrn : ∀ k, r.testBit k = true → k < n) (hrp : popN 7 r = p') :
    ∀ d j, j + d = n → ∀ m, 100 * p' + d + 1 ≤ m → ∀ (out : List Int) (e : Nat → Int), out.length ≤ p' + 2 → (∀ k, cof out k = wrap64 (e k)) →
      ∃ out', wiresF f gw gr m (i : Int) (r : Int) j out = some out' ∧ out'.length ≤ p' + 2 ∧ ∀ k, cof out' k = wrap64 (e k + ev (has (adjF f)) k ((List.range' j d).flatMap fun k => if r.testBit k then mulT (eb i k) 2 cw (EO cw cr n F (clr r k)) else []))
  | 0, j, hj, m, hm, out, e, hl, he => by
    obtain ⟨m, rfl⟩ : ∃ q, m = q + 1 := ⟨m - 1, by omega⟩
    refine ⟨out, ?_, hl, fun k => by rw [he]; simp [ev]⟩
    rw [wiresF, if_neg (by rw [hF.len]; omega)]
  | d + 1, j, hj, m, hm, out, e, hl, he => by
    obtain ⟨m, rfl⟩ : ∃ q, m = q + 1 := ⟨m - 1, by omega⟩
    obtain ⟨a, ha, hra, hab⟩ := hF.nat i
    have hn := hF.le
    have hp7 := pop_le r hr1
    have hand : Go.bits .and .i64 (rd f (i : Int)) (r : Int) = ((a &&& r : Nat) : Int) := by rw [hra]; exact and_nat a r ha hr1
    have htst : tst (Go.bits .and .i64 (rd f (i : Int)) (r : Int)) ((j : Nat) : Int) = (adjF f i j && r.testBit j) := by
      rw [hand, tst_nat _ (Nat.lt_of_le_of_lt Nat.and_le_left ha) j (by omega), Nat.testBit_and, hab]
    rw [wiresF, if_pos (by rw [hF.len]; omega), htst]
    by_cases ht : (adjF f i j && r.testBit j) = true
    · rw [if_pos ht]
      rw [Bool.and_eq_true] at ht
      have hsub := sub1_nat r hr1 j (by omega)
      rw [hsub, if_pos (okS_nat (clr_lt hr1))]
      have hpc := pop_clr r hr1 j (by omega) ht.2
      obtain ⟨l, hlo, hll, hle⟩ := IH (p' - 1) (by omega) F (by omega) (clr r j) (clr_lt hr1) (fun k hk => hrn k (sd_sub hr1 hk).1) (by omega) m (by omega)
      rw [hlo, Option.bind_some, show (2 : Int) = ((2 : Nat) : Int) from rfl, moreO_some (by omega) (by omega) (by omega), Option.bind_some]
      have hml := moreL_length gw 2 l out
      obtain ⟨out', h1, h2, h3⟩ := wires_ev hp IH hi hr1 hrn hrp d (j + 1) (by omega) m (by omega) (moreL gw 2 l out) _ (by omega) (more_ev hw hle he)
      refine ⟨out', h1, h2, fun k => ?_⟩
      rw [h3, List.range'_succ, List.flatMap_cons, ev_append, if_pos ht.2, ev_mul (has_mult _), has_eb hF.wired hF.le hi (by omega), if_pos ht.1, Int.add_assoc]
    · rw [if_neg ht]
      obtain ⟨out', h1, h2, h3⟩ := wires_ev hp IH hi hr1 hrn hrp d (j + 1) (by omega) m (by omega) out e hl he
      refine ⟨out', h1, h2, fun k => ?_⟩
      rw [h3, List.range'_succ, List.flatMap_cons, ev_append]
      have hz : ev (has (adjF f)) k (if r.testBit j = true then mulT (eb i j) 2 cw (EO cw cr n F (clr r j)) else []) = 0 := by
        by_cases hb : r.testBit j = true
        · rw [if_pos hb, ev_mul (has_mult _), has_eb hF.wired hF.le hi (by omega), if_neg (fun h => ht (by rw [h, hb]; rfl))]
        · rw [if_neg hb]; rfl
      rw [hz, Int.zero_add]

/-- One knot's part of the rings' list. -/
def RK (n i r G at_ second met k : Nat) : List (Nat × Nat) := if (sd r met).testBit k then
  (if met ≠ 0 ∧ second < k then [(eb k i ||| eb at_ k, met ||| 2 ^ k)] else []) ++ (RP n i r G k (if met = 0 then k else second) (met ||| 2 ^ k)).map fun p => (p.1 ||| eb at_ k, p.2)
  else []
theorem RP_succ (n i r G at_ second met : Nat) : RP n i r (G + 1) at_ second met = (List.range n).flatMap (RK n i r G at_ second met) := rfl
theorem RL_flat (F r : Nat) (g : Nat → List (Nat × Nat)) (L : List Nat) : RL cw cr n F r (L.flatMap g) = L.flatMap fun k => RL cw cr n F r (g k) := by
  unfold RL; rw [List.flatMap_assoc]
/-- What 'on' adds, at q knots that are left. -/
def On (f : List Int) (n : Nat) (gw gr : Int → Int) (cw cr : Int) (p' F i r : Nat) (q : Nat) : Prop := ∀ (at_ second met : Nat), at_ < n → met < 128 → popN 7 (sd r met) = q → q + popN 7 met ≤ p' → ∀ G, q + 1 ≤ G → ∀ m, 100 * p' + 10 * q + 9 ≤ m → ∀ (out : List Int) (e : Nat → Int), out.length ≤ p' + 2 → (∀ k, cof out k = wrap64 (e k)) →
  ∃ out', onF f gw gr m (i : Int) (r : Int) (at_ : Int) (second : Int) (met : Int) out = some out' ∧ out'.length ≤ p' + 2 ∧ ∀ k, cof out' k = wrap64 (e k + ev (has (adjF f)) k (RL cw cr n F r (RP n i r G at_ second met)))
include hF hr in
theorem onL_ev {p' F : Nat} (hp : p' ≤ F) (IH : ∀ q, q < p' → Over f n gw gr cw cr q) {i r : Nat} (hi : i < n) (hr1 : r < 128) (hrn : ∀ k, r.testBit k = true → k < n) (hrp : popN 7 r = p') {q : Nat} (IQ : ∀ q', q' + 1 = q → On f n gw gr cw cr p' F i r q')
    {at_ second met G : Nat} (hat : at_ < n) (hmet : met < 128) (hq : popN 7 (sd r met) = q) (hqm : q + popN 7 met ≤ p') (hG : q ≤ G) :
    ∀ d k, k + d = n → ∀ m, 100 * p' + 10 * q + d + 1 ≤ m → ∀ (out : List Int) (e : Nat → Int), out.length ≤ p' + 2 → (∀ k, cof out k = wrap64 (e k)) →
      ∃ out', onL f gw gr m (i : Int) (r : Int) (at_ : Int) (second : Int) (met : Int) k out = some out' ∧ out'.length ≤ p' + 2 ∧ ∀ x, cof out' x = wrap64 (e x + ev (has (adjF f)) x (RL cw cr n F r ((List.range' k d).flatMap (RK n i r G at_ second met))))
  | 0, k, hk, m, hm, out, e, hl, he => by
    obtain ⟨m, rfl⟩ : ∃ q, m = q + 1 := ⟨m - 1, by omega⟩
    refine ⟨out, ?_, hl, fun x => by rw [he]; simp [RL, ev]⟩
    rw [onL, if_neg (by rw [hF.len]; omega)]
  | d + 1, k, hk, m, hm, out, e, hl, he => by
    obtain ⟨m, rfl⟩ : ∃ q, m = q + 1 := ⟨m - 1, by omega⟩
    obtain ⟨a, ha, hra, hab⟩ := hF.nat at_
    obtain ⟨b, hb, hrb, hbb⟩ := hF.nat k
    have hn := hF.le
    have hp7 := pop_le r hr1
    have hand : Go.bits .andNot .i64 (Go.bits .and .i64 (rd f (at_ : Int)) (r : Int)) (met : Int) = ((sd (a &&& r) met : Nat) : Int) := by
      rw [hra, and_nat a r ha hr1]
      exact andNot_nat _ (Nat.lt_of_le_of_lt Nat.and_le_left ha) met hmet
    have har : a &&& r < 128 := Nat.lt_of_le_of_lt Nat.and_le_left ha
    have hbit : (sd (a &&& r) met).testBit k = (adjF f at_ k && (sd r met).testBit k) := by
      rw [testBit_sd har, testBit_sd hr1, Nat.testBit_and, hab, Bool.and_assoc]
    have hcond := tst0_nat (sd (a &&& r) met) (sd_lt har) k (by omega)
    rw [onL, if_pos (by rw [hF.len]; omega), hand]
    have hev : ∀ x, ev (has (adjF f)) x (RL cw cr n F r ((List.range' k (d + 1)).flatMap (RK n i r G at_ second met))) = ev (has (adjF f)) x (RL cw cr n F r (RK n i r G at_ second met k)) + ev (has (adjF f)) x (RL cw cr n F r ((List.range' (k + 1) d).flatMap (RK n i r G at_ second met))) := fun x => by
      rw [List.range'_succ, List.flatMap_cons, RL_append, ev_append]
    by_cases hc : (sd (a &&& r) met).testBit k = false
    · rw [if_pos (hcond.2 hc)]
      obtain ⟨out', h1, h2, h3⟩ := onL_ev hp IH hi hr1 hrn hrp IQ hat hmet hq hqm hG d (k + 1) (by omega) m (by omega) out e hl he
      refine ⟨out', h1, h2, fun x => ?_⟩
      have hz : ev (has (adjF f)) x (RL cw cr n F r (RK n i r G at_ second met k)) = 0 := by
        unfold RK
        by_cases hs : (sd r met).testBit k = true
        · have hadj : has (adjF f) (eb at_ k) = false := by
            rw [has_eb hF.wired hF.le hat (by omega)]
            rw [hbit, hs, Bool.and_true] at hc
            exact hc
          rw [if_pos hs, RL_append, ev_append, RL_map, hadj]
          simp only [Bool.false_eq_true, if_false, Int.add_zero]
          split
          · show ev (has (adjF f)) x (mulT (eb k i ||| eb at_ k) _ cr _ ++ []) = 0
            rw [List.append_nil, ev_mul_or (has_mult _), hadj, if_neg (by decide)]
          · rfl
        · rw [if_neg hs]; rfl
      rw [h3, hev, hz, Int.zero_add]
    · rw [if_neg (fun h => hc (hcond.1 h))]
      have hc2 : (adjF f at_ k && (sd r met).testBit k) = true := by rw [← hbit]; simpa using hc
      rw [Bool.and_eq_true] at hc2
      obtain ⟨hadj0, hsd⟩ := hc2
      have hadj : has (adjF f) (eb at_ k) = true := by rw [has_eb hF.wired hF.le hat (by omega)]; exact hadj0
      obtain ⟨hrk, hmk⟩ := sd_sub hr1 hsd
      have hpc := pop_clr (sd r met) (sd_lt hr1) k (by omega) hsd
      have hpo := pop_or met hmet k (by omega) hmk
      have hol : met ||| 2 ^ k < 128 := or_lt hmet (by omega)
      have hor := or2_nat met hmet k (by omega)
      have hsub : sub1 (Go.bits .andNot .i64 (r : Int) (met : Int)) (k : Int) = ((sd r (met ||| 2 ^ k) : Nat) : Int) := by
        rw [andNot_nat r hr1 met hmet, sub1_nat _ (sd_lt hr1) k (by omega), sd_or hr1]
      have hpop : popN 7 (sd r (met ||| 2 ^ k)) = q - 1 := by rw [sd_or hr1]; omega
      have htst : tst (rd f (k : Int)) (i : Int) = adjF f k i := by rw [hrb, tst_nat b hb i (by omega), hbb]
      -- the ring that closes here
      have hclose : ∃ out1, (if 0 < (met : Int) ∧ (second : Int) < (k : Int) ∧ tst (rd f (k : Int)) (i : Int) = true then
          if okS (sub1 (Go.bits .andNot .i64 (r : Int) (met : Int)) k) = true then (overF f gw gr m (sub1 (Go.bits .andNot .i64 (r : Int) (met : Int)) k)).bind fun l => moreO gr (pop (met : Int) + 2) l out else none
          else some out) = some out1 ∧ out1.length ≤ p' + 2 ∧ ∀ x, cof out1 x = wrap64 (e x + ev (has (adjF f)) x (RL cw cr n F r (if met ≠ 0 ∧ second < k then [(eb k i ||| eb at_ k, met ||| 2 ^ k)] else []))) := by
        by_cases h1 : met ≠ 0 ∧ second < k
        · by_cases h2 : adjF f k i = true
          · rw [if_pos ⟨by omega, by omega, by rw [htst]; exact h2⟩, hsub, if_pos (okS_nat (sd_lt hr1)), if_pos h1]
            obtain ⟨l, hlo, hll, hle⟩ := IH (q - 1) (by omega) F (by omega) _ (sd_lt hr1) (fun t ht => hrn t (sd_sub hr1 ht).1) hpop m (by omega)
            have hpm := pop_le _ hmet
            rw [hlo, Option.bind_some, pop_nat met hmet, show ((popN 7 met : Nat) : Int) + 2 = ((popN 7 met + 2 : Nat) : Int) by omega, moreO_some (by omega) (by omega) (by omega)]
            have hml := moreL_length gr (popN 7 met + 2) l out
            refine ⟨_, rfl, by omega, fun x => ?_⟩
            rw [more_ev hr hle he]
            show _ = wrap64 (e x + ev (has (adjF f)) x (mulT (eb k i ||| eb at_ k) _ cr _ ++ []))
            rw [List.append_nil, ev_mul_or (has_mult _), if_pos hadj, ev_mul (has_mult _), has_eb hF.wired hF.le (by omega) hi, if_pos h2, hpo]
          · rw [if_neg (fun h => h2 (by rw [← htst]; exact h.2.2)), if_pos h1]
            refine ⟨out, rfl, hl, fun x => ?_⟩
            show _ = wrap64 (e x + ev (has (adjF f)) x (mulT (eb k i ||| eb at_ k) _ cr _ ++ []))
            rw [List.append_nil, ev_mul_or (has_mult _), if_pos hadj, ev_mul (has_mult _), has_eb hF.wired hF.le (by omega) hi, if_neg h2, Int.add_zero, he]
        · rw [if_neg (fun h => h1 ⟨by omega, by omega⟩), if_neg h1]
          exact ⟨out, rfl, hl, fun x => by rw [he]; simp [RL, ev]⟩
      obtain ⟨out1, ho1, hl1, he1⟩ := hclose
      rw [ho1, Option.bind_some, hor]
      have hsec : (if (met : Int) = 0 then ((k : Nat) : Int) else (second : Int)) = ((if met = 0 then k else second : Nat) : Int) := by
        by_cases h : met = 0
        · rw [if_pos (by omega), if_pos h]
        · rw [if_neg (by omega), if_neg h]
      rw [hsec]
      obtain ⟨out2, ho2, hl2, he2⟩ := IQ (q - 1) (by omega) k (if met = 0 then k else second) (met ||| 2 ^ k) (by omega) hol hpop (by omega) G (by omega) m (by omega) out1 _ hl1 he1
      rw [ho2, Option.bind_some]
      obtain ⟨out', h1, h2, h3⟩ := onL_ev hp IH hi hr1 hrn hrp IQ hat hmet hq hqm hG d (k + 1) (by omega) m (by omega) out2 _ hl2 he2
      refine ⟨out', h1, h2, fun x => ?_⟩
      rw [h3, hev]
      have : ev (has (adjF f)) x (RL cw cr n F r (RK n i r G at_ second met k)) = ev (has (adjF f)) x (RL cw cr n F r (if met ≠ 0 ∧ second < k then [(eb k i ||| eb at_ k, met ||| 2 ^ k)] else [])) + ev (has (adjF f)) x (RL cw cr n F r (RP n i r G k (if met = 0 then k else second) (met ||| 2 ^ k))) := by
        unfold RK
        rw [if_pos hsd, RL_append, ev_append, RL_map, if_pos hadj]
      rw [this]
      congr 1
      omega
include hF hr in
theorem on_ev {p' F : Nat} (hp : p' ≤ F) (IH : ∀ q, q < p' → Over f n gw gr cw cr q) {i r : Nat} (hi : i < n) (hr1 : r < 128) (hrn : ∀ k, r.testBit k = true → k < n) (hrp : popN 7 r = p') : ∀ q, On f n gw gr cw cr p' F i r q := by
  intro q
  induction q with
  | zero =>
    intro at_ second met hat hmet hq hqm G hG m hm out e hl he
    obtain ⟨m, rfl⟩ : ∃ q, m = q + 1 := ⟨m - 1, by omega⟩
    obtain ⟨G, rfl⟩ : ∃ q, G = q + 1 := ⟨G - 1, by omega⟩
    have hn := hF.le
    rw [onF, if_pos ⟨by omega, by rw [hF.len]; omega, okS_nat hmet⟩]
    obtain ⟨out', h1, h2, h3⟩ := onL_ev hF hr hp IH hi hr1 hrn hrp (q := 0) (fun q' h => by omega) (second := second) (G := G) hat hmet hq hqm (by omega) n 0 (by omega) m (by omega) out e hl he
    exact ⟨out', h1, h2, fun x => by rw [h3, RP_succ, List.range_eq_range']⟩
  | succ q ih =>
    intro at_ second met hat hmet hq hqm G hG m hm out e hl he
    obtain ⟨m, rfl⟩ : ∃ q, m = q + 1 := ⟨m - 1, by omega⟩
    obtain ⟨G, rfl⟩ : ∃ q, G = q + 1 := ⟨G - 1, by omega⟩
    have hn := hF.le
    rw [onF, if_pos ⟨by omega, by rw [hF.len]; omega, okS_nat hmet⟩]
    obtain ⟨out', h1, h2, h3⟩ := onL_ev hF hr hp IH hi hr1 hrn hrp (q := q + 1) (fun q' h => by have : q' = q := by omega
                                                                                                rw [this]; exact ih) (second := second) (G := G) hat hmet hq hqm (by omega) n 0 (by omega) m (by omega) out e hl he
    exact ⟨out', h1, h2, fun x => by rw [h3, RP_succ, List.range_eq_range']⟩
include hF hw hr in
theorem over_ev : ∀ p, Over f n gw gr cw cr p := by
  intro p
  induction p using Nat.strongRecOn with
  | _ p IH =>
    intro F hFp s hs hsn hsp m hm
    obtain ⟨m, rfl⟩ : ∃ q, m = q + 1 := ⟨m - 1, by omega⟩
    obtain ⟨F, rfl⟩ : ∃ q, F = q + 1 := ⟨F - 1, by omega⟩
    have hn := hF.le
    by_cases h0 : s = 0
    · subst h0
      refine ⟨[1], by rw [overF, if_pos (show ((0 : Nat) : Int) = 0 from rfl)], by simp, fun k => ?_⟩
      rw [EO, if_pos rfl]
      have hz := (has_mult (adjF f)).zero
      rcases k with _ | k
      · simp [cof, ev, hz, wrap64]
      · simp [cof, ev, hz, wrap64]
    · obtain ⟨hi7, hbit⟩ := low_bit s hs h0
      have hi := hsn _ hbit
      have hpc := pop_clr s hs _ hi7 hbit
      have hr1 : clr s (lowest 7 s) < 128 := clr_lt hs
      have hrn : ∀ k, (clr s (lowest 7 s)).testBit k = true → k < n := fun k hk => hsn k (sd_sub hs hk).1
      have hp7 := pop_le s hs
      have hsub : sub1 ((s : Nat) : Int) ((lowest 7 s : Nat) : Int) = ((clr s (lowest 7 s) : Nat) : Int) := sub1_nat s hs _ hi7
      rw [overF, if_neg (by omega), ctz_nat s hs h0, hsub, if_pos ⟨okS_nat hs, by rw [hF.len]; omega, okS_nat hr1⟩]
      obtain ⟨o1, h1, hl1, he1⟩ := IH (p - 1) (by omega) F (by omega) _ hr1 hrn (by omega) m (by omega)
      obtain ⟨o2, h2, hl2, he2⟩ := wires_ev hF hw (p' := p - 1) (F := F) (by omega) (fun q hq => IH q (by omega)) hi hr1 hrn (by omega) n 0 (by omega) m (by omega) o1 _ (by omega) (he1)
      obtain ⟨o3, h3, hl3, he3⟩ := on_ev hF hr (p' := p - 1) (F := F) (by omega) (fun q hq => IH q (by omega)) hi hr1 hrn (by omega) (p - 1) (lowest 7 s) 0 0 hi (by omega) (by rw [sd_zero hr1]; omega) (by show p - 1 + 0 ≤ p - 1; omega) 7 (by omega) m (by omega) o2 _ (by omega) he2
      refine ⟨o3, ?_, by omega, fun k => ?_⟩
      · rw [h1, Option.bind_some, h2, Option.bind_some]
        exact h3
      · rw [he3, EO, if_neg h0, ev_append, ev_append, List.range_eq_range']
        rfl
end
end Go.Proofs.YtglalkenkmijkaaDoor.Hand
/- The polynomials of a frame: their numbers are the formal sums'. -/
namespace Go.Proofs.YtglalkenkmijkaaDoor.Enum
theorem ev_EO_zero {φ : Nat → Bool} (hφ : Mult φ) (cw cr : Int) (n : Nat) : ∀ p F s, s < 128 → popN 7 s = p → p + 1 ≤ F → ev φ 0 (EO cw cr n F s) = 1 := by
  intro p
  induction p with
  | zero =>
    intro F s hs hp hF
    obtain ⟨F, rfl⟩ : ∃ q, F = q + 1 := ⟨F - 1, by omega⟩
    have := pop_zero s hs hp
    subst this
    rw [EO, if_pos rfl]
    simp [ev, hφ.zero]
  | succ p ih =>
    intro F s hs hp hF
    obtain ⟨F, rfl⟩ : ∃ q, F = q + 1 := ⟨F - 1, by omega⟩
    have h0 : s ≠ 0 := fun h => by
      rw [h] at hp
      exact absurd hp (by show ¬ (0 = p + 1); omega)
    obtain ⟨hi7, hbit⟩ := low_bit s hs h0
    have hpc := pop_clr s hs _ hi7 hbit
    have hz : ∀ {α : Type} (L : List α) (g : α → List Term), (∀ a, ev φ 0 (g a) = 0) → ev φ 0 (L.flatMap g) = 0 := fun L g hg => by
      induction L with
      | nil => rfl
      | cons a L ih => rw [List.flatMap_cons, ev_append, hg, ih]; rfl
    rw [EO, if_neg h0, ev_append, ev_append, ih F _ (clr_lt hs) (by omega) (by omega), hz, hz]
    · rfl
    · exact fun a => ev_mul_low _ _ _ _ (by omega) _
    · intro a
      split
      · exact ev_mul_low _ _ _ _ (by omega) _
      · rfl
/-- Masks and numbers of knots alone. -/
def pr (E : List Term) : List (Nat × Nat) := E.map fun t => (t.1, t.2.1)
theorem pr_mul (e c : Nat) (g : Int) (E : List Term) : pr (mulT e c g E) = (pr E).map fun t => (t.1 ||| e, t.2 + c) := by
  simp [pr, mulT]
theorem pr_EO (cw cr cw' cr' : Int) (n : Nat) : ∀ F s, pr (EO cw cr n F s) = pr (EO cw' cr' n F s)
  | 0, _ => rfl
  | F + 1, s => by
    rw [EO, EO]
    by_cases h : s = 0
    · rw [if_pos h, if_pos h]
    · rw [if_neg h, if_neg h]
      have hfl : ∀ {α : Type} (L : List α) (g g' : α → List Term), (∀ a, pr (g a) = pr (g' a)) → pr (L.flatMap g) = pr (L.flatMap g') := fun L g g' hg => by
        unfold pr at hg ⊢
        rw [List.map_flatMap, List.map_flatMap]
        congr 1
        funext a
        exact hg a
      have happ : ∀ A B : List Term, pr (A ++ B) = pr A ++ pr B := fun A B => by simp [pr]
      rw [happ, happ, happ, happ, pr_EO cw cr cw' cr' n F]
      congr 1
      · congr 1
        apply hfl
        intro k
        split
        · rw [pr_mul, pr_mul, pr_EO cw cr cw' cr' n F]
        · rfl
      · apply hfl
        intro p
        rw [pr_mul, pr_mul, pr_EO cw cr cw' cr' n F]
theorem EO_ones (n : Nat) : ∀ F s, ∀ t, t ∈ EO 1 1 n F s → t.2.2 = 1
  | 0, _, t, ht => by simp [EO] at ht
  | F + 1, s, t, ht => by
    have hm : ∀ {e c : Nat} {E : List Term}, (∀ t, t ∈ E → t.2.2 = 1) → ∀ t, t ∈ mulT e c 1 E → t.2.2 = 1 := fun hE t ht => by
      obtain ⟨u, hu, rfl⟩ := List.mem_map.1 ht
      simp [hE u hu]
    rw [EO] at ht
    split at ht
    · simp at ht
      rw [ht]
    · rw [List.mem_append, List.mem_append] at ht
      rcases ht with (ht | ht) | ht
      · exact EO_ones n F _ t ht
      · obtain ⟨k, _, hk⟩ := List.mem_flatMap.1 ht
        split at hk
        · exact hm (EO_ones n F _) t hk
        · simp at hk
      · obtain ⟨k, _, hk⟩ := List.mem_flatMap.1 ht
        exact hm (EO_ones n F _) t hk
theorem ev_none {φ : Nat → Bool} {k : Nat} : ∀ {E : List Term}, (∀ q, q ∈ pr E → ¬ (φ q.1 = true ∧ q.2 = k)) → ev φ k E = 0
  | [], _ => rfl
  | t :: E, h => by
    rw [ev, if_neg (h (t.1, t.2.1) (by simp [pr])), ev_none (E := E) (fun q hq => h q (by simp [pr] at hq ⊢; exact .inr hq))]
    rfl
theorem ev_ones {φ : Nat → Bool} {k : Nat} : ∀ {E : List Term}, (∀ t, t ∈ E → t.2.2 = 1) → 0 ≤ ev φ k E ∧ (ev φ k E = 0 → ∀ q, q ∈ pr E → ¬ (φ q.1 = true ∧ q.2 = k))
  | [], _ => ⟨Int.le_refl _, fun _ q hq => by simp [pr] at hq⟩
  | t :: E, h => by
    obtain ⟨h1, h2⟩ := ev_ones (φ := φ) (k := k) (E := E) (fun u hu => h u (List.mem_cons_of_mem _ hu))
    have ht := h t List.mem_cons_self
    rw [ev, ht]
    by_cases hc : φ t.1 = true ∧ t.2.1 = k
    · rw [if_pos hc]
      exact ⟨by omega, fun he => by omega⟩
    · rw [if_neg hc]
      refine ⟨by omega, fun he q hq => ?_⟩
      simp only [pr, List.map_cons, List.mem_cons] at hq
      rcases hq with hq | hq
      · rw [hq]; exact hc
      · exact h2 (by omega) q hq
/-- A count of figures is not below 0; where there is none, every sum over them is 0. -/
theorem ev_counts (φ : Nat → Bool) (k : Nat) (cw cr : Int) (n F s : Nat) : 0 ≤ ev φ k (EO 1 1 n F s) ∧ (ev φ k (EO 1 1 n F s) = 0 → ev φ k (EO cw cr n F s) = 0) := by
  obtain ⟨h1, h2⟩ := ev_ones (φ := φ) (k := k) (EO_ones n F s)
  exact ⟨h1, fun h => ev_none (by rw [pr_EO cw cr 1 1]; exact h2 h)⟩
end Go.Proofs.YtglalkenkmijkaaDoor.Enum
namespace Go.Proofs.YtglalkenkmijkaaDoor.Hand
open Go.RowKit Enum Go.Proofs.YtglalkenkmijkaaDoorW.PrintWords Go.Proofs.YtglalkenkmijkaaDoorW.PrintLast Go.Proofs.YtglalkenkmijkaaDoorW.PrintMore
set_option linter.unusedVariables false
set_option linter.unusedSimpArgs false
theorem isFr_Fr {l : List Int} (h : isFr l = true) : Fr l l.length := by
  have hl := isFr_len h
  have hb := isFr_bounds h
  refine ⟨rfl, hl.2, fun i => hb i, ⟨fun i j hi hj => ?_⟩⟩
  unfold isFr at h
  simp only [Bool.and_eq_true, List.all_eq_true, List.mem_range] at h
  have hs := (h.2 i hi).2 j hj
  unfold symOk tstN at hs
  have hs := eq_of_beq hs
  obtain ⟨a, ha⟩ := Int.eq_ofNat_of_zero_le (hb i).1
  obtain ⟨b, hb'⟩ := Int.eq_ofNat_of_zero_le (hb j).1
  have h1 := (hb i).2
  have h2 := (hb j).2
  unfold adjF
  rw [ha, hb', Int.toNat_natCast, Int.toNat_natCast]
  rw [ha, hb'] at hs
  have e1 := tst0_nat a (by omega) j (by omega)
  have e2 := tst0_nat b (by omega) i (by omega)
  cases hx : a.testBit j with
  | false =>
    cases hy : b.testBit i with
    | false => rfl
    | true =>
      rw [hs] at e1
      rw [e2.1 (e1.2 hx)] at hy
      exact hy
  | true =>
    cases hy : b.testBit i with
    | true => rfl
    | false =>
      rw [hs] at e1
      rw [e1.1 (e2.2 hy)] at hx
      exact hx.symm
theorem top_nat : ∀ n, n < 8 → (2 : Int) ^ n - 1 = ((2 ^ n - 1 : Nat) : Int) ∧ 2 ^ n - 1 < 128 ∧ popN 7 (2 ^ n - 1) = n ∧ ∀ k, k < 7 → (2 ^ n - 1).testBit k = true → k < n := by decide +kernel
theorem cof_setsTo (n : Nat) (l : List Int) (hl : l.length ≤ n + 1) (k : Nat) (hk : k ≤ n) : ∀ j, j ≤ n + 1 → cof (setsTo n l j) (n - k) = if k < j then cof l k else 0
  | 0, _ => by
    rw [if_neg (by omega)]
    unfold cof setsTo
    rw [List.getD_eq_getElem?_getD, List.getElem?_replicate]
    split <;> rfl
  | j + 1, hj => by
    have ih := cof_setsTo n l hl k hk j (by omega)
    have hlen := setsTo_length n l j
    unfold setsTo
    unfold cof at ih ⊢
    by_cases h : k = j
    · subst h
      rw [List.getD_eq_getElem?_getD, List.getElem?_set_self (by omega), if_pos (by omega), rd_cof]
      rfl
    · rw [List.getD_eq_getElem?_getD, List.getElem?_set_ne (by omega), ← List.getD_eq_getElem?_getD, ih]
      by_cases h1 : k < j
      · rw [if_pos h1, if_pos (by omega)]
      · rw [if_neg h1, if_neg (by omega)]
/-- The polynomial of a frame, before zeros are left out. -/
theorem of_ev {l : List Int} (hf : isFr l = true) {gw gr : Int → Int} {cw cr : Int} (hw : Lin gw cw) (hr : Lin gr cr) (hm : ∀ n, n < 8 → mass (EO cw cr n 8 (2 ^ n - 1)) ≤ 1000000) (m : Nat) (h800 : 800 ≤ m) :
    ∃ r, ofF l gw gr m = some r ∧ r.length = l.length + 1 ∧ ∀ k, k ≤ l.length → cof r (l.length - k) = ev (has (adjF l)) k (EO cw cr l.length 8 (2 ^ l.length - 1)) := by
  have hF := isFr_Fr hf
  have hl := isFr_len hf
  obtain ⟨h1, h2, h3, h4⟩ := top_nat l.length (by omega)
  obtain ⟨out, ho, hlo, he⟩ := over_ev hF hw hr l.length 8 (by omega) (2 ^ l.length - 1) h2 (fun k hk => h4 k (testBit_lt h2 hk) hk) h3 m (by omega)
  unfold ofF
  rw [h1, if_pos (okS_nat h2), ho, Option.bind_some, if_pos hlo]
  refine ⟨_, rfl, setsTo_length _ _ _, fun k hk => ?_⟩
  have hev := ev_mass (has (adjF l)) k (EO cw cr l.length 8 (2 ^ l.length - 1))
  have hms := hm l.length (by omega)
  have hwr : wrap64 (ev (has (adjF l)) k (EO cw cr l.length 8 (2 ^ l.length - 1))) = ev (has (adjF l)) k (EO cw cr l.length 8 (2 ^ l.length - 1)) := by
    unfold wrap64
    omega
  rw [cof_setsTo _ _ hlo k hk _ (by omega)]
  by_cases hko : k < out.length
  · rw [if_pos hko, he, hwr]
  · rw [if_neg hko, ← hwr, ← he, cof_big (by omega)]
end Go.Proofs.YtglalkenkmijkaaDoor.Hand
/- The reference's IsFrame answers as the program's. -/
namespace Go.Proofs.YtglalkenkmijkaaDoor.Hand
open Go.RowKit Enum PAll Go.Proofs.YtglalkenkmijkaaDoorW.PrintWords Go.Proofs.YtglalkenkmijkaaDoorW.PrintLast Go.Proofs.YtglalkenkmijkaaDoorW.PrintMore
set_option linter.unusedVariables false
set_option linter.unusedSimpArgs false

theorem tmod_tst : ∀ s, s < 128 → ∀ k, k < 7 → Int.tmod (shr .i64 ((s : Nat) : Int) ((k : Nat) : Int)) 2 = tstN ((s : Nat) : Int) k := by decide +kernel
theorem shl_one : ∀ n, n < 8 → shl .i64 1 ((n : Nat) : Int) = 2 ^ n := by decide +kernel
theorem wrap_succ {i : Nat} (h : i < 1000) : wrap64 ((i : Int) + 1) = ((i + 1 : Nat) : Int) := by unfold wrap64; omega
theorem isFrame_l2 {l : List Int} (hn : l.length ≤ 7) (hb : ∀ i : Nat, i < l.length → 0 ≤ rd l i ∧ rd l i < 128) {i : Nat} (hi : i < l.length) : ∀ d k m, k + d = l.length →
    clocheref08_IsFrame.l2 (m + d + 1) l (l.length : Int) (i : Int) (k : Int) = if (List.range' k d).all (symOk l i) = true then clocheref08_IsFrame.l1 m l (l.length : Int) ((i + 1 : Nat) : Int) else some false
  | 0, k, m, h => by
    rw [clocheref08_IsFrame.l2, if_neg (by omega), wrap_succ (by omega)]
    rfl
  | d + 1, k, m, h => by
    obtain ⟨a, ha⟩ := Int.eq_ofNat_of_zero_le (hb i hi).1
    obtain ⟨b, hb'⟩ := Int.eq_ofNat_of_zero_le (hb k (by omega)).1
    have h1 := (hb i hi).2
    have h2 := (hb k (by omega)).2
    rw [show m + (d + 1) + 1 = (m + d + 1) + 1 from by omega, clocheref08_IsFrame.l2, if_pos (by omega), if_pos (by omega), if_pos (by omega), if_pos (by omega), if_pos (by omega), wrap_succ (by omega), isFrame_l2 hn hb hi d (k + 1) m (by omega), List.range'_succ, List.all_cons]
    have e1 := tmod_tst a (by omega) k (by omega)
    have e2 := tmod_tst b (by omega) i (by omega)
    rw [ha, hb', e1, e2]
    by_cases hs : tstN (a : Int) k = tstN (b : Int) i
    · rw [if_pos hs, show symOk l i k = true by unfold symOk; rw [ha, hb']; exact beq_iff_eq.2 hs, Bool.true_and]
    · rw [if_neg hs, show symOk l i k = false by unfold symOk; rw [ha, hb']; exact beq_eq_false_iff_ne.2 hs, Bool.false_and, if_neg (by decide)]
theorem isFrame_l1 {l : List Int} (hn : l.length ≤ 7) (hb : ∀ i : Nat, i < l.length → 0 ≤ rd l i ∧ rd l i < 128) : ∀ d i m, i + d = l.length →
    clocheref08_IsFrame.l1 (m + d * (l.length + 2) + 1) l (l.length : Int) (i : Int) = some ((List.range' i d).all fun i => (List.range' 0 l.length).all (symOk l i))
  | 0, i, m, h => by
    rw [clocheref08_IsFrame.l1, if_neg (by omega)]
    rfl
  | d + 1, i, m, h => by
    have e : m + (d + 1) * (l.length + 2) = (m + d * (l.length + 2) + 1) + l.length + 1 := by rw [Nat.add_mul]; omega
    rw [clocheref08_IsFrame.l1, if_pos (by omega), e, show (0 : Int) = ((0 : Nat) : Int) from rfl, isFrame_l2 hn hb (by omega) l.length 0 _ (by omega), isFrame_l1 hn hb d (i + 1) m (by omega), List.range'_succ, List.all_cons]
    cases (List.range' 0 l.length).all (symOk l i) with
    | true => rw [if_pos rfl, Bool.true_and]
    | false => rw [if_neg (by decide), Bool.false_and]
theorem isFrame_l0 {l : List Int} (hn : l.length ≤ 7) : ∀ d i m, i + d = l.length →
    clocheref08_IsFrame.l0 (m + d + 1) l (l.length : Int) (i : Int) = if (List.range' i d).all (rowOk l) = true then clocheref08_IsFrame.l1 m l (l.length : Int) 0 else some false
  | 0, i, m, h => by
    rw [clocheref08_IsFrame.l0, if_neg (by omega)]
    rfl
  | d + 1, i, m, h => by
    rw [show m + (d + 1) + 1 = (m + d + 1) + 1 from by omega, clocheref08_IsFrame.l0, if_pos (by omega), if_pos (by omega), if_pos (by omega), List.range'_succ, List.all_cons, shl_one _ (by omega), wrap_succ (by omega), isFrame_l0 hn d (i + 1) m (by omega)]
    have h128 : (2 : Int) ^ l.length ≤ 128 := by
      have : ∀ n, n < 8 → (2 : Int) ^ n ≤ 128 := by decide +kernel
      exact this _ (by omega)
    by_cases h0 : rd l i < 0
    · rw [if_pos h0, show rowOk l i = false by unfold rowOk; rw [decide_eq_false (by omega : ¬ 0 ≤ rd l i)]; rfl, Bool.false_and, if_neg (by decide)]
    · rw [if_neg h0, if_pos (by omega)]
      by_cases h1 : rd l i ≥ 2 ^ l.length
      · rw [if_pos h1, show rowOk l i = false by unfold rowOk; rw [decide_eq_false (by omega : ¬ rd l i < 2 ^ l.length)]; simp, Bool.false_and, if_neg (by decide)]
      · rw [if_neg h1]
        obtain ⟨a, ha⟩ := Int.eq_ofNat_of_zero_le (show 0 ≤ rd l i by omega)
        have e1 := tmod_tst a (by omega) i (by omega)
        rw [ha, e1]
        have e2 : rowOk l i = !(tstN (a : Int) i == 1) := by unfold rowOk; rw [ha, decide_eq_true (by omega), decide_eq_true (by omega)]; simp
        by_cases h2 : tstN (a : Int) i = 1
        · rw [if_pos h2, e2, h2]; rfl
        · rw [if_neg h2, e2, show (tstN (a : Int) i == 1) = false from beq_eq_false_iff_ne.2 h2]
          rfl
theorem isFrame_eq (l : List Int) (k : Nat) (hk : 200 ≤ k) : clocheref08_IsFrame.f k l = some (isFr l) := by
  obtain ⟨k, rfl⟩ : ∃ q, k = q + 1 := ⟨k - 1, by omega⟩
  unfold clocheref08_IsFrame.f
  by_cases h1 : (l.length : Int) < 1
  · rw [if_pos h1, clocheref08_IsFrame.j0, if_pos rfl]
    unfold isFr
    rw [decide_eq_false (by omega : ¬ 1 ≤ l.length)]; rfl
  · rw [if_neg h1, clocheref08_IsFrame.j0]
    by_cases h7 : (l.length : Int) > 7
    · rw [decide_eq_true h7, if_pos rfl]
      unfold isFr
      rw [decide_eq_false (by omega : ¬ l.length ≤ 7)]; simp
    · rw [decide_eq_false h7, if_neg (by decide)]
      have hn : l.length ≤ 7 := by omega
      obtain ⟨m, rfl⟩ : ∃ m, k = (m + l.length * (l.length + 2) + 1) + l.length + 1 := ⟨k - (l.length * (l.length + 2) + 1) - l.length - 1, by
        have : l.length * (l.length + 2) ≤ 7 * 9 := Nat.mul_le_mul hn (by omega)
        omega⟩
      rw [show (0 : Int) = ((0 : Nat) : Int) from rfl, isFrame_l0 hn l.length 0 _ (by omega)]
      have hfr : isFr l = ((List.range' 0 l.length).all (rowOk l) && (List.range' 0 l.length).all fun i => (List.range' 0 l.length).all (symOk l i)) := by
        unfold isFr
        rw [decide_eq_true (by omega : 1 ≤ l.length), decide_eq_true hn, Bool.true_and, Bool.true_and, List.range_eq_range', Bool.eq_iff_iff]
        simp only [Bool.and_eq_true, List.all_eq_true]
        exact ⟨fun h => ⟨fun x hx => (h x hx).1, fun x hx => (h x hx).2⟩, fun h x hx => ⟨h.1 x hx, h.2 x hx⟩⟩
      rw [hfr]
      cases hr : (List.range' 0 l.length).all (rowOk l) with
      | false => rw [if_neg (by decide), Bool.false_and]
      | true =>
        have hb : ∀ i : Nat, i < l.length → 0 ≤ rd l i ∧ rd l i < 128 := fun i hi => by
          have := List.all_eq_true.1 hr i (by simp; exact hi)
          unfold rowOk at this
          simp only [Bool.and_eq_true, decide_eq_true_eq] at this
          have h128 : ∀ n, n < 8 → (2 : Int) ^ n ≤ 128 := by decide +kernel
          have := h128 l.length (by omega)
          omega
        rw [if_pos rfl, Bool.true_and]
        exact isFrame_l1 hn hb l.length 0 m (by omega)
end Go.Proofs.YtglalkenkmijkaaDoor.Hand
