/- TonesPolynomials, part 0: walks over the program's text, plain laws, the row and its card; joined by a program. No condition beyond the statement's own. -/
import Derived.Test.YtglalkenkmijkaaDoorJC0
import Derived.Test.YtglalkenkmijkaaDoorJC3
import Derived.Test.YtglalkenkmijkaaDoorJC5
import Derived.Test.YtglalkenkmijkaaDoorJC6
namespace Go.Proofs.YtglalkenkmijkaaDoor.PAll
open Go.RowKit Go.Proofs.YtglalkenkmijkaaDoorW.PrintWords Go.Proofs.YtglalkenkmijkaaDoorW.PrintLast Go.Proofs.YtglalkenkmijkaaDoorW.PrintMore
attribute [local go_sem] max2_int min2_int max_two min_two max_three min_three max_four min_four   -- for this text's walks alone
set_option linter.unusedVariables false
set_option linter.unusedSimpArgs false

/-! ### clochelaw08_few: function 16 -/
def clochelaw08_few.f (l0 : List Int) (l1 : List Int) : Option (Bool) := if (l0.length : Int) ≤ 40 then (some (decide ((l1.length : Int) ≤ 40))) else (some false)
set_option maxHeartbeats 8000000 in
set_option maxRecDepth 100000 in
theorem clochelaw08_few.calls (A0 : Option Addr) (c0 : Nat) (l0 : List Int) (A1 : Option Addr) (c1 : Nat) (l1 : List Int) (r : Bool) (w : World) (hr0 : Kd.C (Kd.int .i64) w A0 l0.length l0) (hc0 : l0.length ≤ c0) (hr1 : Kd.C (Kd.int .i64) w A1 l1.length l1) (hc1 : l1.length ≤ c1) (h : clochelaw08_few.f l0 l1 = some r) :
    Calls Tryd.prog 16 #[.slice A0 l0.length c0, .slice A1 l1.length c1] w fun e w' => e = .returned (.bool r) ∧ Drawn0 w w' := by
  have HR0 := Aside0.mk hr0
  have HC0 := Aside0.mk hc0
  clear hr0 hc0
  have HR1 := Aside0.mk hr1
  have HC1 := Aside0.mk hc1
  clear hr1 hc1
  have H : (if (l0.length : Int) ≤ 40 then (some (decide ((l1.length : Int) ≤ 40))) else (some false)) = some r := h
  clear h
  by_cases c3 : (l0.length : Int) ≤ 40
  · rw [if_pos c3] at H
    have c3b0 : decide ((l0.length : Int) ≤ 40) = true := decide_eq_true c3
    have c3b1 : decide (l0.length ≤ 40) = true := decide_eq_true (by omega)
    clear c3
    obtain rfl := Option.some.inj H
    go_enter Tryd.func16, Tryd.ntmps16
    go_wp2
    go_ret
    exact ⟨by first | rfl | (simp; done) | (simp [*]; done), by repeat (first | exact Drawn0.refl _ | apply Drawn0.step)⟩
  · rw [if_neg c3] at H
    have c3b0 : decide ((l0.length : Int) ≤ 40) = false := decide_eq_false c3
    have c3b1 : decide (l0.length ≤ 40) = false := decide_eq_false (by omega)
    clear c3
    obtain rfl := Option.some.inj H
    go_enter Tryd.func16, Tryd.ntmps16
    go_wp2
    go_ret
    exact ⟨by first | rfl | (simp; done) | (simp [*]; done), by repeat (first | exact Drawn0.refl _ | apply Drawn0.step)⟩

end Go.Proofs.YtglalkenkmijkaaDoor.PAll
namespace Go.Proofs.YtglalkenkmijkaaDoor.PAll
open Go.RowKit Go.Proofs.YtglalkenkmijkaaDoorW.PrintWords Go.Proofs.YtglalkenkmijkaaDoorW.PrintLast Go.Proofs.YtglalkenkmijkaaDoorW.PrintMore
attribute [local go_sem] max2_int min2_int max_two min_two max_three min_three max_four min_four   -- for this text's walks alone
set_option linter.unusedVariables false
set_option linter.unusedSimpArgs false

/-! ### clocheref08_determinant: function 72 -/
mutual
def clocheref08_determinant.l0 : Nat → List Int → Int → Int → Int → Int → List Int → Int → Option (List Int)
  | 0, _, _, _, _, _, _, _ => none
  | k + 1, x0, x1, x2, x3, x4, x5, x12 => if x12 < (x0.length : Int) then (if 0 ≤ x12 then (if (Int.tmod (shr .i64 x2 x12) 2) = 1 then (clocheref08_determinant.j1 k x0 x1 x2 x3 x4 x5 x12 true) else (if x12 = x1 then (clocheref08_determinant.j1 k x0 x1 x2 x3 x4 x5 x12 false) else (if 0 ≤ x1 then (if x1 < (x0.length : Int) then (clocheref08_determinant.j1 k x0 x1 x2 x3 x4 x5 x12 ((Int.tmod (shr .i64 (rd x0 x1) x12) 2) == 0)) else (none)) else (none)))) else (none)) else (some x5)
def clocheref08_determinant.j1 : Nat → List Int → Int → Int → Int → Int → List Int → Int → Bool → Option (List Int)
  | 0, _, _, _, _, _, _, _, _ => none
  | k + 1, x0, x1, x2, x3, x4, x5, x12, x51 => if x51 = true then (clocheref08_determinant.l0 k x0 x1 x2 x3 x4 x5 (wrap64 (x12 + 1))) else (clocheref08_determinant.l1 k x0 x1 x2 x3 x4 x5 x12 x4 (wrap64 (x12 + 1)))
def clocheref08_determinant.l1 : Nat → List Int → Int → Int → Int → Int → List Int → Int → Int → Int → Option (List Int)
  | 0, _, _, _, _, _, _, _, _, _ => none
  | k + 1, x0, x1, x2, x3, x4, x5, x12, x13, x14 => if x14 < (x0.length : Int) then (if 0 ≤ x14 then (if (Int.tmod (shr .i64 x2 x14) 2) = 1 then (clocheref08_determinant.l1 k x0 x1 x2 x3 x4 x5 x12 (wrap64 (-x13)) (wrap64 (x14 + 1))) else (clocheref08_determinant.l1 k x0 x1 x2 x3 x4 x5 x12 x13 (wrap64 (x14 + 1)))) else (none)) else (if x12 = x1 then (if 0 ≤ x12 then ((clocheref08_determinant.f k x0 (wrap64 (x1 + 1)) (Go.bits .or .i64 x2 (shl .i64 1 x12)) (wrap64 (x3 + 1)) x13 x5).bind fun t224 => (clocheref08_determinant.l0 k x0 x1 x2 x3 x4 t224 (wrap64 (x12 + 1)))) else (none)) else (if 0 ≤ x12 then ((clocheref08_determinant.f k x0 (wrap64 (x1 + 1)) (Go.bits .or .i64 x2 (shl .i64 1 x12)) x3 (wrap64 (-x13)) x5).bind fun t225 => (clocheref08_determinant.l0 k x0 x1 x2 x3 x4 t225 (wrap64 (x12 + 1)))) else (none)))
def clocheref08_determinant.f : Nat → List Int → Int → Int → Int → Int → List Int → Option (List Int)
  | 0, _, _, _, _, _, _ => none
  | k + 1, l0, a1, a2, a3, a4, l5 => if a1 = (l0.length : Int) then (if 0 ≤ a3 then (if a3 < (l5.length : Int) then (some (l5.set (a3 : Int).toNat (wrap64 ((rd l5 a3) + a4)))) else (none)) else (none)) else (clocheref08_determinant.l0 k l0 a1 a2 a3 a4 l5 0)
end
theorem clocheref08_determinant.mono_l : ∀ k, (∀ y0 y1 y2 y3 y4 y5, LeO (clocheref08_determinant.f k y0 y1 y2 y3 y4 y5) (clocheref08_determinant.f (k + 1) y0 y1 y2 y3 y4 y5)) ∧ (∀ y0 y1 y2 y3 y4 y5 y6, LeO (clocheref08_determinant.l0 k y0 y1 y2 y3 y4 y5 y6) (clocheref08_determinant.l0 (k + 1) y0 y1 y2 y3 y4 y5 y6)) ∧ (∀ y0 y1 y2 y3 y4 y5 y6 y7, LeO (clocheref08_determinant.j1 k y0 y1 y2 y3 y4 y5 y6 y7) (clocheref08_determinant.j1 (k + 1) y0 y1 y2 y3 y4 y5 y6 y7)) ∧ (∀ y0 y1 y2 y3 y4 y5 y6 y7 y8, LeO (clocheref08_determinant.l1 k y0 y1 y2 y3 y4 y5 y6 y7 y8) (clocheref08_determinant.l1 (k + 1) y0 y1 y2 y3 y4 y5 y6 y7 y8))
  | 0 => ⟨fun _ _ _ _ _ _ r h => by simp [clocheref08_determinant.f] at h, fun _ _ _ _ _ _ _ r h => by simp [clocheref08_determinant.l0] at h, fun _ _ _ _ _ _ _ _ r h => by simp [clocheref08_determinant.j1] at h, fun _ _ _ _ _ _ _ _ _ r h => by simp [clocheref08_determinant.l1] at h⟩
  | k + 1 => by
    obtain ⟨ih0, ih1, ih2, ih3⟩ := clocheref08_determinant.mono_l k
    refine ⟨?_, ?_, ?_, ?_⟩
    · intro y0 y1 y2 y3 y4 y5
      unfold clocheref08_determinant.f
      repeat' first
      | (with_reducible exact ih0 _ _ _ _ _ _)
      | (with_reducible exact ih1 _ _ _ _ _ _ _)
      | (with_reducible exact ih2 _ _ _ _ _ _ _ _)
      | (with_reducible exact ih3 _ _ _ _ _ _ _ _ _)
      | (with_reducible exact LeO.refl _)
      | (with_reducible exact LeO.none _)
      | (with_reducible refine LeO.ite ?_ ?_)
      | (with_reducible refine LeO.bind ?_ (fun _ => ?_))
      | exact ih0 _ _ _ _ _ _
      | exact ih1 _ _ _ _ _ _ _
      | exact ih2 _ _ _ _ _ _ _ _
      | exact ih3 _ _ _ _ _ _ _ _ _
      | exact LeO.none _
      | refine LeO.ite ?_ ?_
      | refine LeO.bind ?_ (fun _ => ?_)
    · intro y0 y1 y2 y3 y4 y5 y6
      unfold clocheref08_determinant.l0
      repeat' first
      | (with_reducible exact ih0 _ _ _ _ _ _)
      | (with_reducible exact ih1 _ _ _ _ _ _ _)
      | (with_reducible exact ih2 _ _ _ _ _ _ _ _)
      | (with_reducible exact ih3 _ _ _ _ _ _ _ _ _)
      | (with_reducible exact LeO.refl _)
      | (with_reducible exact LeO.none _)
      | (with_reducible refine LeO.ite ?_ ?_)
      | (with_reducible refine LeO.bind ?_ (fun _ => ?_))
      | exact ih0 _ _ _ _ _ _
      | exact ih1 _ _ _ _ _ _ _
      | exact ih2 _ _ _ _ _ _ _ _
      | exact ih3 _ _ _ _ _ _ _ _ _
      | exact LeO.none _
      | refine LeO.ite ?_ ?_
      | refine LeO.bind ?_ (fun _ => ?_)
    · intro y0 y1 y2 y3 y4 y5 y6 y7
      unfold clocheref08_determinant.j1
      repeat' first
      | (with_reducible exact ih0 _ _ _ _ _ _)
      | (with_reducible exact ih1 _ _ _ _ _ _ _)
      | (with_reducible exact ih2 _ _ _ _ _ _ _ _)
      | (with_reducible exact ih3 _ _ _ _ _ _ _ _ _)
      | (with_reducible exact LeO.refl _)
      | (with_reducible exact LeO.none _)
      | (with_reducible refine LeO.ite ?_ ?_)
      | (with_reducible refine LeO.bind ?_ (fun _ => ?_))
      | exact ih0 _ _ _ _ _ _
      | exact ih1 _ _ _ _ _ _ _
      | exact ih2 _ _ _ _ _ _ _ _
      | exact ih3 _ _ _ _ _ _ _ _ _
      | exact LeO.none _
      | refine LeO.ite ?_ ?_
      | refine LeO.bind ?_ (fun _ => ?_)
    · intro y0 y1 y2 y3 y4 y5 y6 y7 y8
      unfold clocheref08_determinant.l1
      repeat' first
      | (with_reducible exact ih0 _ _ _ _ _ _)
      | (with_reducible exact ih1 _ _ _ _ _ _ _)
      | (with_reducible exact ih2 _ _ _ _ _ _ _ _)
      | (with_reducible exact ih3 _ _ _ _ _ _ _ _ _)
      | (with_reducible exact LeO.refl _)
      | (with_reducible exact LeO.none _)
      | (with_reducible refine LeO.ite ?_ ?_)
      | (with_reducible refine LeO.bind ?_ (fun _ => ?_))
      | exact ih0 _ _ _ _ _ _
      | exact ih1 _ _ _ _ _ _ _
      | exact ih2 _ _ _ _ _ _ _ _
      | exact ih3 _ _ _ _ _ _ _ _ _
      | exact LeO.none _
      | refine LeO.ite ?_ ?_
      | refine LeO.bind ?_ (fun _ => ?_)
theorem clocheref08_determinant.mono : ∀ a0 a1 a2 a3 a4 a5 k, LeO (clocheref08_determinant.f k a0 a1 a2 a3 a4 a5) (clocheref08_determinant.f (k + 1) a0 a1 a2 a3 a4 a5) := by
  intro a0 a1 a2 a3 a4 a5 k
  obtain ⟨ih0, ih1, ih2, ih3⟩ := clocheref08_determinant.mono_l k
  exact ih0 a0 a1 a2 a3 a4 a5
set_option maxHeartbeats 8000000 in
set_option maxRecDepth 100000 in
theorem clocheref08_determinant.calls (k : Nat) : ∀ (A0 : Option Addr) (c0 : Nat) (l0 : List Int) (a1 : Int) (a2 : Int) (a3 : Int) (a4 : Int) (P5_ : Nat → Prop) (u9000_ : Value) (l5 : List Int) (r : List Int) (w0 w : World) (hB : Below w0.heap.size w0 w) (hr0 : ∀ W_, Kept w W_ (fun k_ => P5_ k_) → Kd.C (Kd.int .i64) W_ A0 l0.length l0) (hc0 : l0.length ≤ c0) (ho5 : Kd.R (Kd.int .i64) 3 w w0.heap.size P5_ u9000_ l5) (h : clocheref08_determinant.f k l0 a1 a2 a3 a4 l5 = some r),
    Calls Tryd.prog 72 #[.slice A0 l0.length c0, .int .i64 a1, .int .i64 a2, .int .i64 a3, .int .i64 a4, u9000_] w fun e w' => e = .returned (.tuple #[]) ∧ Kd.R (Kd.int .i64) 3 w' w0.heap.size (fun k_ => (P5_ k_ ∨ w.heap.size ≤ k_)) u9000_ r ∧ Below w0.heap.size w0 w' ∧ Kept w w' (fun k_ => P5_ k_) := by
  induction k using Nat.strongRecOn with
  | _ k ih =>
  intro A0 c0 l0 a1 a2 a3 a4 P5_ u9000_ l5 r w0 w hB hr0 hc0 ho5 h
  cases k with
  | zero => exact absurd h (by simp [clocheref08_determinant.f])
  | succ k =>
  simp only [clocheref08_determinant.f] at h
  have HR0 := Aside0.mk hr0
  have HC0 := Aside0.mk hc0
  clear hr0 hc0
  have HO5 := Aside0.mk (show Kd.R (Kd.int .i64) 3 w w0.heap.size (fun k_ => (P5_ k_ ∨ w.heap.size ≤ k_)) u9000_ l5 from Kd.R_mono ho5 (fun k_ hk => (.inl hk)))
  have HK := Aside0.mk (Kept.refl w (fun k_ => P5_ k_))
  have HW0 := Aside0.mk hB.size
  have HB := Aside0.mk hB
  clear hB
  have H : (if a1 = (l0.length : Int) then (if 0 ≤ a3 then (if a3 < (l5.length : Int) then (some (l5.set (a3 : Int).toNat (wrap64 ((rd l5 a3) + a4)))) else (none)) else (none)) else (clocheref08_determinant.l0 k l0 a1 a2 a3 a4 l5 0)) = some r := h
  clear h
  by_cases c7 : a1 = (l0.length : Int)
  · rw [if_pos c7] at H
    have c7b0 : (a1 == (l0.length : Int)) = true := beq_iff_eq.mpr c7
    have c7b1 : (a1 != (l0.length : Int)) = false := bne_eq_false_iff_eq.mpr c7
    clear c7
    by_cases c8 : 0 ≤ a3
    · rw [if_pos c8] at H
      have c8b0 : decide (0 ≤ a3) = true := decide_eq_true c8
      clear c8
      by_cases c9 : a3 < (l5.length : Int)
      · rw [if_pos c9] at H
        have c9b0 : decide (a3 < (l5.length : Int)) = true := decide_eq_true c9
        clear c9
        obtain ⟨y222, hy222⟩ : ∃ y_ : List Int, y_ = (l5.set (a3 : Int).toNat (wrap64 ((rd l5 a3) + a4))) := ⟨_, rfl⟩
        replace H : (some y222) = some r := by first | (rw [hy222]; with_reducible exact H) | (have H2_ := (Option.bind_some _ _).symm.trans H; rw [hy222]; with_reducible exact H2_) | (have H2_ := (Option.bind_some _ _).symm.trans H; with_reducible exact H2_) | with_reducible exact H | (rw [hy222]; exact H) | exact H
        have Ny222 := Aside0.mk hy222
        clear hy222
        obtain rfl := Option.some.inj H
        obtain ⟨Ao11, co11, eo11⟩ := Kd.R_slice HO5.out
        subst eo11
        have p221 : 0 ≤ (a3 : Int) := of_decide_eq_true (by first | (with_reducible assumption) | assumption)
        have q221 : a3 < (l5.length : Int) := of_decide_eq_true (by first | (with_reducible assumption) | assumption)
        obtain ⟨ad221, e221, hx221_0⟩ := Kd.at_int (Kd.R_reads' HO5.out).2.2 a3 p221 q221
        cases e221
        replace p221 := eq_true p221
        replace q221 := eq_true q221
        have p10 : 0 ≤ (a3 : Int) := of_decide_eq_true (by first | (with_reducible assumption) | assumption)
        have q10 : (a3 : Int) < ((l5.length : Int) : Int) := of_decide_eq_true (by first | (with_reducible assumption) | assumption)
        obtain ⟨go10, co10, eo10, gb10, gl10, cl10, HG10⟩ := Kd.R_form HO5.out (by omega)
        (first | cases eo10 | (injection eo10 with ea_ en_ ec_; (first | subst ea_ | (injection ea_ with ea_; subst ea_)); subst ec_; clear en_))
        have GB10 := Aside0.mk gb10
        have GG10 := Aside0.mk HG10
        clear gb10 gl10 HG10
        have HMgo10 := Aside0.mk (show (P5_ go10 ∨ w.heap.size ≤ go10) from (HO5.out.1 _ rfl))
        (first | simp only [add_plain] at hx221_0 | skip)
        obtain ⟨hx10_0, hf10_0⟩ := Kd.R_celln 0 HO5.out (a3 : Int) p10 q10
        replace p10 := eq_true p10
        replace q10 := eq_true q10
        have HP12 := Kd.R_putg HO5.out (a3 : Int) (wrap64 ((rd l5 a3) + a4))
        go_enter Tryd.func72, Tryd.ntmps72
        go_wp2_with (first | ((with_reducible refine gate_store (t := 3) (p := 25) rfl ?_); refine store_event (t := 3) (p := 25) (v := ?vo_w13) (w1 := (w.setCell ⟨go10, (a3 : Int).toNat, none⟩ (.int .i64 (wrap64 ((rd l5 a3) + a4))))) ?hg ?ho ?hn ?hr ?_; (case ho => rfl); (case hg => rfl); (case hn => rfl); (case hr => first | (go_simp; done) | (go_simp; rfl)); intro w13 hw; have hg : w.grownBy w13 (some go10) := (by rw [hw]; exact HP12.2); have hp_ : Kd.R (Kd.int .i64) 3 w13 w0.heap.size (fun k_ => (P5_ k_ ∨ w.heap.size ≤ k_)) (.slice (some ⟨go10, 0, none⟩) l5.length co11) y222 := (by rw [hw, Ny222.out]; exact HP12.1); clear HP12; have n0_ := Aside0.mk (hp_); have n1_ := Aside0.mk ((by rw [hw]; exact below_set (HB.out) GB10.out : Below w0.heap.size w0 w13)); have n2_ := Aside0.mk (Kept.of_grown (S := (fun k_ => P5_ k_)) hg (by repeat (first | (with_reducible first | exact HK.out | apply Kept.alloc | apply Kept.drewN | apply Kept.drew) | exact HK.out)) (fun k_ e_ => (HO5.out.1 k_ e_))); clear HO5; clear HB; clear HK; have HO5 := n0_; have HB := n1_; have HK := n2_; clear n0_ n1_ n2_; clear hg hw hp_))
        first | go_end0 | ((try simp only [Exit.inBlock, Exit.then]); refine bodyPost_ret (results_none rfl _ _ _) rfl ?_)
        exact ⟨by first | rfl | (simp [errW_none, errW_some] <;> rfl) | (simp [*, errW_none, errW_some] <;> rfl), by (with_reducible repeat (first | apply Kd.R_alloc | apply Kd.R_drewN | apply Kd.R_drew)); exact HO5.out, by repeat (first | (with_reducible first | exact HB.out | apply below_alloc | apply pw_below_drewN | apply below_drew1) | exact HB.out), by repeat (first | (with_reducible first | exact HK.out | apply Kept.alloc | apply Kept.drewN | apply Kept.drew) | exact HK.out)⟩
      · rw [if_neg c9] at H
        exact absurd H (by simp)
    · rw [if_neg c8] at H
      exact absurd H (by simp)
  · rw [if_neg c7] at H
    have c7b0 : (a1 == (l0.length : Int)) = false := beq_eq_false_iff_ne.mpr c7
    have c7b1 : (a1 != (l0.length : Int)) = true := bne_iff_ne.mpr c7
    have H' := Aside0.mk H
    clear H
    go_enter Tryd.func72, Tryd.ntmps72
    go_wp2
    go_loopg [12] k (fun kq v12 w' => ∃ (x5_1 : List Int) (x12_1 : Int), v12 = .int .i64 x12_1 ∧ Aside0 (clocheref08_determinant.l0 kq l0 a1 a2 a3 a4 x5_1 x12_1 = some r) ∧ Aside0 (kq ≤ k) ∧ Aside0 (Kd.R (Kd.int .i64) 3 w' w0.heap.size (fun k_ => (P5_ k_ ∨ w.heap.size ≤ k_)) u9000_ x5_1) ∧ Aside0 (Kept w w' (fun k_ => P5_ k_)) ∧ Aside0 (Below w0.heap.size w0 w'))
    case atStart => exact ⟨(l5), (0), (by first | rfl | (simp; done) | (simp [*]; done)), H', ⟨Nat.le_refl _⟩, ⟨by (with_reducible repeat (first | apply Kd.R_alloc | apply Kd.R_drewN | apply Kd.R_drew)); exact HO5.out⟩, ⟨by repeat (first | (with_reducible first | exact HK.out | apply Kept.alloc | apply Kept.drewN | apply Kept.drew) | exact HK.out)⟩, ⟨by repeat (first | (with_reducible first | exact HB.out | apply below_alloc | apply pw_below_drewN | apply below_drew1) | exact HB.out)⟩⟩
    case round =>
      clear H'
      try clear p1
      try clear q1
      try clear hx1
      try clear p2
      try clear q2
      try clear hx2
      try clear p6
      try clear c7
      try clear c7b0
      try clear c7b1
      try clear c8
      try clear c8b0
      try clear c9
      try clear c9b0
      try clear p10
      try clear q10
      try clear hx10
      try clear hf10
      try clear hx10_0
      try clear hx221_0
      try clear p10
      try clear p221
      try clear q10
      try clear q221
      obtain ⟨x5_1, x12_1, rfl, HA, HK1, HO_5, HK, HB⟩ := hrel
      cases gk with
      | zero => exact absurd HA.out (by simp [clocheref08_determinant.l0])
      | succ k1 =>
        have H := HA.out
        clear HA
        simp only [clocheref08_determinant.l0] at H
        by_cases c14 : x12_1 < (l0.length : Int)
        · rw [if_pos c14] at H
          have c14b0 : decide (x12_1 < (l0.length : Int)) = true := decide_eq_true c14
          clear c14
          have HC15 := Aside0.mk H
          clear H
          go_upto_region 5 with (fail)
          go_cut [51] (fun v51 wc => ∃ (kq : Nat) (x51_14 : Bool), v51 = .bool x51_14 ∧ Aside0 (clocheref08_determinant.j1 kq l0 a1 a2 a3 a4 x5_1 x12_1 x51_14 = some r) ∧ Aside0 (kq ≤ k1) ∧ Aside0 (Kd.R (Kd.int .i64) 3 wc w0.heap.size (fun k_ => (P5_ k_ ∨ w.heap.size ≤ k_)) u9000_ x5_1) ∧ Aside0 (Kept w wc (fun k_ => P5_ k_)) ∧ Aside0 (Below w0.heap.size w0 wc))
          case first =>
            have H := HC15.out
            clear HC15
            by_cases c16 : 0 ≤ x12_1
            · rw [if_pos c16] at H
              have c16b0 := eq_true c16
              have c16b1 : decide (0 ≤ x12_1) = true := decide_eq_true c16
              clear c16
              obtain ⟨ji17, hji17⟩ : ∃ j_ : Int, (shr .i64 a2 x12_1) = j_ := ⟨_, rfl⟩
              replace H : (if (Int.tmod (ji17) 2) = 1 then (clocheref08_determinant.j1 k1 l0 a1 a2 a3 a4 x5_1 x12_1 true) else (if x12_1 = a1 then (clocheref08_determinant.j1 k1 l0 a1 a2 a3 a4 x5_1 x12_1 false) else (if 0 ≤ a1 then (if a1 < (l0.length : Int) then (clocheref08_determinant.j1 k1 l0 a1 a2 a3 a4 x5_1 x12_1 ((Int.tmod (shr .i64 (rd l0 a1) x12_1) 2) == 0)) else (none)) else (none)))) = some r := by first | (rw [hji17] at H; exact H) | (simp only [hji17] at H ⊢; exact H)
              have hji17_ : (a2 / 2 ^ min x12_1.toNat 64) = ji17 := hji17
              have hji17z : x12_1 ≤ 64 → (a2 / 2 ^ x12_1.toNat) = ji17 := shr_small hji17
              by_cases c18 : (Int.tmod (ji17) 2) = 1
              · rw [if_pos c18] at H
                have c18b0 : ((Int.tmod (ji17) 2) == 1) = true := beq_iff_eq.mpr c18
                have c18b1 : ((Int.tmod (ji17) 2) != 1) = false := bne_eq_false_iff_eq.mpr c18
                clear c18
                (first | rw [c18b0] | (simp only [i64_w, i32_w]; rw [c18b0]) | skip)
                have H' := Aside0.mk H
                clear H
                go_wp2
                go_meet
                case rel => exact ⟨_, (true), (by first | rfl | (simp; done) | (simp [*]; done)), H', ⟨by have := HK1.out; first | omega | exact Nat.le_refl _⟩, ⟨by (with_reducible repeat (first | apply Kd.R_alloc | apply Kd.R_drewN | apply Kd.R_drew)); exact HO_5.out⟩, ⟨by repeat (first | (with_reducible first | exact HK.out | apply Kept.alloc | apply Kept.drewN | apply Kept.drew) | exact HK.out)⟩, ⟨by repeat (first | (with_reducible first | exact HB.out | apply below_alloc | apply pw_below_drewN | apply below_drew1) | exact HB.out)⟩⟩
              · rw [if_neg c18] at H
                have c18b0 : ((Int.tmod (ji17) 2) == 1) = false := beq_eq_false_iff_ne.mpr c18
                have c18b1 : ((Int.tmod (ji17) 2) != 1) = true := bne_iff_ne.mpr c18
                (first | rw [c18b0] | (simp only [i64_w, i32_w]; rw [c18b0]) | skip)
                by_cases c19 : x12_1 = a1
                · rw [if_pos c19] at H
                  have c19b0 : (x12_1 == a1) = true := beq_iff_eq.mpr c19
                  have c19b1 : (x12_1 != a1) = false := bne_eq_false_iff_eq.mpr c19
                  clear c19
                  have H' := Aside0.mk H
                  clear H
                  go_wp2
                  go_meet
                  case rel => exact ⟨_, (false), (by first | rfl | (simp; done) | (simp [*]; done)), H', ⟨by have := HK1.out; first | omega | exact Nat.le_refl _⟩, ⟨by (with_reducible repeat (first | apply Kd.R_alloc | apply Kd.R_drewN | apply Kd.R_drew)); exact HO_5.out⟩, ⟨by repeat (first | (with_reducible first | exact HK.out | apply Kept.alloc | apply Kept.drewN | apply Kept.drew) | exact HK.out)⟩, ⟨by repeat (first | (with_reducible first | exact HB.out | apply below_alloc | apply pw_below_drewN | apply below_drew1) | exact HB.out)⟩⟩
                · rw [if_neg c19] at H
                  have c19b0 : (x12_1 == a1) = false := beq_eq_false_iff_ne.mpr c19
                  have c19b1 : (x12_1 != a1) = true := bne_iff_ne.mpr c19
                  by_cases c20 : 0 ≤ a1
                  · rw [if_pos c20] at H
                    have c20b0 : decide (0 ≤ a1) = true := decide_eq_true c20
                    clear c20
                    by_cases c21 : a1 < (l0.length : Int)
                    · rw [if_pos c21] at H
                      have c21b0 : decide (a1 < (l0.length : Int)) = true := decide_eq_true c21
                      clear c21
                      have c22b0 := eq_true (of_decide_eq_true (by first | (with_reducible assumption) | assumption) : 0 ≤ x12_1)
                      obtain ⟨ji23, hji23⟩ : ∃ j_ : Int, (shr .i64 (rd l0 a1) x12_1) = j_ := ⟨_, rfl⟩
                      replace H : (clocheref08_determinant.j1 k1 l0 a1 a2 a3 a4 x5_1 x12_1 ((Int.tmod (ji23) 2) == 0)) = some r := by first | (rw [hji23] at H; exact H) | (simp only [hji23] at H ⊢; exact H)
                      have hji23_ : ((rd l0 a1) / 2 ^ min x12_1.toNat 64) = ji23 := hji23
                      have hji23z : x12_1 ≤ 64 → ((rd l0 a1) / 2 ^ x12_1.toNat) = ji23 := shr_small hji23
                      have H' := Aside0.mk H
                      clear H
                      have p223 : 0 ≤ (a1 : Int) := of_decide_eq_true (by first | (with_reducible assumption) | assumption)
                      have q223 : a1 < (l0.length : Int) := of_decide_eq_true (by first | (with_reducible assumption) | assumption)
                      obtain ⟨ad223, e223, hx223_0⟩ := Kd.at_int (Kd.C_kept_now HR0.out HK.out) a1 p223 q223
                      cases e223
                      replace p223 := eq_true p223
                      replace q223 := eq_true q223
                      go_wp2
                      go_meet
                      case rel => exact ⟨_, (((Int.tmod (ji23) 2) == 0)), (by first | rfl | (simp; done) | (simp only [← hji23] <;> (first | rfl | simp)) | (simp [*]; done)), H', ⟨by have := HK1.out; first | omega | exact Nat.le_refl _⟩, ⟨by (with_reducible repeat (first | apply Kd.R_alloc | apply Kd.R_drewN | apply Kd.R_drew)); exact HO_5.out⟩, ⟨by repeat (first | (with_reducible first | exact HK.out | apply Kept.alloc | apply Kept.drewN | apply Kept.drew) | exact HK.out)⟩, ⟨by repeat (first | (with_reducible first | exact HB.out | apply below_alloc | apply pw_below_drewN | apply below_drew1) | exact HB.out)⟩⟩
                    · rw [if_neg c21] at H
                      exact absurd H (by simp)
                  · rw [if_neg c20] at H
                    exact absurd H (by simp)
            · rw [if_neg c16] at H
              exact absurd H (by simp)
          case rest =>
            clear HC15
            try clear c1
            try clear p1
            try clear q1
            try clear hx1
            try clear c2
            try clear p2
            try clear q2
            try clear hx2
            try clear p6
            try clear c7
            try clear c7b0
            try clear c7b1
            try clear c8
            try clear c8b0
            try clear c9
            try clear c9b0
            try clear p10
            try clear q10
            try clear hx10
            try clear hf10
            try clear c14
            try clear c14b0
            try clear c16
            try clear c16b0
            try clear c16b1
            try clear c18
            try clear c18b0
            try clear c18b1
            try clear c19
            try clear c19b0
            try clear c19b1
            try clear c20
            try clear c20b0
            try clear c21
            try clear c21b0
            try clear c22
            try clear c22b0
            try clear p22
            try clear q22
            try clear hx22
            try clear hx10_0
            try clear hx221_0
            try clear hx223_0
            try clear p1
            try clear p10
            try clear p2
            try clear p221
            try clear p223
            try clear p6
            try clear q1
            try clear q10
            try clear q2
            try clear q221
            try clear q223
            obtain ⟨kq, x51_14, rfl, HA, HJ14, HO_5, HK, HB⟩ := hcut
            cases kq with
            | zero => exact absurd HA.out (by simp [clocheref08_determinant.j1])
            | succ kj14 =>
              have H := HA.out
              clear HA
              simp only [clocheref08_determinant.j1] at H
              by_cases c24 : x51_14 = true
              · subst c24
                have H1 : (clocheref08_determinant.l0 kj14 l0 a1 a2 a3 a4 x5_1 (wrap64 (x12_1 + 1))) = some r := by rw [if_pos rfl] at H; exact H
                clear H
                have H := H1
                clear H1
                have H' := Aside0.mk H
                clear H
                go_wp2
                go_roundg kj14
                case measure => have := HK1.out; have := HJ14.out; omega
                case rel => exact ⟨(x5_1), (wrap64 (x12_1 + 1)), (by first | rfl | (simp; done) | (simp [*]; done)), H', ⟨by have := HK1.out; have := HJ14.out; omega⟩, ⟨by (with_reducible repeat (first | apply Kd.R_alloc | apply Kd.R_drewN | apply Kd.R_drew)); exact HO_5.out⟩, ⟨by repeat (first | (with_reducible first | exact HK.out | apply Kept.alloc | apply Kept.drewN | apply Kept.drew) | exact HK.out)⟩, ⟨by repeat (first | (with_reducible first | exact HB.out | apply below_alloc | apply pw_below_drewN | apply below_drew1) | exact HB.out)⟩⟩
              · replace c24 := Bool.eq_false_iff.mpr c24
                subst c24
                have H1 : (clocheref08_determinant.l1 kj14 l0 a1 a2 a3 a4 x5_1 x12_1 a4 (wrap64 (x12_1 + 1))) = some r := by rw [if_neg (show ¬ (false = true) by decide)] at H; exact H
                clear H
                have H := H1
                clear H1
                have H' := Aside0.mk H
                clear H
                go_wp2
                go_loopg [13, 14] kj14 (fun kq v13 v14 w' => ∃ (x13_3 : Int) (x14_3 : Int), v13 = .int .i64 x13_3 ∧ v14 = .int .i64 x14_3 ∧ Aside0 (clocheref08_determinant.l1 kq l0 a1 a2 a3 a4 x5_1 x12_1 x13_3 x14_3 = some r) ∧ Aside0 (kq ≤ kj14) ∧ Aside0 (Kd.R (Kd.int .i64) 3 w' w0.heap.size (fun k_ => (P5_ k_ ∨ w.heap.size ≤ k_)) u9000_ x5_1) ∧ Aside0 (Kept w w' (fun k_ => P5_ k_)) ∧ Aside0 (Below w0.heap.size w0 w'))
                case atStart => exact ⟨(a4), (wrap64 (x12_1 + 1)), (by first | rfl | (simp; done) | (simp [*]; done)), (by first | rfl | (simp; done) | (simp [*]; done)), H', ⟨Nat.le_refl _⟩, ⟨by (with_reducible repeat (first | apply Kd.R_alloc | apply Kd.R_drewN | apply Kd.R_drew)); exact HO_5.out⟩, ⟨by repeat (first | (with_reducible first | exact HK.out | apply Kept.alloc | apply Kept.drewN | apply Kept.drew) | exact HK.out)⟩, ⟨by repeat (first | (with_reducible first | exact HB.out | apply below_alloc | apply pw_below_drewN | apply below_drew1) | exact HB.out)⟩⟩
                case round =>
                  clear H'
                  try clear c1
                  try clear p1
                  try clear q1
                  try clear hx1
                  try clear c2
                  try clear p2
                  try clear q2
                  try clear hx2
                  try clear p6
                  try clear c7
                  try clear c7b0
                  try clear c7b1
                  try clear c8
                  try clear c8b0
                  try clear c9
                  try clear c9b0
                  try clear p10
                  try clear q10
                  try clear hx10
                  try clear hf10
                  try clear c14
                  try clear c14b0
                  try clear c16
                  try clear c16b0
                  try clear c16b1
                  try clear c18
                  try clear c18b0
                  try clear c18b1
                  try clear c19
                  try clear c19b0
                  try clear c19b1
                  try clear c20
                  try clear c20b0
                  try clear c21
                  try clear c21b0
                  try clear c22
                  try clear c22b0
                  try clear p22
                  try clear q22
                  try clear hx22
                  try clear c24
                  try clear hx10_0
                  try clear hx221_0
                  try clear hx223_0
                  try clear p1
                  try clear p10
                  try clear p2
                  try clear p22
                  try clear p221
                  try clear p223
                  try clear p6
                  try clear q1
                  try clear q10
                  try clear q2
                  try clear q22
                  try clear q221
                  try clear q223
                  obtain ⟨x13_3, x14_3, rfl, rfl, HA, HK3, HO_5, HK, HB⟩ := hrel
                  cases gk with
                  | zero => exact absurd HA.out (by simp [clocheref08_determinant.l1])
                  | succ k3 =>
                    have H := HA.out
                    clear HA
                    simp only [clocheref08_determinant.l1] at H
                    by_cases c25 : x14_3 < (l0.length : Int)
                    · rw [if_pos c25] at H
                      have c25b0 : decide (x14_3 < (l0.length : Int)) = true := decide_eq_true c25
                      clear c25
                      by_cases c26 : 0 ≤ x14_3
                      · rw [if_pos c26] at H
                        have c26b0 := eq_true c26
                        have c26b1 : decide (0 ≤ x14_3) = true := decide_eq_true c26
                        clear c26
                        obtain ⟨ji27, hji27⟩ : ∃ j_ : Int, (shr .i64 a2 x14_3) = j_ := ⟨_, rfl⟩
                        replace H : (if (Int.tmod (ji27) 2) = 1 then (clocheref08_determinant.l1 k3 l0 a1 a2 a3 a4 x5_1 x12_1 (wrap64 (-x13_3)) (wrap64 (x14_3 + 1))) else (clocheref08_determinant.l1 k3 l0 a1 a2 a3 a4 x5_1 x12_1 x13_3 (wrap64 (x14_3 + 1)))) = some r := by first | (rw [hji27] at H; exact H) | (simp only [hji27] at H ⊢; exact H)
                        have hji27_ : (a2 / 2 ^ min x14_3.toNat 64) = ji27 := hji27
                        have hji27z : x14_3 ≤ 64 → (a2 / 2 ^ x14_3.toNat) = ji27 := shr_small hji27
                        by_cases c28 : (Int.tmod (ji27) 2) = 1
                        · rw [if_pos c28] at H
                          have c28b0 : ((Int.tmod (ji27) 2) == 1) = true := beq_iff_eq.mpr c28
                          have c28b1 : ((Int.tmod (ji27) 2) != 1) = false := bne_eq_false_iff_eq.mpr c28
                          clear c28
                          have H' := Aside0.mk H
                          clear H
                          go_wp2
                          go_roundg k3
                          case measure => have := HK1.out; have := HJ14.out; have := HK3.out; omega
                          case rel => exact ⟨(wrap64 (-x13_3)), (wrap64 (x14_3 + 1)), (by first | rfl | (simp; done) | (simp [*]; done)), (by first | rfl | (simp; done) | (simp [*]; done)), H', ⟨by have := HK1.out; have := HJ14.out; have := HK3.out; omega⟩, ⟨by (with_reducible repeat (first | apply Kd.R_alloc | apply Kd.R_drewN | apply Kd.R_drew)); exact HO_5.out⟩, ⟨by repeat (first | (with_reducible first | exact HK.out | apply Kept.alloc | apply Kept.drewN | apply Kept.drew) | exact HK.out)⟩, ⟨by repeat (first | (with_reducible first | exact HB.out | apply below_alloc | apply pw_below_drewN | apply below_drew1) | exact HB.out)⟩⟩
                        · rw [if_neg c28] at H
                          have c28b0 : ((Int.tmod (ji27) 2) == 1) = false := beq_eq_false_iff_ne.mpr c28
                          have c28b1 : ((Int.tmod (ji27) 2) != 1) = true := bne_iff_ne.mpr c28
                          have H' := Aside0.mk H
                          clear H
                          go_wp2
                          go_roundg k3
                          case measure => have := HK1.out; have := HJ14.out; have := HK3.out; omega
                          case rel => exact ⟨(x13_3), (wrap64 (x14_3 + 1)), (by first | rfl | (simp; done) | (simp [*]; done)), (by first | rfl | (simp; done) | (simp [*]; done)), H', ⟨by have := HK1.out; have := HJ14.out; have := HK3.out; omega⟩, ⟨by (with_reducible repeat (first | apply Kd.R_alloc | apply Kd.R_drewN | apply Kd.R_drew)); exact HO_5.out⟩, ⟨by repeat (first | (with_reducible first | exact HK.out | apply Kept.alloc | apply Kept.drewN | apply Kept.drew) | exact HK.out)⟩, ⟨by repeat (first | (with_reducible first | exact HB.out | apply below_alloc | apply pw_below_drewN | apply below_drew1) | exact HB.out)⟩⟩
                      · rw [if_neg c26] at H
                        exact absurd H (by simp)
                    · rw [if_neg c25] at H
                      have c25b0 : decide (x14_3 < (l0.length : Int)) = false := decide_eq_false c25
                      clear c25
                      by_cases c29 : x12_1 = a1
                      · rw [if_pos c29] at H
                        have c29b0 : (x12_1 == a1) = true := beq_iff_eq.mpr c29
                        have c29b1 : (x12_1 != a1) = false := bne_eq_false_iff_eq.mpr c29
                        clear c29
                        by_cases c30 : 0 ≤ x12_1
                        · rw [if_pos c30] at H
                          have c30b0 := eq_true c30
                          have c30b1 : decide (0 ≤ x12_1) = true := decide_eq_true c30
                          clear c30
                          obtain ⟨ji31, hji31⟩ : ∃ j_ : Int, (shl .i64 1 x12_1) = j_ := ⟨_, rfl⟩
                          replace H : ((clocheref08_determinant.f k3 l0 (wrap64 (a1 + 1)) (Go.bits .or .i64 a2 (ji31)) (wrap64 (a3 + 1)) x13_3 x5_1).bind fun t224 => (clocheref08_determinant.l0 k3 l0 a1 a2 a3 a4 t224 (wrap64 (x12_1 + 1)))) = some r := by first | (rw [hji31] at H; exact H) | (simp only [hji31] at H ⊢; exact H)
                          have hji31_ : (IntKind.i64.wrap (1 * 2 ^ min x12_1.toNat 64)) = ji31 := hji31
                          have hji31z : x12_1 ≤ 64 → (IntKind.i64.wrap (1 * 2 ^ x12_1.toNat)) = ji31 := shl_small hji31
                          have hji31u : (IntKind.i64.wrap (2 ^ min x12_1.toNat 64)) = ji31 := by have h_ := hji31_; rw [Int.one_mul] at h_; exact h_
                          have hji31v : x12_1 ≤ 64 → (IntKind.i64.wrap (2 ^ x12_1.toNat)) = ji31 := fun hle_ => by have h_ := hji31z hle_; rw [Int.one_mul] at h_; exact h_
                          have hji31y : (wrap64 (1 * 2 ^ min x12_1.toNat 64)) = ji31 := (i64_w _).symm.trans hji31_
                          have hji31x : x12_1 ≤ 64 → (wrap64 (1 * 2 ^ x12_1.toNat)) = ji31 := fun h_ => (i64_w _).symm.trans (hji31z h_)
                          replace H := Option.bind_eq_some_iff.mp H
                          obtain ⟨t224, A320, H⟩ := H
                          replace H : (clocheref08_determinant.l0 k3 l0 a1 a2 a3 a4 t224 (wrap64 (x12_1 + 1))) = some r := H
                          have A32 := Aside0.mk A320
                          clear A320
                          have H' := Aside0.mk H
                          clear H
                          obtain ⟨Ao33, co33, eo33⟩ := Kd.R_slice HO_5.out
                          subst eo33
                          go_wp2_with (first | ((with_reducible refine gate_callee (f := 72) rfl ?_); refine goesL_ (some 82) rfl rfl Tryd.func72 (by kernel_rfl) rfl #[.slice A0 l0.length c0, .int .i64 (wrap64 (a1 + 1)), .int .i64 (Go.bits .or .i64 a2 (ji31)), .int .i64 (wrap64 (a3 + 1)), .int .i64 x13_3, .slice Ao33 x5_1.length co33] rfl (by (try simp only [List.map_toArray, List.map_cons, List.map_nil]); first | done | (simp only [hji31]; rfl) | rfl | (simp only [List.length_drop, List.length_take]; rfl)) ?_; (with_reducible refine (ih k3 (by have := HK1.out; have := HJ14.out; have := HK3.out; omega) _ _ l0 (wrap64 (a1 + 1)) (Go.bits .or .i64 a2 (ji31)) (wrap64 (a3 + 1)) x13_3 (fun k_ => some k_ = (.slice Ao33 x5_1.length co33 : Value).ownBlock) (.slice Ao33 x5_1.length co33) x5_1 t224 w0 _ ?side1 ?side2 ?side3 ?side4 A32.out).mono ?_); (case side1 => repeat (first | (with_reducible first | exact HB.out | apply below_alloc | apply pw_below_drewN | apply below_drew1) | exact HB.out)); (case side2 => exact Kd.C_kept_call HR0.out (by repeat (first | (with_reducible first | exact HK.out | apply Kept.alloc | apply Kept.drewN | apply Kept.drew) | exact HK.out)) (fun k_ hs_ => (fun e_ => (HO_5.out.1 k_ e_.symm)) hs_)); (case side3 => exact HC0.out); (case side4 => exact Kd.R_tight rfl HO_5.out); rintro e w34 ⟨rfl, hy0, hb, hkp⟩; refine ⟨_, rfl, ?_⟩; have n0_ := Aside0.mk (Kd.R_reok rfl hy0 (fun k_ e_ => HO_5.out.1 k_ e_)); have n1_ := Aside0.mk (Kept.then_ (S := (fun k_ => P5_ k_)) (by repeat (first | (with_reducible first | exact HK.out | apply Kept.alloc | apply Kept.drewN | apply Kept.drew) | exact HK.out)) hkp (fun k_ hs_ => (fun e_ => (HO_5.out.1 k_ e_.symm)) hs_)); have n2_ := Aside0.mk (hb); clear HO_5; clear HK; clear HB; have HO_5 := n0_; have HK := n1_; have HB := n2_; clear n0_ n1_ n2_; (try clear hb); (try clear hkp); (try clear hy0)))
                          go_roundg k3
                          case measure => have := HK1.out; have := HJ14.out; have := HK3.out; omega
                          case rel => exact ⟨(t224), (wrap64 (x12_1 + 1)), (by first | rfl | (simp; done) | (simp [*]; done)), H', ⟨by have := HK1.out; have := HJ14.out; have := HK3.out; omega⟩, ⟨by (with_reducible repeat (first | apply Kd.R_alloc | apply Kd.R_drewN | apply Kd.R_drew)); exact HO_5.out⟩, ⟨by repeat (first | (with_reducible first | exact HK.out | apply Kept.alloc | apply Kept.drewN | apply Kept.drew) | exact HK.out)⟩, ⟨by repeat (first | (with_reducible first | exact HB.out | apply below_alloc | apply pw_below_drewN | apply below_drew1) | exact HB.out)⟩⟩
                        · rw [if_neg c30] at H
                          exact absurd H (by simp)
                      · rw [if_neg c29] at H
                        have c29b0 : (x12_1 == a1) = false := beq_eq_false_iff_ne.mpr c29
                        have c29b1 : (x12_1 != a1) = true := bne_iff_ne.mpr c29
                        by_cases c35 : 0 ≤ x12_1
                        · rw [if_pos c35] at H
                          have c35b0 := eq_true c35
                          have c35b1 : decide (0 ≤ x12_1) = true := decide_eq_true c35
                          clear c35
                          obtain ⟨ji36, hji36⟩ : ∃ j_ : Int, (shl .i64 1 x12_1) = j_ := ⟨_, rfl⟩
                          replace H : ((clocheref08_determinant.f k3 l0 (wrap64 (a1 + 1)) (Go.bits .or .i64 a2 (ji36)) a3 (wrap64 (-x13_3)) x5_1).bind fun t225 => (clocheref08_determinant.l0 k3 l0 a1 a2 a3 a4 t225 (wrap64 (x12_1 + 1)))) = some r := by first | (rw [hji36] at H; exact H) | (simp only [hji36] at H ⊢; exact H)
                          have hji36_ : (IntKind.i64.wrap (1 * 2 ^ min x12_1.toNat 64)) = ji36 := hji36
                          have hji36z : x12_1 ≤ 64 → (IntKind.i64.wrap (1 * 2 ^ x12_1.toNat)) = ji36 := shl_small hji36
                          have hji36u : (IntKind.i64.wrap (2 ^ min x12_1.toNat 64)) = ji36 := by have h_ := hji36_; rw [Int.one_mul] at h_; exact h_
                          have hji36v : x12_1 ≤ 64 → (IntKind.i64.wrap (2 ^ x12_1.toNat)) = ji36 := fun hle_ => by have h_ := hji36z hle_; rw [Int.one_mul] at h_; exact h_
                          have hji36y : (wrap64 (1 * 2 ^ min x12_1.toNat 64)) = ji36 := (i64_w _).symm.trans hji36_
                          have hji36x : x12_1 ≤ 64 → (wrap64 (1 * 2 ^ x12_1.toNat)) = ji36 := fun h_ => (i64_w _).symm.trans (hji36z h_)
                          replace H := Option.bind_eq_some_iff.mp H
                          obtain ⟨t225, A370, H⟩ := H
                          replace H : (clocheref08_determinant.l0 k3 l0 a1 a2 a3 a4 t225 (wrap64 (x12_1 + 1))) = some r := H
                          have A37 := Aside0.mk A370
                          clear A370
                          have H' := Aside0.mk H
                          clear H
                          obtain ⟨Ao38, co38, eo38⟩ := Kd.R_slice HO_5.out
                          subst eo38
                          go_wp2_with (first | ((with_reducible refine gate_callee (f := 72) rfl ?_); refine goesL_ (some 94) rfl rfl Tryd.func72 (by kernel_rfl) rfl #[.slice A0 l0.length c0, .int .i64 (wrap64 (a1 + 1)), .int .i64 (Go.bits .or .i64 a2 (ji36)), .int .i64 a3, .int .i64 (wrap64 (-x13_3)), .slice Ao38 x5_1.length co38] rfl (by (try simp only [List.map_toArray, List.map_cons, List.map_nil]); first | done | (simp only [hji36]; rfl) | rfl | (simp only [List.length_drop, List.length_take]; rfl)) ?_; (with_reducible refine (ih k3 (by have := HK1.out; have := HJ14.out; have := HK3.out; omega) _ _ l0 (wrap64 (a1 + 1)) (Go.bits .or .i64 a2 (ji36)) a3 (wrap64 (-x13_3)) (fun k_ => some k_ = (.slice Ao38 x5_1.length co38 : Value).ownBlock) (.slice Ao38 x5_1.length co38) x5_1 t225 w0 _ ?side1 ?side2 ?side3 ?side4 A37.out).mono ?_); (case side1 => repeat (first | (with_reducible first | exact HB.out | apply below_alloc | apply pw_below_drewN | apply below_drew1) | exact HB.out)); (case side2 => exact Kd.C_kept_call HR0.out (by repeat (first | (with_reducible first | exact HK.out | apply Kept.alloc | apply Kept.drewN | apply Kept.drew) | exact HK.out)) (fun k_ hs_ => (fun e_ => (HO_5.out.1 k_ e_.symm)) hs_)); (case side3 => exact HC0.out); (case side4 => exact Kd.R_tight rfl HO_5.out); rintro e w39 ⟨rfl, hy0, hb, hkp⟩; refine ⟨_, rfl, ?_⟩; have n0_ := Aside0.mk (Kd.R_reok rfl hy0 (fun k_ e_ => HO_5.out.1 k_ e_)); have n1_ := Aside0.mk (Kept.then_ (S := (fun k_ => P5_ k_)) (by repeat (first | (with_reducible first | exact HK.out | apply Kept.alloc | apply Kept.drewN | apply Kept.drew) | exact HK.out)) hkp (fun k_ hs_ => (fun e_ => (HO_5.out.1 k_ e_.symm)) hs_)); have n2_ := Aside0.mk (hb); clear HO_5; clear HK; clear HB; have HO_5 := n0_; have HK := n1_; have HB := n2_; clear n0_ n1_ n2_; (try clear hb); (try clear hkp); (try clear hy0)))
                          go_roundg k3
                          case measure => have := HK1.out; have := HJ14.out; have := HK3.out; omega
                          case rel => exact ⟨(t225), (wrap64 (x12_1 + 1)), (by first | rfl | (simp; done) | (simp [*]; done)), H', ⟨by have := HK1.out; have := HJ14.out; have := HK3.out; omega⟩, ⟨by (with_reducible repeat (first | apply Kd.R_alloc | apply Kd.R_drewN | apply Kd.R_drew)); exact HO_5.out⟩, ⟨by repeat (first | (with_reducible first | exact HK.out | apply Kept.alloc | apply Kept.drewN | apply Kept.drew) | exact HK.out)⟩, ⟨by repeat (first | (with_reducible first | exact HB.out | apply below_alloc | apply pw_below_drewN | apply below_drew1) | exact HB.out)⟩⟩
                        · rw [if_neg c35] at H
                          exact absurd H (by simp)
        · rw [if_neg c14] at H
          have c14b0 : decide (x12_1 < (l0.length : Int)) = false := decide_eq_false c14
          clear c14
          obtain rfl := Option.some.inj H
          go_wp2
          first | go_end0 | ((try simp only [Exit.inBlock, Exit.then]); refine bodyPost_ret (results_none rfl _ _ _) rfl ?_)
          exact ⟨by first | rfl | (simp [errW_none, errW_some] <;> rfl) | (simp [*, errW_none, errW_some] <;> rfl), by (with_reducible repeat (first | apply Kd.R_alloc | apply Kd.R_drewN | apply Kd.R_drew)); exact HO_5.out, by repeat (first | (with_reducible first | exact HB.out | apply below_alloc | apply pw_below_drewN | apply below_drew1) | exact HB.out), by repeat (first | (with_reducible first | exact HK.out | apply Kept.alloc | apply Kept.drewN | apply Kept.drew) | exact HK.out)⟩

/-! ### clocheref08_tones: function 55 -/
def clocheref08_tones.f (k : Nat) (l0 : List Int) : Option (List Int) := if 0 ≤ (wrap64 ((l0.length : Int) + 1)) then (if (wrap64 ((l0.length : Int) + 1) : Int).toNat ≤ 35184372088832 then ((clocheref08_determinant.f k l0 0 0 0 1 (List.replicate (wrap64 ((l0.length : Int) + 1) : Int).toNat 0)).bind fun t229 => (some t229)) else (none)) else (none)
theorem clocheref08_tones.mono : ∀ a0 k, LeO (clocheref08_tones.f k a0) (clocheref08_tones.f (k + 1) a0) := by
  intro a0 k
  unfold clocheref08_tones.f
  repeat' first
      | (with_reducible exact clocheref08_determinant.mono _ _ _ _ _ _ _)
      | (with_reducible exact LeO.refl _)
      | (with_reducible exact LeO.none _)
      | (with_reducible refine LeO.ite ?_ ?_)
      | (with_reducible refine LeO.bind ?_ (fun _ => ?_))
      | exact clocheref08_determinant.mono _ _ _ _ _ _ _
      | exact LeO.none _
      | refine LeO.ite ?_ ?_
      | refine LeO.bind ?_ (fun _ => ?_)
set_option maxHeartbeats 8000000 in
set_option maxRecDepth 100000 in
theorem clocheref08_tones.calls (k : Nat) (A0 : Option Addr) (c0 : Nat) (l0 : List Int) (r : List Int) (w : World) (hr0 : Kd.C (Kd.int .i64) w A0 l0.length l0) (hc0 : l0.length ≤ c0) (h : clocheref08_tones.f k l0 = some r) :
    Calls Tryd.prog 55 #[.slice A0 l0.length c0] w fun e w' => ∃ v0_ : Value, e = .returned (v0_) ∧ Kd.R (Kd.int .i64) 3 w' w.heap.size (fun _ => True) v0_ r ∧ Below w.heap.size w w' := by
  have HR0 := Aside0.mk hr0
  have HC0 := Aside0.mk hc0
  clear hr0 hc0
  have HB := Aside0.mk (Below.refl w.heap.size w)
  have H : (if 0 ≤ (wrap64 ((l0.length : Int) + 1)) then (if (wrap64 ((l0.length : Int) + 1) : Int).toNat ≤ 35184372088832 then ((clocheref08_determinant.f k l0 0 0 0 1 (List.replicate (wrap64 ((l0.length : Int) + 1) : Int).toNat 0)).bind fun t229 => (some t229)) else (none)) else (none)) = some r := h
  clear h
  obtain ⟨ji2, hji2⟩ : ∃ j_ : Int, (wrap64 ((l0.length : Int) + 1)) = j_ := ⟨_, rfl⟩
  replace H : (if 0 ≤ (ji2) then (if (ji2 : Int).toNat ≤ 35184372088832 then ((clocheref08_determinant.f k l0 0 0 0 1 (List.replicate (ji2 : Int).toNat 0)).bind fun t229 => (some t229)) else (none)) else (none)) = some r := by first | (rw [hji2] at H; exact H) | (simp only [hji2] at H ⊢; exact H)
  have hji2w : (IntKind.i64.wrap ((l0.length : Int) + 1)) = ji2 := (i64_w _).trans hji2
  by_cases c3 : 0 ≤ (ji2)
  · rw [if_pos c3] at H
    have c3b0 := eq_true c3
    have c3b1 : decide (0 ≤ (ji2)) = true := decide_eq_true c3
    clear c3
    by_cases c4 : (ji2 : Int).toNat ≤ 35184372088832
    · rw [if_pos c4] at H
      have c4b0 := eq_true c4
      have c4b1 : decide ((ji2 : Int).toNat ≤ 35184372088832) = true := decide_eq_true c4
      clear c4
      obtain ⟨y226, hy226⟩ : ∃ y_ : List Int, y_ = (List.replicate (ji2 : Int).toNat 0) := ⟨_, rfl⟩
      replace H : ((clocheref08_determinant.f k l0 0 0 0 1 y226).bind fun t229 => (some t229)) = some r := by first | (rw [hy226]; with_reducible exact H) | (have H2_ := (Option.bind_some _ _).symm.trans H; rw [hy226]; with_reducible exact H2_) | (have H2_ := (Option.bind_some _ _).symm.trans H; with_reducible exact H2_) | with_reducible exact H | (rw [hy226]; exact H) | exact H
      have Ny226 := Aside0.mk hy226
      clear hy226
      replace H := Option.bind_eq_some_iff.mp H
      obtain ⟨t229, A50, H⟩ := H
      replace H : (some t229) = some r := H
      have A5 := Aside0.mk A50
      clear A50
      obtain rfl := Option.some.inj H
      go_enter Tryd.func55, Tryd.ntmps55
      go_wp2_with (first | ((with_reducible refine gate_dst (N := 7) rfl ?_); refine Kd.R_make (Kd.int .i64) _ 3 rfl (N := 7) rfl 22 _ _ rfl ji2 rfl rfl Tryd.underlying22 (.int .i64 0) 8 info3 rfl (by decide) (by omega) 0 (ok := fun _ => True) (okp := fun _ => True) rfl (fun _ hk => hk) trivial (of_decide_eq_true (by first | (with_reducible assumption) | assumption)) (Nat.le_trans (Nat.mul_le_mul_right _ (of_decide_eq_true (by first | (with_reducible assumption) | assumption) : ji2.toNat ≤ 35184372088832)) (by omega)) (Below.refl _ _) (Nat.le_refl _) ?_; intro v227 w6 ho7 hb hg_ hnew_; clear hg_ hnew_; (first | rw [← Ny226.out] at ho7 | (simp only [Int.reduceToNat] at ho7; rw [← Ny226.out] at ho7)); have n0_ := Aside0.mk (Kd.R_lower ho7 (below_size (by repeat (first | (with_reducible first | exact HB.out | apply below_alloc | apply pw_below_drewN | apply below_drew1) | exact HB.out)))); have n1_ := Aside0.mk (below_step (by repeat (first | (with_reducible first | exact HB.out | apply below_alloc | apply pw_below_drewN | apply below_drew1) | exact HB.out)) hb); clear HB; have HO228 := n0_; have HB := n1_; clear n0_ n1_; clear hb ho7; obtain ⟨Ao8, co8, eo8⟩ := Kd.R_slice HO228.out; subst eo8) | ((with_reducible refine gate_callee (f := 72) rfl ?_); refine goesL_ (some 10) rfl rfl Tryd.func72 (by kernel_rfl) rfl #[.slice A0 l0.length c0, .int .i64 0, .int .i64 0, .int .i64 0, .int .i64 1, .slice Ao8 y226.length co8] rfl (by (try simp only [List.map_toArray, List.map_cons, List.map_nil]); first | done | rfl | (simp only [List.length_drop, List.length_take]; rfl)) ?_; (with_reducible refine (clocheref08_determinant.calls k _ _ l0 0 0 0 1 (fun k_ => some k_ = (.slice Ao8 y226.length co8 : Value).ownBlock) (.slice Ao8 y226.length co8) y226 t229 w _ ?side1 ?side2 ?side3 ?side4 A5.out).mono ?_); (case side1 => repeat (first | (with_reducible first | exact HB.out | apply below_alloc | apply pw_below_drewN | apply below_drew1) | exact HB.out)); (case side2 => exact Kd.C_kept_came (Kd.heap_int .i64) HR0.out (by repeat (first | (with_reducible first | exact HB.out | apply below_alloc | apply pw_below_drewN | apply below_drew1) | exact HB.out)) (fun k_ hs_ => (fun e_ => Kd.R_base HO228.out k_ e_.symm) hs_)); (case side3 => exact HC0.out); (case side4 => exact Kd.R_tight rfl HO228.out); rintro e w9 ⟨rfl, hy0, hb, hkp⟩; refine ⟨_, rfl, ?_⟩; have n0_ := Aside0.mk (Kd.R_reok rfl hy0 (fun k_ e_ => HO228.out.1 k_ e_)); have n1_ := Aside0.mk (hb); clear HO228; clear HB; have HO228 := n0_; have HB := n1_; clear n0_ n1_; (try clear hb); (try clear hkp); (try clear hy0)))
      go_ret
      exact ⟨_, by first | rfl | (simp [errW_none, errW_some] <;> rfl) | (simp only [← hji2]; first | rfl | (simp [errW_none, errW_some] <;> rfl)) | (simp [*, errW_none, errW_some] <;> rfl), by (with_reducible repeat (first | apply Kd.R_alloc | apply Kd.R_drewN | apply Kd.R_drew)); exact HO228.out, by repeat (first | (with_reducible first | exact HB.out | apply below_alloc | apply pw_below_drewN | apply below_drew1) | exact HB.out)⟩
    · rw [if_neg c4] at H
      exact absurd H (by simp)
  · rw [if_neg c3] at H
    exact absurd H (by simp)

end Go.Proofs.YtglalkenkmijkaaDoor.PAll
namespace Go.Proofs.YtglalkenkmijkaaDoor.PAll
open Go.RowKit Go.Proofs.YtglalkenkmijkaaDoorW.PrintWords Go.Proofs.YtglalkenkmijkaaDoorW.PrintLast Go.Proofs.YtglalkenkmijkaaDoorW.PrintMore
attribute [local go_sem] max2_int min2_int max_two min_two max_three min_three max_four min_four   -- for this text's walks alone
set_option linter.unusedVariables false
set_option linter.unusedSimpArgs false

/-! ### clocheref08_pair: function 73 -/
mutual
def clocheref08_pair.l0 : Nat → List Int → Int → Int → Int → List Int → Int → Option (List Int)
  | 0, _, _, _, _, _, _ => none
  | k + 1, x0, x1, x2, x3, x4, x10 => if 0 ≤ x10 then (if (Int.tmod (shr .i64 x1 x10) 2) = 0 then (clocheref08_pair.l0 k x0 x1 x2 x3 x4 (wrap64 (x10 + 1))) else ((clocheref08_pair.f k x0 (wrap64 (x1 - (shl .i64 1 x10))) x2 x3 x4).bind fun t232 => (clocheref08_pair.l1 k x0 x2 x3 t232 x10 (wrap64 (x1 - (shl .i64 1 x10))) 0))) else (none)
def clocheref08_pair.l1 : Nat → List Int → Int → Int → List Int → Int → Int → Int → Option (List Int)
  | 0, _, _, _, _, _, _, _ => none
  | k + 1, x0, x2, x3, x4, x10, x11, x12 => if x12 < (x0.length : Int) then (if 0 ≤ x10 then (if x10 < (x0.length : Int) then (if 0 ≤ x12 then (if (Int.tmod (shr .i64 (Go.bits .and .i64 (rd x0 x10) x11) x12) 2) = 1 then ((clocheref08_pair.f k x0 (wrap64 (x11 - (shl .i64 1 x12))) (wrap64 (x2 - 2)) (wrap64 (-x3)) x4).bind fun t234 => (clocheref08_pair.l1 k x0 x2 x3 t234 x10 x11 (wrap64 (x12 + 1)))) else (clocheref08_pair.l1 k x0 x2 x3 x4 x10 x11 (wrap64 (x12 + 1)))) else (none)) else (none)) else (none)) else (some x4)
def clocheref08_pair.f : Nat → List Int → Int → Int → Int → List Int → Option (List Int)
  | 0, _, _, _, _, _ => none
  | k + 1, l0, a1, a2, a3, l4 => if a1 = 0 then (if 0 ≤ a2 then (if a2 < (l4.length : Int) then (some (l4.set (a2 : Int).toNat (wrap64 ((rd l4 a2) + a3)))) else (none)) else (none)) else (clocheref08_pair.l0 k l0 a1 a2 a3 l4 0)
end
theorem clocheref08_pair.mono_l : ∀ k, (∀ y0 y1 y2 y3 y4, LeO (clocheref08_pair.f k y0 y1 y2 y3 y4) (clocheref08_pair.f (k + 1) y0 y1 y2 y3 y4)) ∧ (∀ y0 y1 y2 y3 y4 y5, LeO (clocheref08_pair.l0 k y0 y1 y2 y3 y4 y5) (clocheref08_pair.l0 (k + 1) y0 y1 y2 y3 y4 y5)) ∧ (∀ y0 y1 y2 y3 y4 y5 y6, LeO (clocheref08_pair.l1 k y0 y1 y2 y3 y4 y5 y6) (clocheref08_pair.l1 (k + 1) y0 y1 y2 y3 y4 y5 y6))
  | 0 => ⟨fun _ _ _ _ _ r h => by simp [clocheref08_pair.f] at h, fun _ _ _ _ _ _ r h => by simp [clocheref08_pair.l0] at h, fun _ _ _ _ _ _ _ r h => by simp [clocheref08_pair.l1] at h⟩
  | k + 1 => by
    obtain ⟨ih0, ih1, ih2⟩ := clocheref08_pair.mono_l k
    refine ⟨?_, ?_, ?_⟩
    · intro y0 y1 y2 y3 y4
      unfold clocheref08_pair.f
      repeat' first
      | (with_reducible exact ih0 _ _ _ _ _)
      | (with_reducible exact ih1 _ _ _ _ _ _)
      | (with_reducible exact ih2 _ _ _ _ _ _ _)
      | (with_reducible exact LeO.refl _)
      | (with_reducible exact LeO.none _)
      | (with_reducible refine LeO.ite ?_ ?_)
      | (with_reducible refine LeO.bind ?_ (fun _ => ?_))
      | exact ih0 _ _ _ _ _
      | exact ih1 _ _ _ _ _ _
      | exact ih2 _ _ _ _ _ _ _
      | exact LeO.none _
      | refine LeO.ite ?_ ?_
      | refine LeO.bind ?_ (fun _ => ?_)
    · intro y0 y1 y2 y3 y4 y5
      unfold clocheref08_pair.l0
      repeat' first
      | (with_reducible exact ih0 _ _ _ _ _)
      | (with_reducible exact ih1 _ _ _ _ _ _)
      | (with_reducible exact ih2 _ _ _ _ _ _ _)
      | (with_reducible exact LeO.refl _)
      | (with_reducible exact LeO.none _)
      | (with_reducible refine LeO.ite ?_ ?_)
      | (with_reducible refine LeO.bind ?_ (fun _ => ?_))
      | exact ih0 _ _ _ _ _
      | exact ih1 _ _ _ _ _ _
      | exact ih2 _ _ _ _ _ _ _
      | exact LeO.none _
      | refine LeO.ite ?_ ?_
      | refine LeO.bind ?_ (fun _ => ?_)
    · intro y0 y1 y2 y3 y4 y5 y6
      unfold clocheref08_pair.l1
      repeat' first
      | (with_reducible exact ih0 _ _ _ _ _)
      | (with_reducible exact ih1 _ _ _ _ _ _)
      | (with_reducible exact ih2 _ _ _ _ _ _ _)
      | (with_reducible exact LeO.refl _)
      | (with_reducible exact LeO.none _)
      | (with_reducible refine LeO.ite ?_ ?_)
      | (with_reducible refine LeO.bind ?_ (fun _ => ?_))
      | exact ih0 _ _ _ _ _
      | exact ih1 _ _ _ _ _ _
      | exact ih2 _ _ _ _ _ _ _
      | exact LeO.none _
      | refine LeO.ite ?_ ?_
      | refine LeO.bind ?_ (fun _ => ?_)
theorem clocheref08_pair.mono : ∀ a0 a1 a2 a3 a4 k, LeO (clocheref08_pair.f k a0 a1 a2 a3 a4) (clocheref08_pair.f (k + 1) a0 a1 a2 a3 a4) := by
  intro a0 a1 a2 a3 a4 k
  obtain ⟨ih0, ih1, ih2⟩ := clocheref08_pair.mono_l k
  exact ih0 a0 a1 a2 a3 a4
set_option maxHeartbeats 8000000 in
set_option maxRecDepth 100000 in
theorem clocheref08_pair.calls (k : Nat) : ∀ (A0 : Option Addr) (c0 : Nat) (l0 : List Int) (a1 : Int) (a2 : Int) (a3 : Int) (P4_ : Nat → Prop) (u9000_ : Value) (l4 : List Int) (r : List Int) (w0 w : World) (hB : Below w0.heap.size w0 w) (hr0 : ∀ W_, Kept w W_ (fun k_ => P4_ k_) → Kd.C (Kd.int .i64) W_ A0 l0.length l0) (hc0 : l0.length ≤ c0) (ho4 : Kd.R (Kd.int .i64) 3 w w0.heap.size P4_ u9000_ l4) (h : clocheref08_pair.f k l0 a1 a2 a3 l4 = some r),
    Calls Tryd.prog 73 #[.slice A0 l0.length c0, .int .i64 a1, .int .i64 a2, .int .i64 a3, u9000_] w fun e w' => e = .returned (.tuple #[]) ∧ Kd.R (Kd.int .i64) 3 w' w0.heap.size (fun k_ => (P4_ k_ ∨ w.heap.size ≤ k_)) u9000_ r ∧ Below w0.heap.size w0 w' ∧ Kept w w' (fun k_ => P4_ k_) := by
  induction k using Nat.strongRecOn with
  | _ k ih =>
  intro A0 c0 l0 a1 a2 a3 P4_ u9000_ l4 r w0 w hB hr0 hc0 ho4 h
  cases k with
  | zero => exact absurd h (by simp [clocheref08_pair.f])
  | succ k =>
  simp only [clocheref08_pair.f] at h
  have HR0 := Aside0.mk hr0
  have HC0 := Aside0.mk hc0
  clear hr0 hc0
  have HO4 := Aside0.mk (show Kd.R (Kd.int .i64) 3 w w0.heap.size (fun k_ => (P4_ k_ ∨ w.heap.size ≤ k_)) u9000_ l4 from Kd.R_mono ho4 (fun k_ hk => (.inl hk)))
  have HK := Aside0.mk (Kept.refl w (fun k_ => P4_ k_))
  have HW0 := Aside0.mk hB.size
  have HB := Aside0.mk hB
  clear hB
  have H : (if a1 = 0 then (if 0 ≤ a2 then (if a2 < (l4.length : Int) then (some (l4.set (a2 : Int).toNat (wrap64 ((rd l4 a2) + a3)))) else (none)) else (none)) else (clocheref08_pair.l0 k l0 a1 a2 a3 l4 0)) = some r := h
  clear h
  by_cases c6 : a1 = 0
  · rw [if_pos c6] at H
    have c6b0 : (a1 == 0) = true := beq_iff_eq.mpr c6
    have c6b1 : (a1 != 0) = false := bne_eq_false_iff_eq.mpr c6
    clear c6
    by_cases c7 : 0 ≤ a2
    · rw [if_pos c7] at H
      have c7b0 : decide (0 ≤ a2) = true := decide_eq_true c7
      clear c7
      by_cases c8 : a2 < (l4.length : Int)
      · rw [if_pos c8] at H
        have c8b0 : decide (a2 < (l4.length : Int)) = true := decide_eq_true c8
        clear c8
        obtain ⟨y231, hy231⟩ : ∃ y_ : List Int, y_ = (l4.set (a2 : Int).toNat (wrap64 ((rd l4 a2) + a3))) := ⟨_, rfl⟩
        replace H : (some y231) = some r := by first | (rw [hy231]; with_reducible exact H) | (have H2_ := (Option.bind_some _ _).symm.trans H; rw [hy231]; with_reducible exact H2_) | (have H2_ := (Option.bind_some _ _).symm.trans H; with_reducible exact H2_) | with_reducible exact H | (rw [hy231]; exact H) | exact H
        have Ny231 := Aside0.mk hy231
        clear hy231
        obtain rfl := Option.some.inj H
        obtain ⟨Ao10, co10, eo10⟩ := Kd.R_slice HO4.out
        subst eo10
        have p230 : 0 ≤ (a2 : Int) := of_decide_eq_true (by first | (with_reducible assumption) | assumption)
        have q230 : a2 < (l4.length : Int) := of_decide_eq_true (by first | (with_reducible assumption) | assumption)
        obtain ⟨ad230, e230, hx230_0⟩ := Kd.at_int (Kd.R_reads' HO4.out).2.2 a2 p230 q230
        cases e230
        replace p230 := eq_true p230
        replace q230 := eq_true q230
        have p9 : 0 ≤ (a2 : Int) := of_decide_eq_true (by first | (with_reducible assumption) | assumption)
        have q9 : (a2 : Int) < ((l4.length : Int) : Int) := of_decide_eq_true (by first | (with_reducible assumption) | assumption)
        obtain ⟨go9, co9, eo9, gb9, gl9, cl9, HG9⟩ := Kd.R_form HO4.out (by omega)
        (first | cases eo9 | (injection eo9 with ea_ en_ ec_; (first | subst ea_ | (injection ea_ with ea_; subst ea_)); subst ec_; clear en_))
        have GB9 := Aside0.mk gb9
        have GG9 := Aside0.mk HG9
        clear gb9 gl9 HG9
        have HMgo9 := Aside0.mk (show (P4_ go9 ∨ w.heap.size ≤ go9) from (HO4.out.1 _ rfl))
        (first | simp only [add_plain] at hx230_0 | skip)
        obtain ⟨hx9_0, hf9_0⟩ := Kd.R_celln 0 HO4.out (a2 : Int) p9 q9
        replace p9 := eq_true p9
        replace q9 := eq_true q9
        have HP11 := Kd.R_putg HO4.out (a2 : Int) (wrap64 ((rd l4 a2) + a3))
        go_enter Tryd.func73, Tryd.ntmps73
        go_wp2_with (first | ((with_reducible refine gate_store (t := 3) (p := 21) rfl ?_); refine store_event (t := 3) (p := 21) (v := ?vo_w12) (w1 := (w.setCell ⟨go9, (a2 : Int).toNat, none⟩ (.int .i64 (wrap64 ((rd l4 a2) + a3))))) ?hg ?ho ?hn ?hr ?_; (case ho => rfl); (case hg => rfl); (case hn => rfl); (case hr => first | (go_simp; done) | (go_simp; rfl)); intro w12 hw; have hg : w.grownBy w12 (some go9) := (by rw [hw]; exact HP11.2); have hp_ : Kd.R (Kd.int .i64) 3 w12 w0.heap.size (fun k_ => (P4_ k_ ∨ w.heap.size ≤ k_)) (.slice (some ⟨go9, 0, none⟩) l4.length co10) y231 := (by rw [hw, Ny231.out]; exact HP11.1); clear HP11; have n0_ := Aside0.mk (hp_); have n1_ := Aside0.mk ((by rw [hw]; exact below_set (HB.out) GB9.out : Below w0.heap.size w0 w12)); have n2_ := Aside0.mk (Kept.of_grown (S := (fun k_ => P4_ k_)) hg (by repeat (first | (with_reducible first | exact HK.out | apply Kept.alloc | apply Kept.drewN | apply Kept.drew) | exact HK.out)) (fun k_ e_ => (HO4.out.1 k_ e_))); clear HO4; clear HB; clear HK; have HO4 := n0_; have HB := n1_; have HK := n2_; clear n0_ n1_ n2_; clear hg hw hp_))
        first | go_end0 | ((try simp only [Exit.inBlock, Exit.then]); refine bodyPost_ret (results_none rfl _ _ _) rfl ?_)
        exact ⟨by first | rfl | (simp [errW_none, errW_some] <;> rfl) | (simp [*, errW_none, errW_some] <;> rfl), by (with_reducible repeat (first | apply Kd.R_alloc | apply Kd.R_drewN | apply Kd.R_drew)); exact HO4.out, by repeat (first | (with_reducible first | exact HB.out | apply below_alloc | apply pw_below_drewN | apply below_drew1) | exact HB.out), by repeat (first | (with_reducible first | exact HK.out | apply Kept.alloc | apply Kept.drewN | apply Kept.drew) | exact HK.out)⟩
      · rw [if_neg c8] at H
        exact absurd H (by simp)
    · rw [if_neg c7] at H
      exact absurd H (by simp)
  · rw [if_neg c6] at H
    have c6b0 : (a1 == 0) = false := beq_eq_false_iff_ne.mpr c6
    have c6b1 : (a1 != 0) = true := bne_iff_ne.mpr c6
    have H' := Aside0.mk H
    clear H
    go_enter Tryd.func73, Tryd.ntmps73
    go_wp2
    go_loopg [10] k (fun kq v10 w' => ∃ (x10_1 : Int), v10 = .int .i64 x10_1 ∧ Aside0 (clocheref08_pair.l0 kq l0 a1 a2 a3 l4 x10_1 = some r) ∧ Aside0 (kq ≤ k) ∧ Aside0 (Kd.R (Kd.int .i64) 3 w' w0.heap.size (fun k_ => (P4_ k_ ∨ w.heap.size ≤ k_)) u9000_ l4) ∧ Aside0 (Kept w w' (fun k_ => P4_ k_)) ∧ Aside0 (Below w0.heap.size w0 w'))
    case atStart => exact ⟨(0), (by first | rfl | (simp; done) | (simp [*]; done)), H', ⟨Nat.le_refl _⟩, ⟨by (with_reducible repeat (first | apply Kd.R_alloc | apply Kd.R_drewN | apply Kd.R_drew)); exact HO4.out⟩, ⟨by repeat (first | (with_reducible first | exact HK.out | apply Kept.alloc | apply Kept.drewN | apply Kept.drew) | exact HK.out)⟩, ⟨by repeat (first | (with_reducible first | exact HB.out | apply below_alloc | apply pw_below_drewN | apply below_drew1) | exact HB.out)⟩⟩
    case round =>
      clear H'
      try clear p2
      try clear q2
      try clear hx2
      try clear c6
      try clear c6b0
      try clear c6b1
      try clear p6
      try clear c7
      try clear c7b0
      try clear c8
      try clear c8b0
      try clear p9
      try clear q9
      try clear hx9
      try clear hf9
      try clear hx230_0
      try clear hx9_0
      try clear p230
      try clear p9
      try clear q230
      try clear q9
      obtain ⟨x10_1, rfl, HA, HK1, HO_4, HK, HB⟩ := hrel
      cases gk with
      | zero => exact absurd HA.out (by simp [clocheref08_pair.l0])
      | succ k1 =>
        have H := HA.out
        clear HA
        simp only [clocheref08_pair.l0] at H
        by_cases c13 : 0 ≤ x10_1
        · rw [if_pos c13] at H
          have c13b0 := eq_true c13
          have c13b1 : decide (0 ≤ x10_1) = true := decide_eq_true c13
          clear c13
          obtain ⟨ji14, hji14⟩ : ∃ j_ : Int, (shr .i64 a1 x10_1) = j_ := ⟨_, rfl⟩
          replace H : (if (Int.tmod (ji14) 2) = 0 then (clocheref08_pair.l0 k1 l0 a1 a2 a3 l4 (wrap64 (x10_1 + 1))) else ((clocheref08_pair.f k1 l0 (wrap64 (a1 - (shl .i64 1 x10_1))) a2 a3 l4).bind fun t232 => (clocheref08_pair.l1 k1 l0 a2 a3 t232 x10_1 (wrap64 (a1 - (shl .i64 1 x10_1))) 0))) = some r := by first | (rw [hji14] at H; exact H) | (simp only [hji14] at H ⊢; exact H)
          have hji14_ : (a1 / 2 ^ min x10_1.toNat 64) = ji14 := hji14
          have hji14z : x10_1 ≤ 64 → (a1 / 2 ^ x10_1.toNat) = ji14 := shr_small hji14
          by_cases c15 : (Int.tmod (ji14) 2) = 0
          · rw [if_pos c15] at H
            have c15b0 : ((Int.tmod (ji14) 2) == 0) = true := beq_iff_eq.mpr c15
            have c15b1 : ((Int.tmod (ji14) 2) != 0) = false := bne_eq_false_iff_eq.mpr c15
            clear c15
            have H' := Aside0.mk H
            clear H
            go_wp2
            go_roundg k1
            case measure => have := HK1.out; omega
            case rel => exact ⟨(wrap64 (x10_1 + 1)), (by first | rfl | (simp; done) | (simp [*]; done)), H', ⟨by have := HK1.out; omega⟩, ⟨by (with_reducible repeat (first | apply Kd.R_alloc | apply Kd.R_drewN | apply Kd.R_drew)); exact HO_4.out⟩, ⟨by repeat (first | (with_reducible first | exact HK.out | apply Kept.alloc | apply Kept.drewN | apply Kept.drew) | exact HK.out)⟩, ⟨by repeat (first | (with_reducible first | exact HB.out | apply below_alloc | apply pw_below_drewN | apply below_drew1) | exact HB.out)⟩⟩
          · rw [if_neg c15] at H
            have c15b0 : ((Int.tmod (ji14) 2) == 0) = false := beq_eq_false_iff_ne.mpr c15
            have c15b1 : ((Int.tmod (ji14) 2) != 0) = true := bne_iff_ne.mpr c15
            have c16b0 := eq_true (of_decide_eq_true (by first | (with_reducible assumption) | assumption) : 0 ≤ x10_1)
            obtain ⟨ji17, hji17⟩ : ∃ j_ : Int, (shl .i64 1 x10_1) = j_ := ⟨_, rfl⟩
            replace H : ((clocheref08_pair.f k1 l0 (wrap64 (a1 - (ji17))) a2 a3 l4).bind fun t232 => (clocheref08_pair.l1 k1 l0 a2 a3 t232 x10_1 (wrap64 (a1 - (ji17))) 0)) = some r := by first | (rw [hji17] at H; exact H) | (simp only [hji17] at H ⊢; exact H)
            have hji17_ : (IntKind.i64.wrap (1 * 2 ^ min x10_1.toNat 64)) = ji17 := hji17
            have hji17z : x10_1 ≤ 64 → (IntKind.i64.wrap (1 * 2 ^ x10_1.toNat)) = ji17 := shl_small hji17
            have hji17u : (IntKind.i64.wrap (2 ^ min x10_1.toNat 64)) = ji17 := by have h_ := hji17_; rw [Int.one_mul] at h_; exact h_
            have hji17v : x10_1 ≤ 64 → (IntKind.i64.wrap (2 ^ x10_1.toNat)) = ji17 := fun hle_ => by have h_ := hji17z hle_; rw [Int.one_mul] at h_; exact h_
            have hji17y : (wrap64 (1 * 2 ^ min x10_1.toNat 64)) = ji17 := (i64_w _).symm.trans hji17_
            have hji17x : x10_1 ≤ 64 → (wrap64 (1 * 2 ^ x10_1.toNat)) = ji17 := fun h_ => (i64_w _).symm.trans (hji17z h_)
            replace H := Option.bind_eq_some_iff.mp H
            obtain ⟨t232, A180, H⟩ := H
            replace H : (clocheref08_pair.l1 k1 l0 a2 a3 t232 x10_1 (wrap64 (a1 - (ji17))) 0) = some r := H
            have A18 := Aside0.mk A180
            clear A180
            have H' := Aside0.mk H
            clear H
            obtain ⟨Ao19, co19, eo19⟩ := Kd.R_slice HO_4.out
            subst eo19
            go_wp2_with (first | ((with_reducible refine gate_callee (f := 73) rfl ?_); refine goesL_ (some 38) rfl rfl Tryd.func73 (by kernel_rfl) rfl #[.slice A0 l0.length c0, .int .i64 (wrap64 (a1 - (ji17))), .int .i64 a2, .int .i64 a3, .slice Ao19 l4.length co19] rfl (by (try simp only [List.map_toArray, List.map_cons, List.map_nil]); first | done | (simp only [hji17]; rfl) | rfl | (simp only [List.length_drop, List.length_take]; rfl)) ?_; (with_reducible refine (ih k1 (by have := HK1.out; omega) _ _ l0 (wrap64 (a1 - (ji17))) a2 a3 (fun k_ => some k_ = (.slice Ao19 l4.length co19 : Value).ownBlock) (.slice Ao19 l4.length co19) l4 t232 w0 _ ?side1 ?side2 ?side3 ?side4 A18.out).mono ?_); (case side1 => repeat (first | (with_reducible first | exact HB.out | apply below_alloc | apply pw_below_drewN | apply below_drew1) | exact HB.out)); (case side2 => exact Kd.C_kept_call HR0.out (by repeat (first | (with_reducible first | exact HK.out | apply Kept.alloc | apply Kept.drewN | apply Kept.drew) | exact HK.out)) (fun k_ hs_ => (fun e_ => (HO_4.out.1 k_ e_.symm)) hs_)); (case side3 => exact HC0.out); (case side4 => exact Kd.R_tight rfl HO_4.out); rintro e w20 ⟨rfl, hy0, hb, hkp⟩; refine ⟨_, rfl, ?_⟩; have n0_ := Aside0.mk (Kd.R_reok rfl hy0 (fun k_ e_ => HO_4.out.1 k_ e_)); have n1_ := Aside0.mk (Kept.then_ (S := (fun k_ => P4_ k_)) (by repeat (first | (with_reducible first | exact HK.out | apply Kept.alloc | apply Kept.drewN | apply Kept.drew) | exact HK.out)) hkp (fun k_ hs_ => (fun e_ => (HO_4.out.1 k_ e_.symm)) hs_)); have n2_ := Aside0.mk (hb); clear HO_4; clear HK; clear HB; have HO_4 := n0_; have HK := n1_; have HB := n2_; clear n0_ n1_ n2_; (try clear hb); (try clear hkp); (try clear hy0)))
            go_loopg [12] k1 (fun kq v12 w' => ∃ (x4_2 : List Int) (x12_2 : Int), v12 = .int .i64 x12_2 ∧ Aside0 (clocheref08_pair.l1 kq l0 a2 a3 x4_2 x10_1 (wrap64 (a1 - (ji17))) x12_2 = some r) ∧ Aside0 (kq ≤ k1) ∧ Aside0 (Kd.R (Kd.int .i64) 3 w' w0.heap.size (fun k_ => (P4_ k_ ∨ w.heap.size ≤ k_)) (.slice Ao19 l4.length co19) x4_2) ∧ Aside0 (Kept w w' (fun k_ => P4_ k_)) ∧ Aside0 (Below w0.heap.size w0 w'))
            case atStart => exact ⟨(t232), (0), (by first | rfl | (simp; done) | (simp [*]; done)), H', ⟨Nat.le_refl _⟩, ⟨by (with_reducible repeat (first | apply Kd.R_alloc | apply Kd.R_drewN | apply Kd.R_drew)); exact HO_4.out⟩, ⟨by repeat (first | (with_reducible first | exact HK.out | apply Kept.alloc | apply Kept.drewN | apply Kept.drew) | exact HK.out)⟩, ⟨by repeat (first | (with_reducible first | exact HB.out | apply below_alloc | apply pw_below_drewN | apply below_drew1) | exact HB.out)⟩⟩
            case round =>
              clear H'
              try clear c1
              try clear p2
              try clear q2
              try clear hx2
              try clear c6
              try clear c6b0
              try clear c6b1
              try clear p6
              try clear c7
              try clear c7b0
              try clear c8
              try clear c8b0
              try clear p9
              try clear q9
              try clear hx9
              try clear hf9
              try clear c13
              try clear c13b0
              try clear c13b1
              try clear c15
              try clear c15b0
              try clear c15b1
              try clear c16
              try clear c16b0
              try clear hx230_0
              try clear hx9_0
              try clear p2
              try clear p230
              try clear p6
              try clear p9
              try clear q2
              try clear q230
              try clear q9
              obtain ⟨x4_2, x12_2, rfl, HA, HK2, HO_4, HK, HB⟩ := hrel
              have hl4_2 := (Kd.R_reads' HO_4.out).1
              rw [hl4_2] at HO_4
              (try simp only [hl4_2])
              cases gk with
              | zero => exact absurd HA.out (by simp [clocheref08_pair.l1])
              | succ k2 =>
                have H := HA.out
                clear HA
                simp only [clocheref08_pair.l1] at H
                by_cases c21 : x12_2 < (l0.length : Int)
                · rw [if_pos c21] at H
                  have c21b0 : decide (x12_2 < (l0.length : Int)) = true := decide_eq_true c21
                  clear c21
                  by_cases c22 : 0 ≤ x10_1
                  · rw [if_pos c22] at H
                    have c22b0 : decide (0 ≤ x10_1) = true := decide_eq_true c22
                    clear c22
                    by_cases c23 : x10_1 < (l0.length : Int)
                    · rw [if_pos c23] at H
                      have c23b0 : decide (x10_1 < (l0.length : Int)) = true := decide_eq_true c23
                      clear c23
                      by_cases c24 : 0 ≤ x12_2
                      · rw [if_pos c24] at H
                        have c24b0 := eq_true c24
                        have c24b1 : decide (0 ≤ x12_2) = true := decide_eq_true c24
                        clear c24
                        obtain ⟨ji25, hji25⟩ : ∃ j_ : Int, (shr .i64 (Go.bits .and .i64 (rd l0 x10_1) (wrap64 (a1 - (ji17)))) x12_2) = j_ := ⟨_, rfl⟩
                        replace H : (if (Int.tmod (ji25) 2) = 1 then ((clocheref08_pair.f k2 l0 (wrap64 ((wrap64 (a1 - (ji17))) - (shl .i64 1 x12_2))) (wrap64 (a2 - 2)) (wrap64 (-a3)) x4_2).bind fun t234 => (clocheref08_pair.l1 k2 l0 a2 a3 t234 x10_1 (wrap64 (a1 - (ji17))) (wrap64 (x12_2 + 1)))) else (clocheref08_pair.l1 k2 l0 a2 a3 x4_2 x10_1 (wrap64 (a1 - (ji17))) (wrap64 (x12_2 + 1)))) = some r := by first | (rw [hji25] at H; exact H) | (simp only [hji25] at H ⊢; exact H)
                        have hji25_ : ((Go.bits .and .i64 (rd l0 x10_1) (wrap64 (a1 - (ji17)))) / 2 ^ min x12_2.toNat 64) = ji25 := hji25
                        have hji25z : x12_2 ≤ 64 → ((Go.bits .and .i64 (rd l0 x10_1) (wrap64 (a1 - (ji17)))) / 2 ^ x12_2.toNat) = ji25 := shr_small hji25
                        by_cases c26 : (Int.tmod (ji25) 2) = 1
                        · rw [if_pos c26] at H
                          have c26b0 : ((Int.tmod (ji25) 2) == 1) = true := beq_iff_eq.mpr c26
                          have c26b1 : ((Int.tmod (ji25) 2) != 1) = false := bne_eq_false_iff_eq.mpr c26
                          clear c26
                          have c27b0 := eq_true (of_decide_eq_true (by first | (with_reducible assumption) | assumption) : 0 ≤ x12_2)
                          obtain ⟨ji28, hji28⟩ : ∃ j_ : Int, (shl .i64 1 x12_2) = j_ := ⟨_, rfl⟩
                          replace H : ((clocheref08_pair.f k2 l0 (wrap64 ((wrap64 (a1 - (ji17))) - (ji28))) (wrap64 (a2 - 2)) (wrap64 (-a3)) x4_2).bind fun t234 => (clocheref08_pair.l1 k2 l0 a2 a3 t234 x10_1 (wrap64 (a1 - (ji17))) (wrap64 (x12_2 + 1)))) = some r := by first | (rw [hji28] at H; exact H) | (simp only [hji28] at H ⊢; exact H)
                          have hji28_ : (IntKind.i64.wrap (1 * 2 ^ min x12_2.toNat 64)) = ji28 := hji28
                          have hji28z : x12_2 ≤ 64 → (IntKind.i64.wrap (1 * 2 ^ x12_2.toNat)) = ji28 := shl_small hji28
                          have hji28u : (IntKind.i64.wrap (2 ^ min x12_2.toNat 64)) = ji28 := by have h_ := hji28_; rw [Int.one_mul] at h_; exact h_
                          have hji28v : x12_2 ≤ 64 → (IntKind.i64.wrap (2 ^ x12_2.toNat)) = ji28 := fun hle_ => by have h_ := hji28z hle_; rw [Int.one_mul] at h_; exact h_
                          have hji28y : (wrap64 (1 * 2 ^ min x12_2.toNat 64)) = ji28 := (i64_w _).symm.trans hji28_
                          have hji28x : x12_2 ≤ 64 → (wrap64 (1 * 2 ^ x12_2.toNat)) = ji28 := fun h_ => (i64_w _).symm.trans (hji28z h_)
                          replace H := Option.bind_eq_some_iff.mp H
                          obtain ⟨t234, A290, H⟩ := H
                          replace H : (clocheref08_pair.l1 k2 l0 a2 a3 t234 x10_1 (wrap64 (a1 - (ji17))) (wrap64 (x12_2 + 1))) = some r := H
                          have A29 := Aside0.mk A290
                          clear A290
                          have H' := Aside0.mk H
                          clear H
                          have p233 : 0 ≤ (x10_1 : Int) := of_decide_eq_true (by first | (with_reducible assumption) | assumption)
                          have q233 : x10_1 < (l0.length : Int) := of_decide_eq_true (by first | (with_reducible assumption) | assumption)
                          obtain ⟨ad233, e233, hx233_0⟩ := Kd.at_int (Kd.C_kept_now HR0.out HK.out) x10_1 p233 q233
                          cases e233
                          replace p233 := eq_true p233
                          replace q233 := eq_true q233
                          go_wp2_with (first | ((with_reducible refine gate_callee (f := 73) rfl ?_); refine goesL_ (some 65) rfl rfl Tryd.func73 (by kernel_rfl) rfl #[.slice (some ad233) l0.length c0, .int .i64 (wrap64 ((wrap64 (a1 - (ji17))) - (ji28))), .int .i64 (wrap64 (a2 - 2)), .int .i64 (wrap64 (-a3)), .slice Ao19 x4_2.length co19] rfl (by (try simp only [List.map_toArray, List.map_cons, List.map_nil]); first | done | (simp only [hji17, hji28]; rfl) | rfl | (simp only [List.length_drop, List.length_take]; rfl)) ?_; (with_reducible refine (ih k2 (by have := HK1.out; have := HK2.out; omega) _ _ l0 (wrap64 ((wrap64 (a1 - (ji17))) - (ji28))) (wrap64 (a2 - 2)) (wrap64 (-a3)) (fun k_ => some k_ = (.slice Ao19 x4_2.length co19 : Value).ownBlock) (.slice Ao19 x4_2.length co19) x4_2 t234 w0 _ ?side1 ?side2 ?side3 ?side4 A29.out).mono ?_); (case side1 => repeat (first | (with_reducible first | exact HB.out | apply below_alloc | apply pw_below_drewN | apply below_drew1) | exact HB.out)); (case side2 => exact Kd.C_kept_call HR0.out (by repeat (first | (with_reducible first | exact HK.out | apply Kept.alloc | apply Kept.drewN | apply Kept.drew) | exact HK.out)) (fun k_ hs_ => (fun e_ => (HO_4.out.1 k_ e_.symm)) hs_)); (case side3 => exact HC0.out); (case side4 => exact Kd.R_tight rfl HO_4.out); rintro e w30 ⟨rfl, hy0, hb, hkp⟩; refine ⟨_, rfl, ?_⟩; have n0_ := Aside0.mk (Kd.R_reok rfl hy0 (fun k_ e_ => HO_4.out.1 k_ e_)); have n1_ := Aside0.mk (Kept.then_ (S := (fun k_ => P4_ k_)) (by repeat (first | (with_reducible first | exact HK.out | apply Kept.alloc | apply Kept.drewN | apply Kept.drew) | exact HK.out)) hkp (fun k_ hs_ => (fun e_ => (HO_4.out.1 k_ e_.symm)) hs_)); have n2_ := Aside0.mk (hb); clear HO_4; clear HK; clear HB; have HO_4 := n0_; have HK := n1_; have HB := n2_; clear n0_ n1_ n2_; (try clear hb); (try clear hkp); (try clear hy0)))
                          (try simp only [← hl4_2])
                          go_roundg k2
                          case measure => have := HK1.out; have := HK2.out; omega
                          case rel => exact ⟨(t234), (wrap64 (x12_2 + 1)), (by first | rfl | (simp; done) | (simp [*]; done)), H', ⟨by have := HK1.out; have := HK2.out; omega⟩, ⟨by (try simp only [hl4_2]); (with_reducible repeat (first | apply Kd.R_alloc | apply Kd.R_drewN | apply Kd.R_drew)); exact HO_4.out⟩, ⟨by repeat (first | (with_reducible first | exact HK.out | apply Kept.alloc | apply Kept.drewN | apply Kept.drew) | exact HK.out)⟩, ⟨by repeat (first | (with_reducible first | exact HB.out | apply below_alloc | apply pw_below_drewN | apply below_drew1) | exact HB.out)⟩⟩
                        · rw [if_neg c26] at H
                          have c26b0 : ((Int.tmod (ji25) 2) == 1) = false := beq_eq_false_iff_ne.mpr c26
                          have c26b1 : ((Int.tmod (ji25) 2) != 1) = true := bne_iff_ne.mpr c26
                          have H' := Aside0.mk H
                          clear H
                          have p233 : 0 ≤ (x10_1 : Int) := of_decide_eq_true (by first | (with_reducible assumption) | assumption)
                          have q233 : x10_1 < (l0.length : Int) := of_decide_eq_true (by first | (with_reducible assumption) | assumption)
                          obtain ⟨ad233, e233, hx233_0⟩ := Kd.at_int (Kd.C_kept_now HR0.out HK.out) x10_1 p233 q233
                          cases e233
                          replace p233 := eq_true p233
                          replace q233 := eq_true q233
                          go_wp2
                          (try simp only [← hl4_2])
                          go_roundg k2
                          case measure => have := HK1.out; have := HK2.out; omega
                          case rel => exact ⟨(x4_2), (wrap64 (x12_2 + 1)), (by first | rfl | (simp; done) | (simp [*]; done)), H', ⟨by have := HK1.out; have := HK2.out; omega⟩, ⟨by (try simp only [hl4_2]); (with_reducible repeat (first | apply Kd.R_alloc | apply Kd.R_drewN | apply Kd.R_drew)); exact HO_4.out⟩, ⟨by repeat (first | (with_reducible first | exact HK.out | apply Kept.alloc | apply Kept.drewN | apply Kept.drew) | exact HK.out)⟩, ⟨by repeat (first | (with_reducible first | exact HB.out | apply below_alloc | apply pw_below_drewN | apply below_drew1) | exact HB.out)⟩⟩
                      · rw [if_neg c24] at H
                        exact absurd H (by simp)
                    · rw [if_neg c23] at H
                      exact absurd H (by simp)
                  · rw [if_neg c22] at H
                    exact absurd H (by simp)
                · rw [if_neg c21] at H
                  have c21b0 : decide (x12_2 < (l0.length : Int)) = false := decide_eq_false c21
                  clear c21
                  obtain rfl := Option.some.inj H
                  go_wp2
                  first | go_end0 | ((try simp only [Exit.inBlock, Exit.then]); refine bodyPost_ret (results_none rfl _ _ _) rfl ?_)
                  exact ⟨by first | rfl | (simp [errW_none, errW_some] <;> rfl) | (simp only [← hji14, ← hji17]; first | rfl | (simp [errW_none, errW_some] <;> rfl)) | (simp [*, errW_none, errW_some] <;> rfl), (by first | exact (by (with_reducible repeat (first | apply Kd.R_alloc | apply Kd.R_drewN | apply Kd.R_drew)); exact HO_4.out) | (simp only [hl4_2]; exact (by (with_reducible repeat (first | apply Kd.R_alloc | apply Kd.R_drewN | apply Kd.R_drew)); exact HO_4.out))), by repeat (first | (with_reducible first | exact HB.out | apply below_alloc | apply pw_below_drewN | apply below_drew1) | exact HB.out), by repeat (first | (with_reducible first | exact HK.out | apply Kept.alloc | apply Kept.drewN | apply Kept.drew) | exact HK.out)⟩
        · rw [if_neg c13] at H
          exact absurd H (by simp)

/-! ### clocheref08_matchings: function 56 -/
def clocheref08_matchings.f (k : Nat) (l0 : List Int) : Option (List Int) := if 0 ≤ (wrap64 ((l0.length : Int) + 1)) then (if (wrap64 ((l0.length : Int) + 1) : Int).toNat ≤ 35184372088832 then ((clocheref08_pair.f k l0 (wrap64 ((shl .i64 1 (l0.length : Int)) - 1)) (l0.length : Int) 1 (List.replicate (wrap64 ((l0.length : Int) + 1) : Int).toNat 0)).bind fun t238 => (some t238)) else (none)) else (none)
theorem clocheref08_matchings.mono : ∀ a0 k, LeO (clocheref08_matchings.f k a0) (clocheref08_matchings.f (k + 1) a0) := by
  intro a0 k
  unfold clocheref08_matchings.f
  repeat' first
      | (with_reducible exact clocheref08_pair.mono _ _ _ _ _ _)
      | (with_reducible exact LeO.refl _)
      | (with_reducible exact LeO.none _)
      | (with_reducible refine LeO.ite ?_ ?_)
      | (with_reducible refine LeO.bind ?_ (fun _ => ?_))
      | exact clocheref08_pair.mono _ _ _ _ _ _
      | exact LeO.none _
      | refine LeO.ite ?_ ?_
      | refine LeO.bind ?_ (fun _ => ?_)
set_option maxHeartbeats 8000000 in
set_option maxRecDepth 100000 in
theorem clocheref08_matchings.calls (k : Nat) (A0 : Option Addr) (c0 : Nat) (l0 : List Int) (r : List Int) (w : World) (hr0 : Kd.C (Kd.int .i64) w A0 l0.length l0) (hc0 : l0.length ≤ c0) (h : clocheref08_matchings.f k l0 = some r) :
    Calls Tryd.prog 56 #[.slice A0 l0.length c0] w fun e w' => ∃ v0_ : Value, e = .returned (v0_) ∧ Kd.R (Kd.int .i64) 3 w' w.heap.size (fun _ => True) v0_ r ∧ Below w.heap.size w w' := by
  have HR0 := Aside0.mk hr0
  have HC0 := Aside0.mk hc0
  clear hr0 hc0
  have HB := Aside0.mk (Below.refl w.heap.size w)
  have H : (if 0 ≤ (wrap64 ((l0.length : Int) + 1)) then (if (wrap64 ((l0.length : Int) + 1) : Int).toNat ≤ 35184372088832 then ((clocheref08_pair.f k l0 (wrap64 ((shl .i64 1 (l0.length : Int)) - 1)) (l0.length : Int) 1 (List.replicate (wrap64 ((l0.length : Int) + 1) : Int).toNat 0)).bind fun t238 => (some t238)) else (none)) else (none)) = some r := h
  clear h
  obtain ⟨ji2, hji2⟩ : ∃ j_ : Int, (wrap64 ((l0.length : Int) + 1)) = j_ := ⟨_, rfl⟩
  replace H : (if 0 ≤ (ji2) then (if (ji2 : Int).toNat ≤ 35184372088832 then ((clocheref08_pair.f k l0 (wrap64 ((shl .i64 1 (l0.length : Int)) - 1)) (l0.length : Int) 1 (List.replicate (ji2 : Int).toNat 0)).bind fun t238 => (some t238)) else (none)) else (none)) = some r := by first | (rw [hji2] at H; exact H) | (simp only [hji2] at H ⊢; exact H)
  have hji2w : (IntKind.i64.wrap ((l0.length : Int) + 1)) = ji2 := (i64_w _).trans hji2
  by_cases c3 : 0 ≤ (ji2)
  · rw [if_pos c3] at H
    have c3b0 := eq_true c3
    have c3b1 : decide (0 ≤ (ji2)) = true := decide_eq_true c3
    clear c3
    by_cases c4 : (ji2 : Int).toNat ≤ 35184372088832
    · rw [if_pos c4] at H
      have c4b0 := eq_true c4
      have c4b1 : decide ((ji2 : Int).toNat ≤ 35184372088832) = true := decide_eq_true c4
      clear c4
      obtain ⟨y235, hy235⟩ : ∃ y_ : List Int, y_ = (List.replicate (ji2 : Int).toNat 0) := ⟨_, rfl⟩
      replace H : ((clocheref08_pair.f k l0 (wrap64 ((shl .i64 1 (l0.length : Int)) - 1)) (l0.length : Int) 1 y235).bind fun t238 => (some t238)) = some r := by first | (rw [hy235]; with_reducible exact H) | (have H2_ := (Option.bind_some _ _).symm.trans H; rw [hy235]; with_reducible exact H2_) | (have H2_ := (Option.bind_some _ _).symm.trans H; with_reducible exact H2_) | with_reducible exact H | (rw [hy235]; exact H) | exact H
      have Ny235 := Aside0.mk hy235
      clear hy235
      obtain ⟨ji5, hji5⟩ : ∃ j_ : Int, (shl .i64 1 (l0.length : Int)) = j_ := ⟨_, rfl⟩
      replace H : ((clocheref08_pair.f k l0 (wrap64 ((ji5) - 1)) (l0.length : Int) 1 y235).bind fun t238 => (some t238)) = some r := by first | (rw [hji5] at H; exact H) | (simp only [hji5] at H ⊢; exact H)
      have hji5_ : (IntKind.i64.wrap (1 * 2 ^ min (l0.length : Int).toNat 64)) = ji5 := hji5
      have hji5z : (l0.length : Int) ≤ 64 → (IntKind.i64.wrap (1 * 2 ^ (l0.length : Int).toNat)) = ji5 := shl_small hji5
      have hji5p : (IntKind.i64.wrap (1 * 2 ^ min l0.length 64)) = ji5 := hji5_
      have hji5q : (l0.length : Int) ≤ 64 → (IntKind.i64.wrap (1 * 2 ^ l0.length)) = ji5 := hji5z
      have hji5r : (IntKind.i64.wrap (2 ^ min l0.length 64)) = ji5 := by have h_ := hji5p; rw [Int.one_mul] at h_; exact h_
      have hji5s : (l0.length : Int) ≤ 64 → (IntKind.i64.wrap (2 ^ l0.length)) = ji5 := fun hle_ => by have h_ := hji5q hle_; rw [Int.one_mul] at h_; exact h_
      have hji5u : (IntKind.i64.wrap (2 ^ min (l0.length : Int).toNat 64)) = ji5 := by have h_ := hji5_; rw [Int.one_mul] at h_; exact h_
      have hji5v : (l0.length : Int) ≤ 64 → (IntKind.i64.wrap (2 ^ (l0.length : Int).toNat)) = ji5 := fun hle_ => by have h_ := hji5z hle_; rw [Int.one_mul] at h_; exact h_
      have hji5y : (wrap64 (1 * 2 ^ min (l0.length : Int).toNat 64)) = ji5 := (i64_w _).symm.trans hji5_
      have hji5x : (l0.length : Int) ≤ 64 → (wrap64 (1 * 2 ^ (l0.length : Int).toNat)) = ji5 := fun h_ => (i64_w _).symm.trans (hji5z h_)
      replace H := Option.bind_eq_some_iff.mp H
      obtain ⟨t238, A60, H⟩ := H
      replace H : (some t238) = some r := H
      have A6 := Aside0.mk A60
      clear A60
      obtain rfl := Option.some.inj H
      go_enter Tryd.func56, Tryd.ntmps56
      go_wp2_with (first | ((with_reducible refine gate_dst (N := 7) rfl ?_); refine Kd.R_make (Kd.int .i64) _ 3 rfl (N := 7) rfl 22 _ _ rfl ji2 rfl rfl Tryd.underlying22 (.int .i64 0) 8 info3 rfl (by decide) (by omega) 0 (ok := fun _ => True) (okp := fun _ => True) rfl (fun _ hk => hk) trivial (of_decide_eq_true (by first | (with_reducible assumption) | assumption)) (Nat.le_trans (Nat.mul_le_mul_right _ (of_decide_eq_true (by first | (with_reducible assumption) | assumption) : ji2.toNat ≤ 35184372088832)) (by omega)) (Below.refl _ _) (Nat.le_refl _) ?_; intro v236 w7 ho8 hb hg_ hnew_; clear hg_ hnew_; (first | rw [← Ny235.out] at ho8 | (simp only [Int.reduceToNat] at ho8; rw [← Ny235.out] at ho8)); have n0_ := Aside0.mk (Kd.R_lower ho8 (below_size (by repeat (first | (with_reducible first | exact HB.out | apply below_alloc | apply pw_below_drewN | apply below_drew1) | exact HB.out)))); have n1_ := Aside0.mk (below_step (by repeat (first | (with_reducible first | exact HB.out | apply below_alloc | apply pw_below_drewN | apply below_drew1) | exact HB.out)) hb); clear HB; have HO237 := n0_; have HB := n1_; clear n0_ n1_; clear hb ho8; obtain ⟨Ao9, co9, eo9⟩ := Kd.R_slice HO237.out; subst eo9) | ((with_reducible refine gate_callee (f := 73) rfl ?_); refine goesL_ (some 16) rfl rfl Tryd.func73 (by kernel_rfl) rfl #[.slice A0 l0.length c0, .int .i64 (wrap64 ((ji5) - 1)), .int .i64 (l0.length : Int), .int .i64 1, .slice Ao9 y235.length co9] rfl (by (try simp only [List.map_toArray, List.map_cons, List.map_nil]); first | done | (simp only [hji5]; rfl) | rfl | (simp only [List.length_drop, List.length_take]; rfl)) ?_; (with_reducible refine (clocheref08_pair.calls k _ _ l0 (wrap64 ((ji5) - 1)) (l0.length : Int) 1 (fun k_ => some k_ = (.slice Ao9 y235.length co9 : Value).ownBlock) (.slice Ao9 y235.length co9) y235 t238 w _ ?side1 ?side2 ?side3 ?side4 A6.out).mono ?_); (case side1 => repeat (first | (with_reducible first | exact HB.out | apply below_alloc | apply pw_below_drewN | apply below_drew1) | exact HB.out)); (case side2 => exact Kd.C_kept_came (Kd.heap_int .i64) HR0.out (by repeat (first | (with_reducible first | exact HB.out | apply below_alloc | apply pw_below_drewN | apply below_drew1) | exact HB.out)) (fun k_ hs_ => (fun e_ => Kd.R_base HO237.out k_ e_.symm) hs_)); (case side3 => exact HC0.out); (case side4 => exact Kd.R_tight rfl HO237.out); rintro e w10 ⟨rfl, hy0, hb, hkp⟩; refine ⟨_, rfl, ?_⟩; have n0_ := Aside0.mk (Kd.R_reok rfl hy0 (fun k_ e_ => HO237.out.1 k_ e_)); have n1_ := Aside0.mk (hb); clear HO237; clear HB; have HO237 := n0_; have HB := n1_; clear n0_ n1_; (try clear hb); (try clear hkp); (try clear hy0)))
      go_ret
      exact ⟨_, by first | rfl | (simp [errW_none, errW_some] <;> rfl) | (simp only [← hji2, ← hji5]; first | rfl | (simp [errW_none, errW_some] <;> rfl)) | (simp [*, errW_none, errW_some] <;> rfl), by (with_reducible repeat (first | apply Kd.R_alloc | apply Kd.R_drewN | apply Kd.R_drew)); exact HO237.out, by repeat (first | (with_reducible first | exact HB.out | apply below_alloc | apply pw_below_drewN | apply below_drew1) | exact HB.out)⟩
    · rw [if_neg c4] at H
      exact absurd H (by simp)
  · rw [if_neg c3] at H
    exact absurd H (by simp)

end Go.Proofs.YtglalkenkmijkaaDoor.PAll
/- IsFrame: the walk, in the printed form. -/
namespace Go.Proofs.YtglalkenkmijkaaDoor.PAll
open Go.RowKit Go.Proofs.YtglalkenkmijkaaDoorW.PrintWords Go.Proofs.YtglalkenkmijkaaDoorW.PrintLast Go.Proofs.YtglalkenkmijkaaDoorW.PrintMore
open Hand
set_option linter.unusedVariables false
set_option linter.unusedSimpArgs false
def tones_IsFrame.f (_ : Nat) (l0 : List Int) : Option Bool := some (isFr l0)
theorem tones_IsFrame.mono : ∀ a0 k, LeO (tones_IsFrame.f k a0) (tones_IsFrame.f (k + 1) a0) := fun _ _ => LeO.refl _
set_option maxHeartbeats 4000000 in
theorem tones_IsFrame.calls (k : Nat) (A0 : Option Addr) (c0 : Nat) (l0 : List Int) (r : Bool) (w : World) (hr0 : Kd.C (Kd.int .i64) w A0 l0.length l0) (hc0 : l0.length ≤ c0) (h : tones_IsFrame.f k l0 = some r) :
    Calls Tryd.prog 27 #[.slice A0 l0.length c0] w fun e w' => e = .returned (.bool r) ∧ Below w.heap.size w w' := by
  injection h with h
  subst h
  have HC := Aside0.mk hr0
  clear hr0
  go_enter Tryd.func27, Tryd.ntmps27
  go_wp2_with (go_at_call 51; refine (read_calls A0 c0 l0 _ HC.out hc0).mono ?_; rintro e w' ⟨rfl, ⟨n, rfl⟩⟩)
  all_goals
    go_ret
    exact ⟨rfl, pw_below_drewN (Below.refl _ _) n⟩
end Go.Proofs.YtglalkenkmijkaaDoor.PAll
namespace Go.Proofs.YtglalkenkmijkaaDoor.PAll
open Go.RowKit Go.Proofs.YtglalkenkmijkaaDoorW.PrintWords Go.Proofs.YtglalkenkmijkaaDoorW.PrintLast Go.Proofs.YtglalkenkmijkaaDoorW.PrintMore
attribute [local go_sem] max2_int min2_int max_two min_two max_three min_three max_four min_four   -- for this text's walks alone
set_option linter.unusedVariables false
set_option linter.unusedSimpArgs false

/-! ### clocheref08_Tones: function 28 -/
def clocheref08_Tones.f (k : Nat) (l0 : List Int) : Option (List Int × Int) := (clocheref08_IsFrame.f k l0).bind fun t646 => (if t646 = true then ((clocheref08_tones.f k l0).bind fun t647 => (some (t647, 0))) else (some (([] : List Int), 2)))
theorem clocheref08_Tones.mono : ∀ a0 k, LeO (clocheref08_Tones.f k a0) (clocheref08_Tones.f (k + 1) a0) := by
  intro a0 k
  unfold clocheref08_Tones.f
  repeat' first
      | (with_reducible exact clocheref08_IsFrame.mono _ _)
      | (with_reducible exact clocheref08_tones.mono _ _)
      | (with_reducible exact LeO.refl _)
      | (with_reducible exact LeO.none _)
      | (with_reducible refine LeO.ite ?_ ?_)
      | (with_reducible refine LeO.bind ?_ (fun _ => ?_))
      | exact clocheref08_IsFrame.mono _ _
      | exact clocheref08_tones.mono _ _
      | exact LeO.none _
      | refine LeO.ite ?_ ?_
      | refine LeO.bind ?_ (fun _ => ?_)
set_option maxHeartbeats 8000000 in
set_option maxRecDepth 100000 in
theorem clocheref08_Tones.calls (k : Nat) (A0 : Option Addr) (c0 : Nat) (l0 : List Int) (r1 : List Int) (r2 : Int) (w : World) (hr0 : Kd.C (Kd.int .i64) w A0 l0.length l0) (hc0 : l0.length ≤ c0) (h : clocheref08_Tones.f k l0 = some (r1, r2)) :
    Calls Tryd.prog 28 #[.slice A0 l0.length c0] w fun e w' => ∃ v0_ : Value, e = .returned (.tuple #[v0_, .int .i64 r2]) ∧ Kd.R (Kd.int .i64) 3 w' w.heap.size (fun _ => True) v0_ r1 ∧ Below w.heap.size w w' := by
  have HR0 := Aside0.mk hr0
  have HC0 := Aside0.mk hc0
  clear hr0 hc0
  have HB := Aside0.mk (Below.refl w.heap.size w)
  have H : ((clocheref08_IsFrame.f k l0).bind fun t646 => (if t646 = true then ((clocheref08_tones.f k l0).bind fun t647 => (some (t647, 0))) else (some (([] : List Int), 2)))) = some (r1, r2) := h
  clear h
  replace H := Option.bind_eq_some_iff.mp H
  obtain ⟨t646, A20, H⟩ := H
  replace H : (if t646 = true then ((clocheref08_tones.f k l0).bind fun t647 => (some (t647, 0))) else (some (([] : List Int), 2))) = some (r1, r2) := H
  have A2 := Aside0.mk A20
  clear A20
  by_cases c3 : t646 = true
  · subst c3
    have H1 : ((clocheref08_tones.f k l0).bind fun t647 => (some (t647, 0))) = some (r1, r2) := by rw [if_pos rfl] at H; exact H
    clear H
    have H := H1
    clear H1
    replace H := Option.bind_eq_some_iff.mp H
    obtain ⟨t647, A40, H⟩ := H
    replace H : (some (t647, 0)) = some (r1, r2) := H
    have A4 := Aside0.mk A40
    clear A40
    simp only [Option.some.injEq, Prod.mk.injEq] at H
    obtain ⟨rfl, rfl⟩ := H
    go_enter Tryd.func28, Tryd.ntmps28
    go_wp2_with (first | ((with_reducible refine gate_callee (f := 20) rfl ?_); refine goesL_ (some 5) rfl rfl Tryd.func20 (by kernel_rfl) rfl #[.slice A0 l0.length c0] rfl (by (try simp only [List.map_toArray, List.map_cons, List.map_nil]); first | done | rfl | (simp only [List.length_drop, List.length_take]; rfl)) ?_; (with_reducible refine (clocheref08_IsFrame.calls k _ _ l0 true _ ?side1 ?side2 A2.out).mono ?_); (case side1 => repeat (first | exact HR0.out | (with_reducible refine Kd.C_alloc ?_ _) | (with_reducible refine Kd.C_drewN ?_ _) | (with_reducible refine Kd.C_drew ?_))); (case side2 => exact HC0.out); rintro e w' ⟨rfl, ⟨nd, rfl⟩⟩; refine ⟨_, rfl, ?_⟩) | ((with_reducible refine gate_callee (f := 55) rfl ?_); refine goesL_ (some 8) rfl rfl Tryd.func55 (by kernel_rfl) rfl #[.slice A0 l0.length c0] rfl (by (try simp only [List.map_toArray, List.map_cons, List.map_nil]); first | done | rfl | (simp only [List.length_drop, List.length_take]; rfl)) ?_; (with_reducible refine (clocheref08_tones.calls k _ _ l0 t647 _ ?side1 ?side2 A4.out).mono ?_); (case side1 => repeat (first | exact HR0.out | (with_reducible refine Kd.C_alloc ?_ _) | (with_reducible refine Kd.C_drewN ?_ _) | (with_reducible refine Kd.C_drew ?_))); (case side2 => exact HC0.out); rintro e w5 ⟨v648, rfl, ho0, hb⟩; refine ⟨_, rfl, ?_⟩; have n0_ := Aside0.mk (Kd.R_lower ho0 (below_size (by repeat (first | (with_reducible first | exact HB.out | apply below_alloc | apply pw_below_drewN | apply below_drew1) | exact HB.out)))); have n1_ := Aside0.mk (below_step (by repeat (first | (with_reducible first | exact HB.out | apply below_alloc | apply pw_below_drewN | apply below_drew1) | exact HB.out)) hb); clear HB; have HO649 := n0_; have HB := n1_; clear n0_ n1_; (try clear hb); (try clear hb2); (try clear hk); (try clear hi); (try clear ho0)))
    go_ret2
    exact ⟨_, by first | rfl | (simp [errW_none, errW_some] <;> rfl) | (simp [*, errW_none, errW_some] <;> rfl), by (with_reducible repeat (first | apply Kd.R_alloc | apply Kd.R_drewN | apply Kd.R_drew)); exact HO649.out, by repeat (first | (with_reducible first | exact HB.out | apply below_alloc | apply pw_below_drewN | apply below_drew1) | exact HB.out)⟩
  · replace c3 := Bool.eq_false_iff.mpr c3
    subst c3
    have H1 : (some (([] : List Int), 2)) = some (r1, r2) := by rw [if_neg (show ¬ (false = true) by decide)] at H; exact H
    clear H
    have H := H1
    clear H1
    simp only [Option.some.injEq, Prod.mk.injEq] at H
    obtain ⟨rfl, rfl⟩ := H
    go_enter Tryd.func28, Tryd.ntmps28
    go_wp2_with (first | ((with_reducible refine gate_callee (f := 20) rfl ?_); refine goesL_ (some 5) rfl rfl Tryd.func20 (by kernel_rfl) rfl #[.slice A0 l0.length c0] rfl (by (try simp only [List.map_toArray, List.map_cons, List.map_nil]); first | done | rfl | (simp only [List.length_drop, List.length_take]; rfl)) ?_; (with_reducible refine (clocheref08_IsFrame.calls k _ _ l0 false _ ?side1 ?side2 A2.out).mono ?_); (case side1 => repeat (first | exact HR0.out | (with_reducible refine Kd.C_alloc ?_ _) | (with_reducible refine Kd.C_drewN ?_ _) | (with_reducible refine Kd.C_drew ?_))); (case side2 => exact HC0.out); rintro e w' ⟨rfl, ⟨nd, rfl⟩⟩; refine ⟨_, rfl, ?_⟩))
    go_ret2
    exact ⟨_, by first | rfl | (simp [errW_none, errW_some] <;> rfl) | (simp [*, errW_none, errW_some] <;> rfl), by first | exact Kd.R_nil _ _ _ _ _ | exact Kd.N_nil _ _ _ _ _ | exact Kd.V_nil _ _ _ _ _ | exact Kd.Q_nil _ _ _ _ _ | exact Kd.S_nil _ _ _ _ _, by repeat (first | (with_reducible first | exact HB.out | apply below_alloc | apply pw_below_drewN | apply below_drew1) | exact HB.out)⟩

/-! ### clocheref08_Matchings: function 30 -/
def clocheref08_Matchings.f (k : Nat) (l0 : List Int) : Option (List Int × Int) := (clocheref08_IsFrame.f k l0).bind fun t650 => (if t650 = true then ((clocheref08_matchings.f k l0).bind fun t651 => (some (t651, 0))) else (some (([] : List Int), 2)))
theorem clocheref08_Matchings.mono : ∀ a0 k, LeO (clocheref08_Matchings.f k a0) (clocheref08_Matchings.f (k + 1) a0) := by
  intro a0 k
  unfold clocheref08_Matchings.f
  repeat' first
      | (with_reducible exact clocheref08_IsFrame.mono _ _)
      | (with_reducible exact clocheref08_matchings.mono _ _)
      | (with_reducible exact LeO.refl _)
      | (with_reducible exact LeO.none _)
      | (with_reducible refine LeO.ite ?_ ?_)
      | (with_reducible refine LeO.bind ?_ (fun _ => ?_))
      | exact clocheref08_IsFrame.mono _ _
      | exact clocheref08_matchings.mono _ _
      | exact LeO.none _
      | refine LeO.ite ?_ ?_
      | refine LeO.bind ?_ (fun _ => ?_)
set_option maxHeartbeats 8000000 in
set_option maxRecDepth 100000 in
theorem clocheref08_Matchings.calls (k : Nat) (A0 : Option Addr) (c0 : Nat) (l0 : List Int) (r1 : List Int) (r2 : Int) (w : World) (hr0 : Kd.C (Kd.int .i64) w A0 l0.length l0) (hc0 : l0.length ≤ c0) (h : clocheref08_Matchings.f k l0 = some (r1, r2)) :
    Calls Tryd.prog 30 #[.slice A0 l0.length c0] w fun e w' => ∃ v0_ : Value, e = .returned (.tuple #[v0_, .int .i64 r2]) ∧ Kd.R (Kd.int .i64) 3 w' w.heap.size (fun _ => True) v0_ r1 ∧ Below w.heap.size w w' := by
  have HR0 := Aside0.mk hr0
  have HC0 := Aside0.mk hc0
  clear hr0 hc0
  have HB := Aside0.mk (Below.refl w.heap.size w)
  have H : ((clocheref08_IsFrame.f k l0).bind fun t650 => (if t650 = true then ((clocheref08_matchings.f k l0).bind fun t651 => (some (t651, 0))) else (some (([] : List Int), 2)))) = some (r1, r2) := h
  clear h
  replace H := Option.bind_eq_some_iff.mp H
  obtain ⟨t650, A20, H⟩ := H
  replace H : (if t650 = true then ((clocheref08_matchings.f k l0).bind fun t651 => (some (t651, 0))) else (some (([] : List Int), 2))) = some (r1, r2) := H
  have A2 := Aside0.mk A20
  clear A20
  by_cases c3 : t650 = true
  · subst c3
    have H1 : ((clocheref08_matchings.f k l0).bind fun t651 => (some (t651, 0))) = some (r1, r2) := by rw [if_pos rfl] at H; exact H
    clear H
    have H := H1
    clear H1
    replace H := Option.bind_eq_some_iff.mp H
    obtain ⟨t651, A40, H⟩ := H
    replace H : (some (t651, 0)) = some (r1, r2) := H
    have A4 := Aside0.mk A40
    clear A40
    simp only [Option.some.injEq, Prod.mk.injEq] at H
    obtain ⟨rfl, rfl⟩ := H
    go_enter Tryd.func30, Tryd.ntmps30
    go_wp2_with (first | ((with_reducible refine gate_callee (f := 20) rfl ?_); refine goesL_ (some 5) rfl rfl Tryd.func20 (by kernel_rfl) rfl #[.slice A0 l0.length c0] rfl (by (try simp only [List.map_toArray, List.map_cons, List.map_nil]); first | done | rfl | (simp only [List.length_drop, List.length_take]; rfl)) ?_; (with_reducible refine (clocheref08_IsFrame.calls k _ _ l0 true _ ?side1 ?side2 A2.out).mono ?_); (case side1 => repeat (first | exact HR0.out | (with_reducible refine Kd.C_alloc ?_ _) | (with_reducible refine Kd.C_drewN ?_ _) | (with_reducible refine Kd.C_drew ?_))); (case side2 => exact HC0.out); rintro e w' ⟨rfl, ⟨nd, rfl⟩⟩; refine ⟨_, rfl, ?_⟩) | ((with_reducible refine gate_callee (f := 56) rfl ?_); refine goesL_ (some 8) rfl rfl Tryd.func56 (by kernel_rfl) rfl #[.slice A0 l0.length c0] rfl (by (try simp only [List.map_toArray, List.map_cons, List.map_nil]); first | done | rfl | (simp only [List.length_drop, List.length_take]; rfl)) ?_; (with_reducible refine (clocheref08_matchings.calls k _ _ l0 t651 _ ?side1 ?side2 A4.out).mono ?_); (case side1 => repeat (first | exact HR0.out | (with_reducible refine Kd.C_alloc ?_ _) | (with_reducible refine Kd.C_drewN ?_ _) | (with_reducible refine Kd.C_drew ?_))); (case side2 => exact HC0.out); rintro e w5 ⟨v652, rfl, ho0, hb⟩; refine ⟨_, rfl, ?_⟩; have n0_ := Aside0.mk (Kd.R_lower ho0 (below_size (by repeat (first | (with_reducible first | exact HB.out | apply below_alloc | apply pw_below_drewN | apply below_drew1) | exact HB.out)))); have n1_ := Aside0.mk (below_step (by repeat (first | (with_reducible first | exact HB.out | apply below_alloc | apply pw_below_drewN | apply below_drew1) | exact HB.out)) hb); clear HB; have HO653 := n0_; have HB := n1_; clear n0_ n1_; (try clear hb); (try clear hb2); (try clear hk); (try clear hi); (try clear ho0)))
    go_ret2
    exact ⟨_, by first | rfl | (simp [errW_none, errW_some] <;> rfl) | (simp [*, errW_none, errW_some] <;> rfl), by (with_reducible repeat (first | apply Kd.R_alloc | apply Kd.R_drewN | apply Kd.R_drew)); exact HO653.out, by repeat (first | (with_reducible first | exact HB.out | apply below_alloc | apply pw_below_drewN | apply below_drew1) | exact HB.out)⟩
  · replace c3 := Bool.eq_false_iff.mpr c3
    subst c3
    have H1 : (some (([] : List Int), 2)) = some (r1, r2) := by rw [if_neg (show ¬ (false = true) by decide)] at H; exact H
    clear H
    have H := H1
    clear H1
    simp only [Option.some.injEq, Prod.mk.injEq] at H
    obtain ⟨rfl, rfl⟩ := H
    go_enter Tryd.func30, Tryd.ntmps30
    go_wp2_with (first | ((with_reducible refine gate_callee (f := 20) rfl ?_); refine goesL_ (some 5) rfl rfl Tryd.func20 (by kernel_rfl) rfl #[.slice A0 l0.length c0] rfl (by (try simp only [List.map_toArray, List.map_cons, List.map_nil]); first | done | rfl | (simp only [List.length_drop, List.length_take]; rfl)) ?_; (with_reducible refine (clocheref08_IsFrame.calls k _ _ l0 false _ ?side1 ?side2 A2.out).mono ?_); (case side1 => repeat (first | exact HR0.out | (with_reducible refine Kd.C_alloc ?_ _) | (with_reducible refine Kd.C_drewN ?_ _) | (with_reducible refine Kd.C_drew ?_))); (case side2 => exact HC0.out); rintro e w' ⟨rfl, ⟨nd, rfl⟩⟩; refine ⟨_, rfl, ?_⟩))
    go_ret2
    exact ⟨_, by first | rfl | (simp [errW_none, errW_some] <;> rfl) | (simp [*, errW_none, errW_some] <;> rfl), by first | exact Kd.R_nil _ _ _ _ _ | exact Kd.N_nil _ _ _ _ _ | exact Kd.V_nil _ _ _ _ _ | exact Kd.Q_nil _ _ _ _ _ | exact Kd.S_nil _ _ _ _ _, by repeat (first | (with_reducible first | exact HB.out | apply below_alloc | apply pw_below_drewN | apply below_drew1) | exact HB.out)⟩

/-! ### clochelaw08_TonesPolynomials: function 6 -/
def clochelaw08_TonesPolynomials.j0 : Nat → List Int → List Int → Bool → Option (Bool)
  | 0, _, _, _ => none
  | k + 1, x0, x3, x38 => if x38 = true then (some false) else ((tones_Matchings.f k x3).bind fun bt673 => ((clocheref08_Matchings.f k x0).bind fun bt677 => ((clocheref08_Same.f k bt673.1 bt677.1).bind fun t681 => (if t681 = true then (if bt673.2 = bt677.2 then ((clocheref08_Same.f k x3 x0).bind fun t682 => (if t682 = true then ((clochelaw08_alive.f).bind fun t683 => (some t683)) else (some false))) else (some false)) else (some false)))))
def clochelaw08_TonesPolynomials.f (k : Nat) (l0 : List Int) : Option (Bool) := (clochelaw08_few.f l0 ([] : List Int)).bind fun t654 => (if t654 = true then ((some (([] : List Int) : List Int)).bind fun y656 => (if y656.length + l0.length < 17592186044416 then ((some (y656 ++ l0 : List Int)).bind fun y659 => ((tones_IsFrame.f k y659).bind fun t662 => ((clocheref08_IsFrame.f k l0).bind fun t663 => (if (t662 != t663) = true then (some false) else ((tones_Tones.f k y659).bind fun bt664 => ((clocheref08_Tones.f k l0).bind fun bt668 => ((clocheref08_Same.f k bt664.1 bt668.1).bind fun t672 => (if t672 = true then (clochelaw08_TonesPolynomials.j0 k l0 y659 (bt664.2 != bt668.2)) else (clochelaw08_TonesPolynomials.j0 k l0 y659 true))))))))) else (none))) else ((clochelaw08_alive.f).bind fun t655 => (some t655)))
theorem clochelaw08_TonesPolynomials.mono_l : ∀ k, (∀ y0 y1 y2, LeO (clochelaw08_TonesPolynomials.j0 k y0 y1 y2) (clochelaw08_TonesPolynomials.j0 (k + 1) y0 y1 y2))
  | 0 => fun _ _ _ r h => by simp [clochelaw08_TonesPolynomials.j0] at h
  | k + 1 => by
    have ih0 := clochelaw08_TonesPolynomials.mono_l k
    · intro y0 y1 y2
      unfold clochelaw08_TonesPolynomials.j0
      repeat' first
      | (with_reducible exact ih0 _ _ _)
      | (with_reducible exact clocheref08_IsFrame.mono _ _)
      | (with_reducible exact clocheref08_Matchings.mono _ _)
      | (with_reducible exact clocheref08_Same.mono _ _ _)
      | (with_reducible exact clocheref08_Tones.mono _ _)
      | (with_reducible exact tones_IsFrame.mono _ _)
      | (with_reducible exact tones_Matchings.mono _ _)
      | (with_reducible exact tones_Tones.mono _ _)
      | (with_reducible exact LeO.refl _)
      | (with_reducible exact LeO.none _)
      | (with_reducible refine LeO.ite ?_ ?_)
      | (with_reducible refine LeO.bind ?_ (fun _ => ?_))
      | exact ih0 _ _ _
      | exact clocheref08_IsFrame.mono _ _
      | exact clocheref08_Matchings.mono _ _
      | exact clocheref08_Same.mono _ _ _
      | exact clocheref08_Tones.mono _ _
      | exact tones_IsFrame.mono _ _
      | exact tones_Matchings.mono _ _
      | exact tones_Tones.mono _ _
      | exact LeO.none _
      | refine LeO.ite ?_ ?_
      | refine LeO.bind ?_ (fun _ => ?_)
theorem clochelaw08_TonesPolynomials.mono : ∀ a0 k, LeO (clochelaw08_TonesPolynomials.f k a0) (clochelaw08_TonesPolynomials.f (k + 1) a0) := by
  intro a0 k
  have ih0 := clochelaw08_TonesPolynomials.mono_l k
  unfold clochelaw08_TonesPolynomials.f
  repeat' first
      | (with_reducible exact ih0 _ _ _)
      | (with_reducible exact clocheref08_IsFrame.mono _ _)
      | (with_reducible exact clocheref08_Matchings.mono _ _)
      | (with_reducible exact clocheref08_Same.mono _ _ _)
      | (with_reducible exact clocheref08_Tones.mono _ _)
      | (with_reducible exact tones_IsFrame.mono _ _)
      | (with_reducible exact tones_Matchings.mono _ _)
      | (with_reducible exact tones_Tones.mono _ _)
      | (with_reducible exact LeO.refl _)
      | (with_reducible exact LeO.none _)
      | (with_reducible refine LeO.ite ?_ ?_)
      | (with_reducible refine LeO.bind ?_ (fun _ => ?_))
      | exact ih0 _ _ _
      | exact clocheref08_IsFrame.mono _ _
      | exact clocheref08_Matchings.mono _ _
      | exact clocheref08_Same.mono _ _ _
      | exact clocheref08_Tones.mono _ _
      | exact tones_IsFrame.mono _ _
      | exact tones_Matchings.mono _ _
      | exact tones_Tones.mono _ _
      | exact LeO.none _
      | refine LeO.ite ?_ ?_
      | refine LeO.bind ?_ (fun _ => ?_)
set_option maxHeartbeats 8000000 in
set_option maxRecDepth 100000 in
theorem clochelaw08_TonesPolynomials.calls (k : Nat) (A0 : Option Addr) (c0 : Nat) (l0 : List Int) (r : Bool) (w : World) (hr0 : Kd.C (Kd.int .i64) w A0 l0.length l0) (hc0 : l0.length ≤ c0) (h : clochelaw08_TonesPolynomials.f k l0 = some r) (hG : Hand.Glob w := by first | exact HG.out | exact Hand.Glob.of_below HG.out HB.out | exact Hand.Glob.of_below HG.out (by repeat (first | (with_reducible first | exact HB.out | exact Below.refl _ _ | apply below_alloc | apply pw_below_drewN | apply below_drew1) | exact HB.out | refine below_set ?_ (by with_reducible assumption)))) :
    Calls Tryd.prog 6 #[.slice A0 l0.length c0] w fun e w' => e = .returned (.bool r) ∧ Below w.heap.size w w' := by
  have HG := Aside0.mk hG
  clear hG
  have HR0 := Aside0.mk hr0
  have HC0 := Aside0.mk hc0
  clear hr0 hc0
  have HB := Aside0.mk (Below.refl w.heap.size w)
  have H : ((clochelaw08_few.f l0 ([] : List Int)).bind fun t654 => (if t654 = true then ((some (([] : List Int) : List Int)).bind fun y656 => (if y656.length + l0.length < 17592186044416 then ((some (y656 ++ l0 : List Int)).bind fun y659 => ((tones_IsFrame.f k y659).bind fun t662 => ((clocheref08_IsFrame.f k l0).bind fun t663 => (if (t662 != t663) = true then (some false) else ((tones_Tones.f k y659).bind fun bt664 => ((clocheref08_Tones.f k l0).bind fun bt668 => ((clocheref08_Same.f k bt664.1 bt668.1).bind fun t672 => (if t672 = true then (clochelaw08_TonesPolynomials.j0 k l0 y659 (bt664.2 != bt668.2)) else (clochelaw08_TonesPolynomials.j0 k l0 y659 true))))))))) else (none))) else ((clochelaw08_alive.f).bind fun t655 => (some t655)))) = some r := h
  clear h
  replace H := Option.bind_eq_some_iff.mp H
  obtain ⟨t654, A20, H⟩ := H
  replace H : (if t654 = true then ((some (([] : List Int) : List Int)).bind fun y656 => (if y656.length + l0.length < 17592186044416 then ((some (y656 ++ l0 : List Int)).bind fun y659 => ((tones_IsFrame.f k y659).bind fun t662 => ((clocheref08_IsFrame.f k l0).bind fun t663 => (if (t662 != t663) = true then (some false) else ((tones_Tones.f k y659).bind fun bt664 => ((clocheref08_Tones.f k l0).bind fun bt668 => ((clocheref08_Same.f k bt664.1 bt668.1).bind fun t672 => (if t672 = true then (clochelaw08_TonesPolynomials.j0 k l0 y659 (bt664.2 != bt668.2)) else (clochelaw08_TonesPolynomials.j0 k l0 y659 true))))))))) else (none))) else ((clochelaw08_alive.f).bind fun t655 => (some t655))) = some r := H
  have A2 := Aside0.mk A20
  clear A20
  by_cases c3 : t654 = true
  · subst c3
    have H1 : ((some (([] : List Int) : List Int)).bind fun y656 => (if y656.length + l0.length < 17592186044416 then ((some (y656 ++ l0 : List Int)).bind fun y659 => ((tones_IsFrame.f k y659).bind fun t662 => ((clocheref08_IsFrame.f k l0).bind fun t663 => (if (t662 != t663) = true then (some false) else ((tones_Tones.f k y659).bind fun bt664 => ((clocheref08_Tones.f k l0).bind fun bt668 => ((clocheref08_Same.f k bt664.1 bt668.1).bind fun t672 => (if t672 = true then (clochelaw08_TonesPolynomials.j0 k l0 y659 (bt664.2 != bt668.2)) else (clochelaw08_TonesPolynomials.j0 k l0 y659 true))))))))) else (none))) = some r := by rw [if_pos rfl] at H; exact H
    clear H
    have H := H1
    clear H1
    obtain ⟨y656, hy656⟩ : ∃ y_ : List Int, y_ = (([] : List Int)) := ⟨_, rfl⟩
    replace H : (if y656.length + l0.length < 17592186044416 then ((some (y656 ++ l0 : List Int)).bind fun y659 => ((tones_IsFrame.f k y659).bind fun t662 => ((clocheref08_IsFrame.f k l0).bind fun t663 => (if (t662 != t663) = true then (some false) else ((tones_Tones.f k y659).bind fun bt664 => ((clocheref08_Tones.f k l0).bind fun bt668 => ((clocheref08_Same.f k bt664.1 bt668.1).bind fun t672 => (if t672 = true then (clochelaw08_TonesPolynomials.j0 k l0 y659 (bt664.2 != bt668.2)) else (clochelaw08_TonesPolynomials.j0 k l0 y659 true))))))))) else (none)) = some r := by first | (rw [hy656]; with_reducible exact H) | (have H2_ := (Option.bind_some _ _).symm.trans H; rw [hy656]; with_reducible exact H2_) | (have H2_ := (Option.bind_some _ _).symm.trans H; with_reducible exact H2_) | with_reducible exact H | (rw [hy656]; exact H) | exact H
    have Ny656 := Aside0.mk hy656
    clear hy656
    by_cases c4 : y656.length + l0.length < 17592186044416
    · rw [if_pos c4] at H
      have LMc4 := Aside0.mk c4
      clear c4
      obtain ⟨y659, hy659⟩ : ∃ y_ : List Int, y_ = (y656 ++ l0) := ⟨_, rfl⟩
      replace H : ((tones_IsFrame.f k y659).bind fun t662 => ((clocheref08_IsFrame.f k l0).bind fun t663 => (if (t662 != t663) = true then (some false) else ((tones_Tones.f k y659).bind fun bt664 => ((clocheref08_Tones.f k l0).bind fun bt668 => ((clocheref08_Same.f k bt664.1 bt668.1).bind fun t672 => (if t672 = true then (clochelaw08_TonesPolynomials.j0 k l0 y659 (bt664.2 != bt668.2)) else (clochelaw08_TonesPolynomials.j0 k l0 y659 true)))))))) = some r := by first | (rw [hy659]; with_reducible exact H) | (have H2_ := (Option.bind_some _ _).symm.trans H; rw [hy659]; with_reducible exact H2_) | (have H2_ := (Option.bind_some _ _).symm.trans H; with_reducible exact H2_) | with_reducible exact H | (rw [hy659]; exact H) | exact H
      have Ny659 := Aside0.mk hy659
      clear hy659
      replace H := Option.bind_eq_some_iff.mp H
      obtain ⟨t662, A50, H⟩ := H
      replace H : ((clocheref08_IsFrame.f k l0).bind fun t663 => (if (t662 != t663) = true then (some false) else ((tones_Tones.f k y659).bind fun bt664 => ((clocheref08_Tones.f k l0).bind fun bt668 => ((clocheref08_Same.f k bt664.1 bt668.1).bind fun t672 => (if t672 = true then (clochelaw08_TonesPolynomials.j0 k l0 y659 (bt664.2 != bt668.2)) else (clochelaw08_TonesPolynomials.j0 k l0 y659 true))))))) = some r := H
      have A5 := Aside0.mk A50
      clear A50
      replace H := Option.bind_eq_some_iff.mp H
      obtain ⟨t663, A60, H⟩ := H
      replace H : (if (t662 != t663) = true then (some false) else ((tones_Tones.f k y659).bind fun bt664 => ((clocheref08_Tones.f k l0).bind fun bt668 => ((clocheref08_Same.f k bt664.1 bt668.1).bind fun t672 => (if t672 = true then (clochelaw08_TonesPolynomials.j0 k l0 y659 (bt664.2 != bt668.2)) else (clochelaw08_TonesPolynomials.j0 k l0 y659 true)))))) = some r := H
      have A6 := Aside0.mk A60
      clear A60
      by_cases c7 : (t662 != t663) = true
      · rw [if_pos c7] at H
        have c7b0 : (t662 != t663) = true := c7
        (try (have c7b1 : decide (t662 = t663) = false := by simpa using c7))
        (try (have c7b2 : (t662 == t663) = false := by simpa using c7))
        (try (have c7b3 : ¬ (t662 = t663) := by simpa using c7))
        clear c7
        obtain rfl := Option.some.inj H
        go_enter Tryd.func6, Tryd.ntmps6
        go_wp2_with (first | ((with_reducible refine gate_callee (f := 16) rfl ?_); refine goesL_ (some 9) rfl rfl Tryd.func16 (by kernel_rfl) rfl #[.slice A0 l0.length c0, .slice none 0 0] rfl (by (try simp only [List.map_toArray, List.map_cons, List.map_nil]); first | done | rfl | (simp only [List.length_drop, List.length_take]; rfl)) ?_; (refine (clochelaw08_few.calls _ _ l0 _ _ ([] : List Int) true _ ?side1 ?side2 ?side3 ?side4 A2.out).mono ?_); (case side1 => repeat (first | exact HR0.out | (with_reducible refine Kd.C_alloc ?_ _) | (with_reducible refine Kd.C_drewN ?_ _) | (with_reducible refine Kd.C_drew ?_))); (case side2 => exact HC0.out); (case side3 => exact Kd.C_nil _ _); (case side4 => exact Nat.le_refl _); rintro e w' ⟨rfl, ⟨nd, rfl⟩⟩; refine ⟨_, rfl, ?_⟩) | ((with_reducible refine gate_dst (N := 12) rfl ?_); refine Kd.R_lit (Kd.int .i64) _ 3 ?hg (N := 12) ?hd (xs := ([] : List Int)) (inner := []) (ok := fun _ => True) (okp := fun _ => True) ?hr ?hp (fun _ hk => hk) trivial (Below.refl _ _) (Nat.le_refl _) (by simp) ?_; (case hd => rfl); (case hg => rfl); (case hr => first | (go_simp; done) | (go_simp; rfl)); (case hp => exact (Reps.none _ _)); intro v657 w8 ho9 hb hg_ hnew_; clear hg_ hnew_; (first | rw [← Ny656.out] at ho9 | (simp only [Int.reduceToNat] at ho9; rw [← Ny656.out] at ho9)); have n0_ := Aside0.mk (Kd.R_lower ho9 (below_size (by repeat (first | (with_reducible first | exact HB.out | apply below_alloc | apply pw_below_drewN | apply below_drew1) | exact HB.out)))); have n1_ := Aside0.mk (below_step (by repeat (first | (with_reducible first | exact HB.out | apply below_alloc | apply pw_below_drewN | apply below_drew1) | exact HB.out)) hb); clear HB; have HO658 := n0_; have HB := n1_; clear n0_ n1_; clear hb ho9) | ((with_reducible refine gate_builtin (b := .append) (xs := #[.tmp 12, .tmp 13]) rfl ?_); at_builtin; refine Kd.R_append_rows (Kd.int .i64) (w0 := w) w.heap.size rfl (.tmp 12) (.tmp 13) 22 3 (.int .i64 0) 8 rfl Tryd.underlying22 info3 rfl (by decide) (by omega) v657 y656 l0 _ _ _ (fun _ => True) (fun _ => False) rfl rfl ?aO ?aR (fun _ _ h => h) (fun _ h => h.elim) ?aF ?aB ?aS ?aL ?_; (case aR => repeat (first | exact (Kd.C_below HR0.out HB.out) | (with_reducible refine Kd.C_alloc ?_ _) | (with_reducible refine Kd.C_drewN ?_ _) | (with_reducible refine Kd.C_drew ?_))); (case aB => exact (by repeat (first | (with_reducible first | exact HB.out | apply below_alloc | apply pw_below_drewN | apply below_drew1) | exact HB.out))); (case aF => exact (fun _ _ => trivial)); (case aO => exact (by (with_reducible repeat (first | apply Kd.R_alloc | apply Kd.R_drewN | apply Kd.R_drew)); exact HO658.out)); (case aS => exact (below_size (by repeat (first | (with_reducible first | exact HB.out | apply below_alloc | apply pw_below_drewN | apply below_drew1) | exact HB.out)))); (case aL => have := LMc4.out; omega); intro v660 w10 ho hb hg hat; rw [← Ny659.out] at ho; have n0_ := Aside0.mk (hb); have n1_ := Aside0.mk (ho); clear HB; clear HO658; have HB := n0_; have HO661 := n1_; clear n0_ n1_; clear ho hb hg hat; obtain ⟨Ao11, co11, eo11⟩ := Kd.R_slice HO661.out; subst eo11) | ((with_reducible refine gate_callee (f := 27) rfl ?_); refine goesL_ (some 16) rfl rfl Tryd.func27 (by kernel_rfl) rfl #[.slice Ao11 y659.length co11] rfl (by (try simp only [List.map_toArray, List.map_cons, List.map_nil]); first | done | rfl | (simp only [List.length_drop, List.length_take]; rfl)) ?_; (with_reducible refine (tones_IsFrame.calls k _ _ y659 t662 _ ?side1 ?side2 A5.out).mono ?_); (case side1 => repeat (first | exact (Kd.R_reads' HO661.out).2.2 | (with_reducible refine Kd.C_alloc ?_ _) | (with_reducible refine Kd.C_drewN ?_ _) | (with_reducible refine Kd.C_drew ?_))); (case side2 => exact (Kd.R_reads' HO661.out).2.1); rintro e w12 ⟨rfl, hb⟩; refine ⟨_, rfl, ?_⟩; have n0_ := Aside0.mk (Kd.R_below (by (with_reducible repeat (first | apply Kd.R_alloc | apply Kd.R_drewN | apply Kd.R_drew)); exact HO661.out) hb); have n1_ := Aside0.mk (below_step (by repeat (first | (with_reducible first | exact HB.out | apply below_alloc | apply pw_below_drewN | apply below_drew1) | exact HB.out)) hb); clear HO661; clear HB; have HO661 := n0_; have HB := n1_; clear n0_ n1_; (try clear hb); (try clear hb2); (try clear hk); (try clear hi)) | ((with_reducible refine gate_callee (f := 20) rfl ?_); refine goesL_ (some 18) rfl rfl Tryd.func20 (by kernel_rfl) rfl #[.slice A0 l0.length c0] rfl (by (try simp only [List.map_toArray, List.map_cons, List.map_nil]); first | done | rfl | (simp only [List.length_drop, List.length_take]; rfl)) ?_; (with_reducible refine (clocheref08_IsFrame.calls k _ _ l0 t663 _ ?side1 ?side2 A6.out).mono ?_); (case side1 => repeat (first | exact (Kd.C_below HR0.out HB.out) | (with_reducible refine Kd.C_alloc ?_ _) | (with_reducible refine Kd.C_drewN ?_ _) | (with_reducible refine Kd.C_drew ?_))); (case side2 => exact HC0.out); rintro e w' ⟨rfl, ⟨nd, rfl⟩⟩; refine ⟨_, rfl, ?_⟩))
        go_ret
        exact ⟨by first | rfl | (simp [errW_none, errW_some] <;> rfl) | (simp [*, errW_none, errW_some] <;> rfl), by repeat (first | (with_reducible first | exact HB.out | apply below_alloc | apply pw_below_drewN | apply below_drew1) | exact HB.out)⟩
      · rw [if_neg c7] at H
        have c7b0 : (t662 != t663) = false := by simpa using c7
        (try (have c7b1 : decide (t662 = t663) = true := by simpa using c7))
        (try (have c7b2 : (t662 == t663) = true := by simpa using c7))
        clear c7
        replace H := Option.bind_eq_some_iff.mp H
        obtain ⟨⟨t664, t665⟩, A130, H⟩ := H
        replace H : ((clocheref08_Tones.f k l0).bind fun bt668 => ((clocheref08_Same.f k t664 bt668.1).bind fun t672 => (if t672 = true then (clochelaw08_TonesPolynomials.j0 k l0 y659 (t665 != bt668.2)) else (clochelaw08_TonesPolynomials.j0 k l0 y659 true)))) = some r := H
        have A13 := Aside0.mk A130
        clear A130
        replace H := Option.bind_eq_some_iff.mp H
        obtain ⟨⟨t668, t669⟩, A140, H⟩ := H
        replace H : ((clocheref08_Same.f k t664 t668).bind fun t672 => (if t672 = true then (clochelaw08_TonesPolynomials.j0 k l0 y659 (t665 != t669)) else (clochelaw08_TonesPolynomials.j0 k l0 y659 true))) = some r := H
        have A14 := Aside0.mk A140
        clear A140
        have HC15 := Aside0.mk H
        clear H
        go_enter Tryd.func6, Tryd.ntmps6
        go_upto_region 8 with (first | ((with_reducible refine gate_callee (f := 16) rfl ?_); refine goesL_ (some 9) rfl rfl Tryd.func16 (by kernel_rfl) rfl #[.slice A0 l0.length c0, .slice none 0 0] rfl (by (try simp only [List.map_toArray, List.map_cons, List.map_nil]); first | done | rfl | (simp only [List.length_drop, List.length_take]; rfl)) ?_; (refine (clochelaw08_few.calls _ _ l0 _ _ ([] : List Int) true _ ?side1 ?side2 ?side3 ?side4 A2.out).mono ?_); (case side1 => repeat (first | exact HR0.out | (with_reducible refine Kd.C_alloc ?_ _) | (with_reducible refine Kd.C_drewN ?_ _) | (with_reducible refine Kd.C_drew ?_))); (case side2 => exact HC0.out); (case side3 => exact Kd.C_nil _ _); (case side4 => exact Nat.le_refl _); rintro e w' ⟨rfl, ⟨nd, rfl⟩⟩; refine ⟨_, rfl, ?_⟩) | ((with_reducible refine gate_dst (N := 12) rfl ?_); refine Kd.R_lit (Kd.int .i64) _ 3 ?hg (N := 12) ?hd (xs := ([] : List Int)) (inner := []) (ok := fun _ => True) (okp := fun _ => True) ?hr ?hp (fun _ hk => hk) trivial (Below.refl _ _) (Nat.le_refl _) (by simp) ?_; (case hd => rfl); (case hg => rfl); (case hr => first | (go_simp; done) | (go_simp; rfl)); (case hp => exact (Reps.none _ _)); intro v657 w16 ho17 hb hg_ hnew_; clear hg_ hnew_; (first | rw [← Ny656.out] at ho17 | (simp only [Int.reduceToNat] at ho17; rw [← Ny656.out] at ho17)); have n0_ := Aside0.mk (Kd.R_lower ho17 (below_size (by repeat (first | (with_reducible first | exact HB.out | apply below_alloc | apply pw_below_drewN | apply below_drew1) | exact HB.out)))); have n1_ := Aside0.mk (below_step (by repeat (first | (with_reducible first | exact HB.out | apply below_alloc | apply pw_below_drewN | apply below_drew1) | exact HB.out)) hb); clear HB; have HO658 := n0_; have HB := n1_; clear n0_ n1_; clear hb ho17) | ((with_reducible refine gate_builtin (b := .append) (xs := #[.tmp 12, .tmp 13]) rfl ?_); at_builtin; refine Kd.R_append_rows (Kd.int .i64) (w0 := w) w.heap.size rfl (.tmp 12) (.tmp 13) 22 3 (.int .i64 0) 8 rfl Tryd.underlying22 info3 rfl (by decide) (by omega) v657 y656 l0 _ _ _ (fun _ => True) (fun _ => False) rfl rfl ?aO ?aR (fun _ _ h => h) (fun _ h => h.elim) ?aF ?aB ?aS ?aL ?_; (case aR => repeat (first | exact (Kd.C_below HR0.out HB.out) | (with_reducible refine Kd.C_alloc ?_ _) | (with_reducible refine Kd.C_drewN ?_ _) | (with_reducible refine Kd.C_drew ?_))); (case aB => exact (by repeat (first | (with_reducible first | exact HB.out | apply below_alloc | apply pw_below_drewN | apply below_drew1) | exact HB.out))); (case aF => exact (fun _ _ => trivial)); (case aO => exact (by (with_reducible repeat (first | apply Kd.R_alloc | apply Kd.R_drewN | apply Kd.R_drew)); exact HO658.out)); (case aS => exact (below_size (by repeat (first | (with_reducible first | exact HB.out | apply below_alloc | apply pw_below_drewN | apply below_drew1) | exact HB.out)))); (case aL => have := LMc4.out; omega); intro v660 w18 ho hb hg hat; rw [← Ny659.out] at ho; have n0_ := Aside0.mk (hb); have n1_ := Aside0.mk (ho); clear HB; clear HO658; have HB := n0_; have HO661 := n1_; clear n0_ n1_; clear ho hb hg hat; obtain ⟨Ao19, co19, eo19⟩ := Kd.R_slice HO661.out; subst eo19) | ((with_reducible refine gate_callee (f := 27) rfl ?_); refine goesL_ (some 16) rfl rfl Tryd.func27 (by kernel_rfl) rfl #[.slice Ao19 y659.length co19] rfl (by (try simp only [List.map_toArray, List.map_cons, List.map_nil]); first | done | rfl | (simp only [List.length_drop, List.length_take]; rfl)) ?_; (with_reducible refine (tones_IsFrame.calls k _ _ y659 t662 _ ?side1 ?side2 A5.out).mono ?_); (case side1 => repeat (first | exact (Kd.R_reads' HO661.out).2.2 | (with_reducible refine Kd.C_alloc ?_ _) | (with_reducible refine Kd.C_drewN ?_ _) | (with_reducible refine Kd.C_drew ?_))); (case side2 => exact (Kd.R_reads' HO661.out).2.1); rintro e w20 ⟨rfl, hb⟩; refine ⟨_, rfl, ?_⟩; have n0_ := Aside0.mk (Kd.R_below (by (with_reducible repeat (first | apply Kd.R_alloc | apply Kd.R_drewN | apply Kd.R_drew)); exact HO661.out) hb); have n1_ := Aside0.mk (below_step (by repeat (first | (with_reducible first | exact HB.out | apply below_alloc | apply pw_below_drewN | apply below_drew1) | exact HB.out)) hb); clear HO661; clear HB; have HO661 := n0_; have HB := n1_; clear n0_ n1_; (try clear hb); (try clear hb2); (try clear hk); (try clear hi)) | ((with_reducible refine gate_callee (f := 20) rfl ?_); refine goesL_ (some 18) rfl rfl Tryd.func20 (by kernel_rfl) rfl #[.slice A0 l0.length c0] rfl (by (try simp only [List.map_toArray, List.map_cons, List.map_nil]); first | done | rfl | (simp only [List.length_drop, List.length_take]; rfl)) ?_; (with_reducible refine (clocheref08_IsFrame.calls k _ _ l0 t663 _ ?side1 ?side2 A6.out).mono ?_); (case side1 => repeat (first | exact (Kd.C_below HR0.out HB.out) | (with_reducible refine Kd.C_alloc ?_ _) | (with_reducible refine Kd.C_drewN ?_ _) | (with_reducible refine Kd.C_drew ?_))); (case side2 => exact HC0.out); rintro e w' ⟨rfl, ⟨nd, rfl⟩⟩; refine ⟨_, rfl, ?_⟩) | ((with_reducible refine gate_callee (f := 21) rfl ?_); refine goesL_ (some 22) rfl rfl Tryd.func21 (by kernel_rfl) rfl #[.slice Ao19 y659.length co19] rfl (by (try simp only [List.map_toArray, List.map_cons, List.map_nil]); first | done | rfl | (simp only [List.length_drop, List.length_take]; rfl)) ?_; (with_reducible refine (tones_Tones.calls k _ _ y659 t664 t665 _ ?side1 ?side2 A13.out).mono ?_); (case side1 => repeat (first | exact (Kd.R_reads' HO661.out).2.2 | (with_reducible refine Kd.C_alloc ?_ _) | (with_reducible refine Kd.C_drewN ?_ _) | (with_reducible refine Kd.C_drew ?_))); (case side2 => exact (Kd.R_reads' HO661.out).2.1); rintro e w21 ⟨v666, rfl, ho0, hb⟩; refine ⟨_, rfl, ?_⟩; have n0_ := Aside0.mk (Kd.R_elder' (by (with_reducible repeat (first | apply Kd.R_alloc | apply Kd.R_drewN | apply Kd.R_drew)); exact HO661.out) (Kd.R_base ho0) hb); have n1_ := Aside0.mk (Kd.R_lower (Kd.R_new' ho0 (Kd.R_lt (by (with_reducible repeat (first | apply Kd.R_alloc | apply Kd.R_drewN | apply Kd.R_drew)); exact HO661.out))) (below_size (by repeat (first | (with_reducible first | exact HB.out | apply below_alloc | apply pw_below_drewN | apply below_drew1) | exact HB.out)))); have n2_ := Aside0.mk (below_step (by repeat (first | (with_reducible first | exact HB.out | apply below_alloc | apply pw_below_drewN | apply below_drew1) | exact HB.out)) hb); clear HO661; clear HB; have HO661 := n0_; have HO667 := n1_; have HB := n2_; clear n0_ n1_ n2_; (try clear hb); (try clear hb2); (try clear hk); (try clear hi); (try clear ho0)) | ((with_reducible refine gate_callee (f := 28) rfl ?_); refine goesL_ (some 27) rfl rfl Tryd.func28 (by kernel_rfl) rfl #[.slice A0 l0.length c0] rfl (by (try simp only [List.map_toArray, List.map_cons, List.map_nil]); first | done | rfl | (simp only [List.length_drop, List.length_take]; rfl)) ?_; (with_reducible refine (clocheref08_Tones.calls k _ _ l0 t668 t669 _ ?side1 ?side2 A14.out).mono ?_); (case side1 => repeat (first | exact (Kd.C_below HR0.out HB.out) | (with_reducible refine Kd.C_alloc ?_ _) | (with_reducible refine Kd.C_drewN ?_ _) | (with_reducible refine Kd.C_drew ?_))); (case side2 => exact HC0.out); rintro e w22 ⟨v670, rfl, ho0, hb⟩; refine ⟨_, rfl, ?_⟩; have n0_ := Aside0.mk (Kd.R_elder' (by (with_reducible repeat (first | apply Kd.R_alloc | apply Kd.R_drewN | apply Kd.R_drew)); exact HO661.out) (Kd.R_base ho0) hb); have n1_ := Aside0.mk (Kd.R_elder' (by (with_reducible repeat (first | apply Kd.R_alloc | apply Kd.R_drewN | apply Kd.R_drew)); exact HO667.out) (Kd.R_base ho0) hb); have n2_ := Aside0.mk (Kd.R_lower (Kd.R_new' (Kd.R_new' ho0 (Kd.R_lt (by (with_reducible repeat (first | apply Kd.R_alloc | apply Kd.R_drewN | apply Kd.R_drew)); exact HO661.out))) (Kd.R_lt (by (with_reducible repeat (first | apply Kd.R_alloc | apply Kd.R_drewN | apply Kd.R_drew)); exact HO667.out))) (below_size (by repeat (first | (with_reducible first | exact HB.out | apply below_alloc | apply pw_below_drewN | apply below_drew1) | exact HB.out)))); have n3_ := Aside0.mk (below_step (by repeat (first | (with_reducible first | exact HB.out | apply below_alloc | apply pw_below_drewN | apply below_drew1) | exact HB.out)) hb); clear HO661; clear HO667; clear HB; have HO661 := n0_; have HO667 := n1_; have HO671 := n2_; have HB := n3_; clear n0_ n1_ n2_ n3_; (try clear hb); (try clear hb2); (try clear hk); (try clear hi); (try clear ho0)))
        (try simp only [Act.put, List.setIfInBounds_toArray, List.set_cons_zero, List.set_cons_succ])
        go_cut [38] (fun v38 wc => ∃ (kq : Nat) (x38_14 : Bool), v38 = .bool x38_14 ∧ Aside0 (clochelaw08_TonesPolynomials.j0 kq l0 y659 x38_14 = some r) ∧ Aside0 (kq ≤ k) ∧ Aside0 (Kd.R (Kd.int .i64) 3 wc w.heap.size (fun _ => True) (.slice Ao19 y659.length co19) y659) ∧ Aside0 (Below w.heap.size w wc))
        case first =>
          have H := HC15.out
          clear HC15
          replace H := Option.bind_eq_some_iff.mp H
          obtain ⟨t672, A230, H⟩ := H
          replace H : (if t672 = true then (clochelaw08_TonesPolynomials.j0 k l0 y659 (t665 != t669)) else (clochelaw08_TonesPolynomials.j0 k l0 y659 true)) = some r := H
          have A23 := Aside0.mk A230
          clear A230
          by_cases c24 : t672 = true
          · subst c24
            have H1 : (clochelaw08_TonesPolynomials.j0 k l0 y659 (t665 != t669)) = some r := by rw [if_pos rfl] at H; exact H
            clear H
            have H := H1
            clear H1
            have H' := Aside0.mk H
            clear H
            obtain ⟨Ao25, co25, eo25⟩ := Kd.R_slice HO667.out
            subst eo25
            obtain ⟨Ao26, co26, eo26⟩ := Kd.R_slice HO671.out
            subst eo26
            go_wp2_with (first | ((with_reducible refine gate_callee (f := 29) rfl ?_); refine goesL_ (some 32) rfl rfl Tryd.func29 (by kernel_rfl) rfl #[.slice Ao25 t664.length co25, .slice Ao26 t668.length co26] rfl (by (try simp only [List.map_toArray, List.map_cons, List.map_nil]); first | done | rfl | (simp only [List.length_drop, List.length_take]; rfl)) ?_; (with_reducible refine (clocheref08_Same.calls k _ _ t664 _ _ t668 true _ ?side1 ?side2 ?side3 ?side4 A23.out).mono ?_); (case side1 => repeat (first | exact (Kd.R_reads' HO667.out).2.2 | (with_reducible refine Kd.C_alloc ?_ _) | (with_reducible refine Kd.C_drewN ?_ _) | (with_reducible refine Kd.C_drew ?_))); (case side2 => exact (Kd.R_reads' HO667.out).2.1); (case side3 => repeat (first | exact (Kd.R_reads' HO671.out).2.2 | (with_reducible refine Kd.C_alloc ?_ _) | (with_reducible refine Kd.C_drewN ?_ _) | (with_reducible refine Kd.C_drew ?_))); (case side4 => exact (Kd.R_reads' HO671.out).2.1); rintro e w' ⟨rfl, ⟨nd, rfl⟩⟩; refine ⟨_, rfl, ?_⟩))
            go_meet
            case rel => exact ⟨_, ((t665 != t669)), (by first | rfl | (simp; done) | (simp [*]; done)), H', ⟨by first | omega | exact Nat.le_refl _⟩, ⟨by (with_reducible repeat (first | apply Kd.R_alloc | apply Kd.R_drewN | apply Kd.R_drew)); exact Kd.R_mono HO661.out (fun _ hk => trivial)⟩, ⟨by repeat (first | (with_reducible first | exact HB.out | apply below_alloc | apply pw_below_drewN | apply below_drew1) | exact HB.out)⟩⟩
          · replace c24 := Bool.eq_false_iff.mpr c24
            subst c24
            have H1 : (clochelaw08_TonesPolynomials.j0 k l0 y659 true) = some r := by rw [if_neg (show ¬ (false = true) by decide)] at H; exact H
            clear H
            have H := H1
            clear H1
            have H' := Aside0.mk H
            clear H
            obtain ⟨Ao27, co27, eo27⟩ := Kd.R_slice HO667.out
            subst eo27
            obtain ⟨Ao28, co28, eo28⟩ := Kd.R_slice HO671.out
            subst eo28
            go_wp2_with (first | ((with_reducible refine gate_callee (f := 29) rfl ?_); refine goesL_ (some 32) rfl rfl Tryd.func29 (by kernel_rfl) rfl #[.slice Ao27 t664.length co27, .slice Ao28 t668.length co28] rfl (by (try simp only [List.map_toArray, List.map_cons, List.map_nil]); first | done | rfl | (simp only [List.length_drop, List.length_take]; rfl)) ?_; (with_reducible refine (clocheref08_Same.calls k _ _ t664 _ _ t668 false _ ?side1 ?side2 ?side3 ?side4 A23.out).mono ?_); (case side1 => repeat (first | exact (Kd.R_reads' HO667.out).2.2 | (with_reducible refine Kd.C_alloc ?_ _) | (with_reducible refine Kd.C_drewN ?_ _) | (with_reducible refine Kd.C_drew ?_))); (case side2 => exact (Kd.R_reads' HO667.out).2.1); (case side3 => repeat (first | exact (Kd.R_reads' HO671.out).2.2 | (with_reducible refine Kd.C_alloc ?_ _) | (with_reducible refine Kd.C_drewN ?_ _) | (with_reducible refine Kd.C_drew ?_))); (case side4 => exact (Kd.R_reads' HO671.out).2.1); rintro e w' ⟨rfl, ⟨nd, rfl⟩⟩; refine ⟨_, rfl, ?_⟩))
            go_meet
            case rel => exact ⟨_, (true), (by first | rfl | (simp; done) | (simp [*]; done)), H', ⟨by first | omega | exact Nat.le_refl _⟩, ⟨by (with_reducible repeat (first | apply Kd.R_alloc | apply Kd.R_drewN | apply Kd.R_drew)); exact Kd.R_mono HO661.out (fun _ hk => trivial)⟩, ⟨by repeat (first | (with_reducible first | exact HB.out | apply below_alloc | apply pw_below_drewN | apply below_drew1) | exact HB.out)⟩⟩
        case rest =>
          clear HC15
          try clear c1
          try clear c2
          try clear p2
          try clear c3
          try clear c4
          try clear c6
          try clear c7
          try clear c7b0
          try clear c7b1
          try clear c7b2
          try clear c16
          try clear c20
          try clear c21
          try clear c24
          try clear c27
          try clear c28
          obtain ⟨kq, x38_14, rfl, HA, HJ14, HO_3, HB⟩ := hcut
          cases kq with
          | zero => exact absurd HA.out (by simp [clochelaw08_TonesPolynomials.j0])
          | succ kj14 =>
            have H := HA.out
            clear HA
            simp only [clochelaw08_TonesPolynomials.j0] at H
            by_cases c29 : x38_14 = true
            · subst c29
              have H1 : (some false) = some r := by rw [if_pos rfl] at H; exact H
              clear H
              have H := H1
              clear H1
              obtain rfl := Option.some.inj H
              go_wp2
              go_ret
              exact ⟨by first | rfl | (simp [errW_none, errW_some] <;> rfl) | (simp [*, errW_none, errW_some] <;> rfl), by repeat (first | (with_reducible first | exact HB.out | apply below_alloc | apply pw_below_drewN | apply below_drew1) | exact HB.out)⟩
            · replace c29 := Bool.eq_false_iff.mpr c29
              subst c29
              have H1 : ((tones_Matchings.f kj14 y659).bind fun bt673 => ((clocheref08_Matchings.f kj14 l0).bind fun bt677 => ((clocheref08_Same.f kj14 bt673.1 bt677.1).bind fun t681 => (if t681 = true then (if bt673.2 = bt677.2 then ((clocheref08_Same.f kj14 y659 l0).bind fun t682 => (if t682 = true then ((clochelaw08_alive.f).bind fun t683 => (some t683)) else (some false))) else (some false)) else (some false))))) = some r := by rw [if_neg (show ¬ (false = true) by decide)] at H; exact H
              clear H
              have H := H1
              clear H1
              replace H := Option.bind_eq_some_iff.mp H
              obtain ⟨⟨t673, t674⟩, A300, H⟩ := H
              replace H : ((clocheref08_Matchings.f kj14 l0).bind fun bt677 => ((clocheref08_Same.f kj14 t673 bt677.1).bind fun t681 => (if t681 = true then (if t674 = bt677.2 then ((clocheref08_Same.f kj14 y659 l0).bind fun t682 => (if t682 = true then ((clochelaw08_alive.f).bind fun t683 => (some t683)) else (some false))) else (some false)) else (some false)))) = some r := H
              have A30 := Aside0.mk A300
              clear A300
              replace H := Option.bind_eq_some_iff.mp H
              obtain ⟨⟨t677, t678⟩, A310, H⟩ := H
              replace H : ((clocheref08_Same.f kj14 t673 t677).bind fun t681 => (if t681 = true then (if t674 = t678 then ((clocheref08_Same.f kj14 y659 l0).bind fun t682 => (if t682 = true then ((clochelaw08_alive.f).bind fun t683 => (some t683)) else (some false))) else (some false)) else (some false))) = some r := H
              have A31 := Aside0.mk A310
              clear A310
              replace H := Option.bind_eq_some_iff.mp H
              obtain ⟨t681, A320, H⟩ := H
              replace H : (if t681 = true then (if t674 = t678 then ((clocheref08_Same.f kj14 y659 l0).bind fun t682 => (if t682 = true then ((clochelaw08_alive.f).bind fun t683 => (some t683)) else (some false))) else (some false)) else (some false)) = some r := H
              have A32 := Aside0.mk A320
              clear A320
              by_cases c33 : t681 = true
              · subst c33
                have H1 : (if t674 = t678 then ((clocheref08_Same.f kj14 y659 l0).bind fun t682 => (if t682 = true then ((clochelaw08_alive.f).bind fun t683 => (some t683)) else (some false))) else (some false)) = some r := by rw [if_pos rfl] at H; exact H
                clear H
                have H := H1
                clear H1
                by_cases c34 : t674 = t678
                · rw [if_pos c34] at H
                  have c34b0 : (t674 == t678) = true := beq_iff_eq.mpr c34
                  have c34b1 : (t674 != t678) = false := bne_eq_false_iff_eq.mpr c34
                  clear c34
                  replace H := Option.bind_eq_some_iff.mp H
                  obtain ⟨t682, A350, H⟩ := H
                  replace H : (if t682 = true then ((clochelaw08_alive.f).bind fun t683 => (some t683)) else (some false)) = some r := H
                  have A35 := Aside0.mk A350
                  clear A350
                  by_cases c36 : t682 = true
                  · subst c36
                    have H1 : ((clochelaw08_alive.f).bind fun t683 => (some t683)) = some r := by rw [if_pos rfl] at H; exact H
                    clear H
                    have H := H1
                    clear H1
                    replace H := Option.bind_eq_some_iff.mp H
                    obtain ⟨t683, A370, H⟩ := H
                    replace H : (some t683) = some r := H
                    have A37 := Aside0.mk A370
                    clear A370
                    obtain rfl := Option.some.inj H
                    go_wp2_with (first | ((with_reducible refine gate_callee (f := 23) rfl ?_); refine goesL_ (some 41) rfl rfl Tryd.func23 (by kernel_rfl) rfl #[.slice Ao19 y659.length co19] rfl (by (try simp only [List.map_toArray, List.map_cons, List.map_nil]); first | done | rfl | (simp only [List.length_drop, List.length_take]; rfl)) ?_; (with_reducible refine (tones_Matchings.calls kj14 _ _ y659 t673 t674 _ ?side1 ?side2 A30.out).mono ?_); (case side1 => repeat (first | exact (Kd.R_reads' HO_3.out).2.2 | (with_reducible refine Kd.C_alloc ?_ _) | (with_reducible refine Kd.C_drewN ?_ _) | (with_reducible refine Kd.C_drew ?_))); (case side2 => exact (Kd.R_reads' HO_3.out).2.1); rintro e w38 ⟨v675, rfl, ho0, hb⟩; refine ⟨_, rfl, ?_⟩; have n0_ := Aside0.mk (Kd.R_elder' (by (with_reducible repeat (first | apply Kd.R_alloc | apply Kd.R_drewN | apply Kd.R_drew)); exact HO_3.out) (Kd.R_base ho0) hb); have n1_ := Aside0.mk (Kd.R_lower (Kd.R_new' ho0 (Kd.R_lt (by (with_reducible repeat (first | apply Kd.R_alloc | apply Kd.R_drewN | apply Kd.R_drew)); exact HO_3.out))) (below_size (by repeat (first | (with_reducible first | exact HB.out | apply below_alloc | apply pw_below_drewN | apply below_drew1) | exact HB.out)))); have n2_ := Aside0.mk (below_step (by repeat (first | (with_reducible first | exact HB.out | apply below_alloc | apply pw_below_drewN | apply below_drew1) | exact HB.out)) hb); clear HO_3; clear HB; have HO_3 := n0_; have HO676 := n1_; have HB := n2_; clear n0_ n1_ n2_; (try clear hb); (try clear hb2); (try clear hk); (try clear hi); (try clear ho0)) | ((with_reducible refine gate_callee (f := 30) rfl ?_); refine goesL_ (some 46) rfl rfl Tryd.func30 (by kernel_rfl) rfl #[.slice A0 l0.length c0] rfl (by (try simp only [List.map_toArray, List.map_cons, List.map_nil]); first | done | rfl | (simp only [List.length_drop, List.length_take]; rfl)) ?_; (with_reducible refine (clocheref08_Matchings.calls kj14 _ _ l0 t677 t678 _ ?side1 ?side2 A31.out).mono ?_); (case side1 => repeat (first | exact (Kd.C_below HR0.out HB.out) | (with_reducible refine Kd.C_alloc ?_ _) | (with_reducible refine Kd.C_drewN ?_ _) | (with_reducible refine Kd.C_drew ?_))); (case side2 => exact HC0.out); rintro e w39 ⟨v679, rfl, ho0, hb⟩; refine ⟨_, rfl, ?_⟩; have n0_ := Aside0.mk (Kd.R_elder' (by (with_reducible repeat (first | apply Kd.R_alloc | apply Kd.R_drewN | apply Kd.R_drew)); exact HO_3.out) (Kd.R_base ho0) hb); have n1_ := Aside0.mk (Kd.R_elder' (by (with_reducible repeat (first | apply Kd.R_alloc | apply Kd.R_drewN | apply Kd.R_drew)); exact HO676.out) (Kd.R_base ho0) hb); have n2_ := Aside0.mk (Kd.R_lower (Kd.R_new' (Kd.R_new' ho0 (Kd.R_lt (by (with_reducible repeat (first | apply Kd.R_alloc | apply Kd.R_drewN | apply Kd.R_drew)); exact HO_3.out))) (Kd.R_lt (by (with_reducible repeat (first | apply Kd.R_alloc | apply Kd.R_drewN | apply Kd.R_drew)); exact HO676.out))) (below_size (by repeat (first | (with_reducible first | exact HB.out | apply below_alloc | apply pw_below_drewN | apply below_drew1) | exact HB.out)))); have n3_ := Aside0.mk (below_step (by repeat (first | (with_reducible first | exact HB.out | apply below_alloc | apply pw_below_drewN | apply below_drew1) | exact HB.out)) hb); clear HO_3; clear HO676; clear HB; have HO_3 := n0_; have HO676 := n1_; have HO680 := n2_; have HB := n3_; clear n0_ n1_ n2_ n3_; (try clear hb); (try clear hb2); (try clear hk); (try clear hi); (try clear ho0); obtain ⟨Ao40, co40, eo40⟩ := Kd.R_slice HO676.out; subst eo40; obtain ⟨Ao41, co41, eo41⟩ := Kd.R_slice HO680.out; subst eo41) | ((with_reducible refine gate_callee (f := 29) rfl ?_); refine goesL_ (some 51) rfl rfl Tryd.func29 (by kernel_rfl) rfl #[.slice Ao40 t673.length co40, .slice Ao41 t677.length co41] rfl (by (try simp only [List.map_toArray, List.map_cons, List.map_nil]); first | done | rfl | (simp only [List.length_drop, List.length_take]; rfl)) ?_; (with_reducible refine (clocheref08_Same.calls kj14 _ _ t673 _ _ t677 true _ ?side1 ?side2 ?side3 ?side4 A32.out).mono ?_); (case side1 => repeat (first | exact (Kd.R_reads' HO676.out).2.2 | (with_reducible refine Kd.C_alloc ?_ _) | (with_reducible refine Kd.C_drewN ?_ _) | (with_reducible refine Kd.C_drew ?_))); (case side2 => exact (Kd.R_reads' HO676.out).2.1); (case side3 => repeat (first | exact (Kd.R_reads' HO680.out).2.2 | (with_reducible refine Kd.C_alloc ?_ _) | (with_reducible refine Kd.C_drewN ?_ _) | (with_reducible refine Kd.C_drew ?_))); (case side4 => exact (Kd.R_reads' HO680.out).2.1); rintro e w' ⟨rfl, ⟨nd, rfl⟩⟩; refine ⟨_, rfl, ?_⟩) | (go_at_call 29; (with_reducible refine (clocheref08_Same.calls kj14 _ _ y659 _ _ l0 true _ ?side1 ?side2 ?side3 ?side4 A35.out).mono ?_); (case side1 => repeat (first | exact (Kd.R_reads' HO_3.out).2.2 | (with_reducible refine Kd.C_alloc ?_ _) | (with_reducible refine Kd.C_drewN ?_ _) | (with_reducible refine Kd.C_drew ?_))); (case side2 => exact (Kd.R_reads' HO_3.out).2.1); (case side3 => repeat (first | exact (Kd.C_below HR0.out (by repeat (first | (with_reducible first | exact HB.out | apply below_alloc | apply pw_below_drewN | apply below_drew1) | exact HB.out))) | (with_reducible refine Kd.C_alloc ?_ _) | (with_reducible refine Kd.C_drewN ?_ _) | (with_reducible refine Kd.C_drew ?_))); (case side4 => exact HC0.out); rintro e w' ⟨rfl, ⟨nd, rfl⟩⟩) | (go_at_call 17; (with_reducible refine (clochelaw08_alive.calls  t683 _ A37.out).mono ?_); rintro e w42 ⟨rfl, hb⟩; have n0_ := Aside0.mk (Kd.R_below (by (with_reducible repeat (first | apply Kd.R_alloc | apply Kd.R_drewN | apply Kd.R_drew)); exact HO_3.out) hb); have n1_ := Aside0.mk (Kd.R_below (by (with_reducible repeat (first | apply Kd.R_alloc | apply Kd.R_drewN | apply Kd.R_drew)); exact HO676.out) hb); have n2_ := Aside0.mk (Kd.R_below (by (with_reducible repeat (first | apply Kd.R_alloc | apply Kd.R_drewN | apply Kd.R_drew)); exact HO680.out) hb); have n3_ := Aside0.mk (below_step (by repeat (first | (with_reducible first | exact HB.out | apply below_alloc | apply pw_below_drewN | apply below_drew1) | exact HB.out)) hb); clear HO_3; clear HO676; clear HO680; clear HB; have HO_3 := n0_; have HO676 := n1_; have HO680 := n2_; have HB := n3_; clear n0_ n1_ n2_ n3_; (try clear hb); (try clear hb2); (try clear hk); (try clear hi)))
                    go_ret
                    exact ⟨by first | rfl | (simp [errW_none, errW_some] <;> rfl) | (simp [*, errW_none, errW_some] <;> rfl), by repeat (first | (with_reducible first | exact HB.out | apply below_alloc | apply pw_below_drewN | apply below_drew1) | exact HB.out)⟩
                  · replace c36 := Bool.eq_false_iff.mpr c36
                    subst c36
                    have H1 : (some false) = some r := by rw [if_neg (show ¬ (false = true) by decide)] at H; exact H
                    clear H
                    have H := H1
                    clear H1
                    obtain rfl := Option.some.inj H
                    go_wp2_with (first | ((with_reducible refine gate_callee (f := 23) rfl ?_); refine goesL_ (some 41) rfl rfl Tryd.func23 (by kernel_rfl) rfl #[.slice Ao19 y659.length co19] rfl (by (try simp only [List.map_toArray, List.map_cons, List.map_nil]); first | done | rfl | (simp only [List.length_drop, List.length_take]; rfl)) ?_; (with_reducible refine (tones_Matchings.calls kj14 _ _ y659 t673 t674 _ ?side1 ?side2 A30.out).mono ?_); (case side1 => repeat (first | exact (Kd.R_reads' HO_3.out).2.2 | (with_reducible refine Kd.C_alloc ?_ _) | (with_reducible refine Kd.C_drewN ?_ _) | (with_reducible refine Kd.C_drew ?_))); (case side2 => exact (Kd.R_reads' HO_3.out).2.1); rintro e w43 ⟨v675, rfl, ho0, hb⟩; refine ⟨_, rfl, ?_⟩; have n0_ := Aside0.mk (Kd.R_elder' (by (with_reducible repeat (first | apply Kd.R_alloc | apply Kd.R_drewN | apply Kd.R_drew)); exact HO_3.out) (Kd.R_base ho0) hb); have n1_ := Aside0.mk (Kd.R_lower (Kd.R_new' ho0 (Kd.R_lt (by (with_reducible repeat (first | apply Kd.R_alloc | apply Kd.R_drewN | apply Kd.R_drew)); exact HO_3.out))) (below_size (by repeat (first | (with_reducible first | exact HB.out | apply below_alloc | apply pw_below_drewN | apply below_drew1) | exact HB.out)))); have n2_ := Aside0.mk (below_step (by repeat (first | (with_reducible first | exact HB.out | apply below_alloc | apply pw_below_drewN | apply below_drew1) | exact HB.out)) hb); clear HO_3; clear HB; have HO_3 := n0_; have HO676 := n1_; have HB := n2_; clear n0_ n1_ n2_; (try clear hb); (try clear hb2); (try clear hk); (try clear hi); (try clear ho0)) | ((with_reducible refine gate_callee (f := 30) rfl ?_); refine goesL_ (some 46) rfl rfl Tryd.func30 (by kernel_rfl) rfl #[.slice A0 l0.length c0] rfl (by (try simp only [List.map_toArray, List.map_cons, List.map_nil]); first | done | rfl | (simp only [List.length_drop, List.length_take]; rfl)) ?_; (with_reducible refine (clocheref08_Matchings.calls kj14 _ _ l0 t677 t678 _ ?side1 ?side2 A31.out).mono ?_); (case side1 => repeat (first | exact (Kd.C_below HR0.out HB.out) | (with_reducible refine Kd.C_alloc ?_ _) | (with_reducible refine Kd.C_drewN ?_ _) | (with_reducible refine Kd.C_drew ?_))); (case side2 => exact HC0.out); rintro e w44 ⟨v679, rfl, ho0, hb⟩; refine ⟨_, rfl, ?_⟩; have n0_ := Aside0.mk (Kd.R_elder' (by (with_reducible repeat (first | apply Kd.R_alloc | apply Kd.R_drewN | apply Kd.R_drew)); exact HO_3.out) (Kd.R_base ho0) hb); have n1_ := Aside0.mk (Kd.R_elder' (by (with_reducible repeat (first | apply Kd.R_alloc | apply Kd.R_drewN | apply Kd.R_drew)); exact HO676.out) (Kd.R_base ho0) hb); have n2_ := Aside0.mk (Kd.R_lower (Kd.R_new' (Kd.R_new' ho0 (Kd.R_lt (by (with_reducible repeat (first | apply Kd.R_alloc | apply Kd.R_drewN | apply Kd.R_drew)); exact HO_3.out))) (Kd.R_lt (by (with_reducible repeat (first | apply Kd.R_alloc | apply Kd.R_drewN | apply Kd.R_drew)); exact HO676.out))) (below_size (by repeat (first | (with_reducible first | exact HB.out | apply below_alloc | apply pw_below_drewN | apply below_drew1) | exact HB.out)))); have n3_ := Aside0.mk (below_step (by repeat (first | (with_reducible first | exact HB.out | apply below_alloc | apply pw_below_drewN | apply below_drew1) | exact HB.out)) hb); clear HO_3; clear HO676; clear HB; have HO_3 := n0_; have HO676 := n1_; have HO680 := n2_; have HB := n3_; clear n0_ n1_ n2_ n3_; (try clear hb); (try clear hb2); (try clear hk); (try clear hi); (try clear ho0); obtain ⟨Ao45, co45, eo45⟩ := Kd.R_slice HO676.out; subst eo45; obtain ⟨Ao46, co46, eo46⟩ := Kd.R_slice HO680.out; subst eo46) | ((with_reducible refine gate_callee (f := 29) rfl ?_); refine goesL_ (some 51) rfl rfl Tryd.func29 (by kernel_rfl) rfl #[.slice Ao45 t673.length co45, .slice Ao46 t677.length co46] rfl (by (try simp only [List.map_toArray, List.map_cons, List.map_nil]); first | done | rfl | (simp only [List.length_drop, List.length_take]; rfl)) ?_; (with_reducible refine (clocheref08_Same.calls kj14 _ _ t673 _ _ t677 true _ ?side1 ?side2 ?side3 ?side4 A32.out).mono ?_); (case side1 => repeat (first | exact (Kd.R_reads' HO676.out).2.2 | (with_reducible refine Kd.C_alloc ?_ _) | (with_reducible refine Kd.C_drewN ?_ _) | (with_reducible refine Kd.C_drew ?_))); (case side2 => exact (Kd.R_reads' HO676.out).2.1); (case side3 => repeat (first | exact (Kd.R_reads' HO680.out).2.2 | (with_reducible refine Kd.C_alloc ?_ _) | (with_reducible refine Kd.C_drewN ?_ _) | (with_reducible refine Kd.C_drew ?_))); (case side4 => exact (Kd.R_reads' HO680.out).2.1); rintro e w' ⟨rfl, ⟨nd, rfl⟩⟩; refine ⟨_, rfl, ?_⟩) | (go_at_call 29; (with_reducible refine (clocheref08_Same.calls kj14 _ _ y659 _ _ l0 false _ ?side1 ?side2 ?side3 ?side4 A35.out).mono ?_); (case side1 => repeat (first | exact (Kd.R_reads' HO_3.out).2.2 | (with_reducible refine Kd.C_alloc ?_ _) | (with_reducible refine Kd.C_drewN ?_ _) | (with_reducible refine Kd.C_drew ?_))); (case side2 => exact (Kd.R_reads' HO_3.out).2.1); (case side3 => repeat (first | exact (Kd.C_below HR0.out (by repeat (first | (with_reducible first | exact HB.out | apply below_alloc | apply pw_below_drewN | apply below_drew1) | exact HB.out))) | (with_reducible refine Kd.C_alloc ?_ _) | (with_reducible refine Kd.C_drewN ?_ _) | (with_reducible refine Kd.C_drew ?_))); (case side4 => exact HC0.out); rintro e w' ⟨rfl, ⟨nd, rfl⟩⟩))
                    go_ret
                    exact ⟨by first | rfl | (simp [errW_none, errW_some] <;> rfl) | (simp [*, errW_none, errW_some] <;> rfl), by repeat (first | (with_reducible first | exact HB.out | apply below_alloc | apply pw_below_drewN | apply below_drew1) | exact HB.out)⟩
                · rw [if_neg c34] at H
                  have c34b0 : (t674 == t678) = false := beq_eq_false_iff_ne.mpr c34
                  have c34b1 : (t674 != t678) = true := bne_iff_ne.mpr c34
                  obtain rfl := Option.some.inj H
                  go_wp2_with (first | ((with_reducible refine gate_callee (f := 23) rfl ?_); refine goesL_ (some 41) rfl rfl Tryd.func23 (by kernel_rfl) rfl #[.slice Ao19 y659.length co19] rfl (by (try simp only [List.map_toArray, List.map_cons, List.map_nil]); first | done | rfl | (simp only [List.length_drop, List.length_take]; rfl)) ?_; (with_reducible refine (tones_Matchings.calls kj14 _ _ y659 t673 t674 _ ?side1 ?side2 A30.out).mono ?_); (case side1 => repeat (first | exact (Kd.R_reads' HO_3.out).2.2 | (with_reducible refine Kd.C_alloc ?_ _) | (with_reducible refine Kd.C_drewN ?_ _) | (with_reducible refine Kd.C_drew ?_))); (case side2 => exact (Kd.R_reads' HO_3.out).2.1); rintro e w47 ⟨v675, rfl, ho0, hb⟩; refine ⟨_, rfl, ?_⟩; have n0_ := Aside0.mk (Kd.R_elder' (by (with_reducible repeat (first | apply Kd.R_alloc | apply Kd.R_drewN | apply Kd.R_drew)); exact HO_3.out) (Kd.R_base ho0) hb); have n1_ := Aside0.mk (Kd.R_lower (Kd.R_new' ho0 (Kd.R_lt (by (with_reducible repeat (first | apply Kd.R_alloc | apply Kd.R_drewN | apply Kd.R_drew)); exact HO_3.out))) (below_size (by repeat (first | (with_reducible first | exact HB.out | apply below_alloc | apply pw_below_drewN | apply below_drew1) | exact HB.out)))); have n2_ := Aside0.mk (below_step (by repeat (first | (with_reducible first | exact HB.out | apply below_alloc | apply pw_below_drewN | apply below_drew1) | exact HB.out)) hb); clear HO_3; clear HB; have HO_3 := n0_; have HO676 := n1_; have HB := n2_; clear n0_ n1_ n2_; (try clear hb); (try clear hb2); (try clear hk); (try clear hi); (try clear ho0)) | ((with_reducible refine gate_callee (f := 30) rfl ?_); refine goesL_ (some 46) rfl rfl Tryd.func30 (by kernel_rfl) rfl #[.slice A0 l0.length c0] rfl (by (try simp only [List.map_toArray, List.map_cons, List.map_nil]); first | done | rfl | (simp only [List.length_drop, List.length_take]; rfl)) ?_; (with_reducible refine (clocheref08_Matchings.calls kj14 _ _ l0 t677 t678 _ ?side1 ?side2 A31.out).mono ?_); (case side1 => repeat (first | exact (Kd.C_below HR0.out HB.out) | (with_reducible refine Kd.C_alloc ?_ _) | (with_reducible refine Kd.C_drewN ?_ _) | (with_reducible refine Kd.C_drew ?_))); (case side2 => exact HC0.out); rintro e w48 ⟨v679, rfl, ho0, hb⟩; refine ⟨_, rfl, ?_⟩; have n0_ := Aside0.mk (Kd.R_elder' (by (with_reducible repeat (first | apply Kd.R_alloc | apply Kd.R_drewN | apply Kd.R_drew)); exact HO_3.out) (Kd.R_base ho0) hb); have n1_ := Aside0.mk (Kd.R_elder' (by (with_reducible repeat (first | apply Kd.R_alloc | apply Kd.R_drewN | apply Kd.R_drew)); exact HO676.out) (Kd.R_base ho0) hb); have n2_ := Aside0.mk (Kd.R_lower (Kd.R_new' (Kd.R_new' ho0 (Kd.R_lt (by (with_reducible repeat (first | apply Kd.R_alloc | apply Kd.R_drewN | apply Kd.R_drew)); exact HO_3.out))) (Kd.R_lt (by (with_reducible repeat (first | apply Kd.R_alloc | apply Kd.R_drewN | apply Kd.R_drew)); exact HO676.out))) (below_size (by repeat (first | (with_reducible first | exact HB.out | apply below_alloc | apply pw_below_drewN | apply below_drew1) | exact HB.out)))); have n3_ := Aside0.mk (below_step (by repeat (first | (with_reducible first | exact HB.out | apply below_alloc | apply pw_below_drewN | apply below_drew1) | exact HB.out)) hb); clear HO_3; clear HO676; clear HB; have HO_3 := n0_; have HO676 := n1_; have HO680 := n2_; have HB := n3_; clear n0_ n1_ n2_ n3_; (try clear hb); (try clear hb2); (try clear hk); (try clear hi); (try clear ho0); obtain ⟨Ao49, co49, eo49⟩ := Kd.R_slice HO676.out; subst eo49; obtain ⟨Ao50, co50, eo50⟩ := Kd.R_slice HO680.out; subst eo50) | ((with_reducible refine gate_callee (f := 29) rfl ?_); refine goesL_ (some 51) rfl rfl Tryd.func29 (by kernel_rfl) rfl #[.slice Ao49 t673.length co49, .slice Ao50 t677.length co50] rfl (by (try simp only [List.map_toArray, List.map_cons, List.map_nil]); first | done | rfl | (simp only [List.length_drop, List.length_take]; rfl)) ?_; (with_reducible refine (clocheref08_Same.calls kj14 _ _ t673 _ _ t677 true _ ?side1 ?side2 ?side3 ?side4 A32.out).mono ?_); (case side1 => repeat (first | exact (Kd.R_reads' HO676.out).2.2 | (with_reducible refine Kd.C_alloc ?_ _) | (with_reducible refine Kd.C_drewN ?_ _) | (with_reducible refine Kd.C_drew ?_))); (case side2 => exact (Kd.R_reads' HO676.out).2.1); (case side3 => repeat (first | exact (Kd.R_reads' HO680.out).2.2 | (with_reducible refine Kd.C_alloc ?_ _) | (with_reducible refine Kd.C_drewN ?_ _) | (with_reducible refine Kd.C_drew ?_))); (case side4 => exact (Kd.R_reads' HO680.out).2.1); rintro e w' ⟨rfl, ⟨nd, rfl⟩⟩; refine ⟨_, rfl, ?_⟩))
                  go_ret
                  exact ⟨by first | rfl | (simp [errW_none, errW_some] <;> rfl) | (simp [*, errW_none, errW_some] <;> rfl), by repeat (first | (with_reducible first | exact HB.out | apply below_alloc | apply pw_below_drewN | apply below_drew1) | exact HB.out)⟩
              · replace c33 := Bool.eq_false_iff.mpr c33
                subst c33
                have H1 : (some false) = some r := by rw [if_neg (show ¬ (false = true) by decide)] at H; exact H
                clear H
                have H := H1
                clear H1
                obtain rfl := Option.some.inj H
                go_wp2_with (first | ((with_reducible refine gate_callee (f := 23) rfl ?_); refine goesL_ (some 41) rfl rfl Tryd.func23 (by kernel_rfl) rfl #[.slice Ao19 y659.length co19] rfl (by (try simp only [List.map_toArray, List.map_cons, List.map_nil]); first | done | rfl | (simp only [List.length_drop, List.length_take]; rfl)) ?_; (with_reducible refine (tones_Matchings.calls kj14 _ _ y659 t673 t674 _ ?side1 ?side2 A30.out).mono ?_); (case side1 => repeat (first | exact (Kd.R_reads' HO_3.out).2.2 | (with_reducible refine Kd.C_alloc ?_ _) | (with_reducible refine Kd.C_drewN ?_ _) | (with_reducible refine Kd.C_drew ?_))); (case side2 => exact (Kd.R_reads' HO_3.out).2.1); rintro e w51 ⟨v675, rfl, ho0, hb⟩; refine ⟨_, rfl, ?_⟩; have n0_ := Aside0.mk (Kd.R_elder' (by (with_reducible repeat (first | apply Kd.R_alloc | apply Kd.R_drewN | apply Kd.R_drew)); exact HO_3.out) (Kd.R_base ho0) hb); have n1_ := Aside0.mk (Kd.R_lower (Kd.R_new' ho0 (Kd.R_lt (by (with_reducible repeat (first | apply Kd.R_alloc | apply Kd.R_drewN | apply Kd.R_drew)); exact HO_3.out))) (below_size (by repeat (first | (with_reducible first | exact HB.out | apply below_alloc | apply pw_below_drewN | apply below_drew1) | exact HB.out)))); have n2_ := Aside0.mk (below_step (by repeat (first | (with_reducible first | exact HB.out | apply below_alloc | apply pw_below_drewN | apply below_drew1) | exact HB.out)) hb); clear HO_3; clear HB; have HO_3 := n0_; have HO676 := n1_; have HB := n2_; clear n0_ n1_ n2_; (try clear hb); (try clear hb2); (try clear hk); (try clear hi); (try clear ho0)) | ((with_reducible refine gate_callee (f := 30) rfl ?_); refine goesL_ (some 46) rfl rfl Tryd.func30 (by kernel_rfl) rfl #[.slice A0 l0.length c0] rfl (by (try simp only [List.map_toArray, List.map_cons, List.map_nil]); first | done | rfl | (simp only [List.length_drop, List.length_take]; rfl)) ?_; (with_reducible refine (clocheref08_Matchings.calls kj14 _ _ l0 t677 t678 _ ?side1 ?side2 A31.out).mono ?_); (case side1 => repeat (first | exact (Kd.C_below HR0.out HB.out) | (with_reducible refine Kd.C_alloc ?_ _) | (with_reducible refine Kd.C_drewN ?_ _) | (with_reducible refine Kd.C_drew ?_))); (case side2 => exact HC0.out); rintro e w52 ⟨v679, rfl, ho0, hb⟩; refine ⟨_, rfl, ?_⟩; have n0_ := Aside0.mk (Kd.R_elder' (by (with_reducible repeat (first | apply Kd.R_alloc | apply Kd.R_drewN | apply Kd.R_drew)); exact HO_3.out) (Kd.R_base ho0) hb); have n1_ := Aside0.mk (Kd.R_elder' (by (with_reducible repeat (first | apply Kd.R_alloc | apply Kd.R_drewN | apply Kd.R_drew)); exact HO676.out) (Kd.R_base ho0) hb); have n2_ := Aside0.mk (Kd.R_lower (Kd.R_new' (Kd.R_new' ho0 (Kd.R_lt (by (with_reducible repeat (first | apply Kd.R_alloc | apply Kd.R_drewN | apply Kd.R_drew)); exact HO_3.out))) (Kd.R_lt (by (with_reducible repeat (first | apply Kd.R_alloc | apply Kd.R_drewN | apply Kd.R_drew)); exact HO676.out))) (below_size (by repeat (first | (with_reducible first | exact HB.out | apply below_alloc | apply pw_below_drewN | apply below_drew1) | exact HB.out)))); have n3_ := Aside0.mk (below_step (by repeat (first | (with_reducible first | exact HB.out | apply below_alloc | apply pw_below_drewN | apply below_drew1) | exact HB.out)) hb); clear HO_3; clear HO676; clear HB; have HO_3 := n0_; have HO676 := n1_; have HO680 := n2_; have HB := n3_; clear n0_ n1_ n2_ n3_; (try clear hb); (try clear hb2); (try clear hk); (try clear hi); (try clear ho0); obtain ⟨Ao53, co53, eo53⟩ := Kd.R_slice HO676.out; subst eo53; obtain ⟨Ao54, co54, eo54⟩ := Kd.R_slice HO680.out; subst eo54) | ((with_reducible refine gate_callee (f := 29) rfl ?_); refine goesL_ (some 51) rfl rfl Tryd.func29 (by kernel_rfl) rfl #[.slice Ao53 t673.length co53, .slice Ao54 t677.length co54] rfl (by (try simp only [List.map_toArray, List.map_cons, List.map_nil]); first | done | rfl | (simp only [List.length_drop, List.length_take]; rfl)) ?_; (with_reducible refine (clocheref08_Same.calls kj14 _ _ t673 _ _ t677 false _ ?side1 ?side2 ?side3 ?side4 A32.out).mono ?_); (case side1 => repeat (first | exact (Kd.R_reads' HO676.out).2.2 | (with_reducible refine Kd.C_alloc ?_ _) | (with_reducible refine Kd.C_drewN ?_ _) | (with_reducible refine Kd.C_drew ?_))); (case side2 => exact (Kd.R_reads' HO676.out).2.1); (case side3 => repeat (first | exact (Kd.R_reads' HO680.out).2.2 | (with_reducible refine Kd.C_alloc ?_ _) | (with_reducible refine Kd.C_drewN ?_ _) | (with_reducible refine Kd.C_drew ?_))); (case side4 => exact (Kd.R_reads' HO680.out).2.1); rintro e w' ⟨rfl, ⟨nd, rfl⟩⟩; refine ⟨_, rfl, ?_⟩))
                go_ret
                exact ⟨by first | rfl | (simp [errW_none, errW_some] <;> rfl) | (simp [*, errW_none, errW_some] <;> rfl), by repeat (first | (with_reducible first | exact HB.out | apply below_alloc | apply pw_below_drewN | apply below_drew1) | exact HB.out)⟩
    · rw [if_neg c4] at H
      exact absurd H (by simp)
  · replace c3 := Bool.eq_false_iff.mpr c3
    subst c3
    have H1 : ((clochelaw08_alive.f).bind fun t655 => (some t655)) = some r := by rw [if_neg (show ¬ (false = true) by decide)] at H; exact H
    clear H
    have H := H1
    clear H1
    replace H := Option.bind_eq_some_iff.mp H
    obtain ⟨t655, A550, H⟩ := H
    replace H : (some t655) = some r := H
    have A55 := Aside0.mk A550
    clear A550
    obtain rfl := Option.some.inj H
    go_enter Tryd.func6, Tryd.ntmps6
    go_wp2_with (first | ((with_reducible refine gate_callee (f := 16) rfl ?_); refine goesL_ (some 9) rfl rfl Tryd.func16 (by kernel_rfl) rfl #[.slice A0 l0.length c0, .slice none 0 0] rfl (by (try simp only [List.map_toArray, List.map_cons, List.map_nil]); first | done | rfl | (simp only [List.length_drop, List.length_take]; rfl)) ?_; (refine (clochelaw08_few.calls _ _ l0 _ _ ([] : List Int) false _ ?side1 ?side2 ?side3 ?side4 A2.out).mono ?_); (case side1 => repeat (first | exact HR0.out | (with_reducible refine Kd.C_alloc ?_ _) | (with_reducible refine Kd.C_drewN ?_ _) | (with_reducible refine Kd.C_drew ?_))); (case side2 => exact HC0.out); (case side3 => exact Kd.C_nil _ _); (case side4 => exact Nat.le_refl _); rintro e w' ⟨rfl, ⟨nd, rfl⟩⟩; refine ⟨_, rfl, ?_⟩) | ((with_reducible refine gate_callee (f := 17) rfl ?_); refine goesL_ (some 11) rfl rfl Tryd.func17 (by kernel_rfl) rfl #[] rfl (by (try simp only [List.map_toArray, List.map_cons, List.map_nil]); first | done | rfl | (simp only [List.length_drop, List.length_take]; rfl)) ?_; (with_reducible refine (clochelaw08_alive.calls  t655 _ A55.out).mono ?_); rintro e w56 ⟨rfl, hb⟩; refine ⟨_, rfl, ?_⟩; have n0_ := Aside0.mk (below_step (by repeat (first | (with_reducible first | exact HB.out | apply below_alloc | apply pw_below_drewN | apply below_drew1) | exact HB.out)) hb); clear HB; have HB := n0_; clear n0_; (try clear hb); (try clear hb2); (try clear hk); (try clear hi)))
    go_ret
    exact ⟨by first | rfl | (simp [errW_none, errW_some] <;> rfl) | (simp [*, errW_none, errW_some] <;> rfl), by repeat (first | (with_reducible first | exact HB.out | apply below_alloc | apply pw_below_drewN | apply below_drew1) | exact HB.out)⟩

/-- THE ONE PURE STATEMENT of clochelaw08_TonesPolynomials: yours. -/
def clochelaw08_TonesPolynomials.Pure : Prop := ∀ (l0 : List Int), l0.length ≤ maxLen → l0.length * 8 ≤ 140737488351232 → (∀ x ∈ l0, (Lit.int .i64 x).wf = true) → ∃ k, clochelaw08_TonesPolynomials.f k l0 = some true
theorem clochelaw08_TonesPolynomials.walk (P : clochelaw08_TonesPolynomials.Pure) (a0 : Option Addr) (len0 cap0 : Nat) (z0 : List Int) (w : World) (w0 : (a0 = none ∧ len0 = 0 ∧ cap0 = 0 ∧ z0 = []) ∨ ∃ x, a0 = some x ∧ len0 ≤ cap0 ∧ cap0 ≤ maxLen ∧ z0.length = cap0 ∧ (∀ i, i < z0.length → w.cell? (x.add i) = some (.int .i64 (z0.getD i 0))) ∧ ∀ n ∈ z0, (Lit.int .i64 n).wf = true) (y0 : len0 * 8 ≤ 140737488351232) (hG : Hand.Glob w) :
    Calls Tryd.prog 6 #[.slice a0 len0 cap0] w fun e w' => e = .returned (.bool true) ∧ Below w.heap.size w w' := by
  obtain ⟨l0, rfl, hr0, hm0, hw0, hc0⟩ := ReadsInt.ofRowC w0
  obtain ⟨k, h⟩ := P l0 hm0 y0 hw0
  refine (clochelaw08_TonesPolynomials.calls k _ _ l0 true w (Kd.C_of_reads (d := (0 : Int)) (h1 := fun _ => rfl) hr0) hc0 h hG).mono ?_
  rintro e w' ⟨rfl, hd⟩
  exact ⟨rfl, hd⟩

-- NOT PRINTED: function 63 (slices_Clone_int_int)

end Go.Proofs.YtglalkenkmijkaaDoor.PAll
/- The reference's matchings: set by set of wires; the same formal sum. -/
namespace Go.Proofs.YtglalkenkmijkaaDoor.Hand
open Go.RowKit Enum PAll Go.Proofs.YtglalkenkmijkaaDoorW.PrintWords Go.Proofs.YtglalkenkmijkaaDoorW.PrintLast Go.Proofs.YtglalkenkmijkaaDoorW.PrintMore
set_option linter.unusedVariables false
set_option linter.unusedSimpArgs false

theorem sub_bit : ∀ s, s < 128 → ∀ k, k < 7 → s.testBit k = true → wrap64 (((s : Nat) : Int) - shl .i64 1 ((k : Nat) : Int)) = ((clr s k : Nat) : Int) := by decide +kernel
theorem tmod0 : ∀ s, s < 128 → ∀ k, k < 7 → (Int.tmod (shr .i64 ((s : Nat) : Int) ((k : Nat) : Int)) 2 = 0 ↔ s.testBit k = false) := by decide +kernel
theorem tmod1 : ∀ s, s < 128 → ∀ k, k < 7 → (Int.tmod (shr .i64 ((s : Nat) : Int) ((k : Nat) : Int)) 2 = 1 ↔ s.testBit k = true) := by decide +kernel
theorem below_low : ∀ s, s < 128 → ∀ k, k < lowest 7 s → s.testBit k = false := by
  have : ∀ s, s < 128 → ∀ k, k < 7 → k < lowest 7 s → s.testBit k = false := by decide +kernel
  intro s hs k hk
  by_cases h0 : s = 0
  · subst h0; simp
  · exact this s hs k (Nat.lt_trans hk (low_bit s hs h0).1) hk
/-- What is set at place a. -/
theorem cof_set {out : List Int} {a : Nat} (ha : a < out.length) (x : Int) (j : Nat) : cof (out.set a x) j = if j = a then x else cof out j := by
  unfold cof
  by_cases h : j = a
  · subst h
    rw [if_pos rfl, List.getD_eq_getElem?_getD, List.getElem?_set_self ha]; rfl
  · rw [if_neg h, List.getD_eq_getElem?_getD, List.getElem?_set_ne (Ne.symm h), ← List.getD_eq_getElem?_getD]
/-- What is added at the places: the sum's number with k knots, sg times, at a - k. -/
def put (e : Nat → Int) (sg : Int) (a : Nat) (f : Nat → Int) (j : Nat) : Int := e j + if j ≤ a then sg * f (a - j) else 0

section
variable {f : List Int} {n : Nat} (hF : Fr f n)
/-- Formal sums of wires alone: EO, rings counting 0. -/
def Pair (f : List Int) (n p : Nat) : Prop := ∀ F, p + 1 ≤ F → ∀ s : Nat, s < 128 → (∀ k, s.testBit k = true → k < n) → popN 7 s = p → ∀ a : Nat, p ≤ a → a ≤ 100 → ∀ sg : Int, (sg = 1 ∨ sg = -1) → ∀ m, 20 * p + 1 ≤ m → ∀ (out : List Int) (e : Nat → Int), a < out.length → (∀ j, cof out j = wrap64 (e j)) →
  ∃ out', clocheref08_pair.f m f (s : Int) (a : Int) sg out = some out' ∧ out'.length = out.length ∧ ∀ j, cof out' j = wrap64 (put e sg a (fun k => ev (has (adjF f)) k (EO (-1) 0 n F s)) j)
include hF in
theorem pair_l1 {p' F : Nat} (hp : p' ≤ F) (IH : ∀ q, q < p' → Pair f n q) {i r : Nat} (hi : i < n) (hr1 : r < 128) (hrn : ∀ k, r.testBit k = true → k < n) (hrp : popN 7 r = p') {a : Nat} (ha : p' + 1 ≤ a) (ha2 : a ≤ 100) {sg : Int} (hsg : sg = 1 ∨ sg = -1) :
    ∀ d j, j + d = n → ∀ m, 20 * p' + d + 1 ≤ m → ∀ (out : List Int) (e : Nat → Int), a < out.length → (∀ k, cof out k = wrap64 (e k)) →
      ∃ out', clocheref08_pair.l1 m f (a : Int) sg out (i : Int) (r : Int) (j : Int) = some out' ∧ out'.length = out.length ∧ ∀ k, cof out' k = wrap64 (put e sg a (fun x => ev (has (adjF f)) x ((List.range' j d).flatMap fun k => if r.testBit k then mulT (eb i k) 2 (-1) (EO (-1) 0 n F (clr r k)) else [])) k)
  | 0, j, hj, m, hm, out, e, hl, he => by
    obtain ⟨m, rfl⟩ : ∃ q, m = q + 1 := ⟨m - 1, by omega⟩
    refine ⟨out, ?_, rfl, fun k => by rw [he]; simp [put, ev]⟩
    rw [clocheref08_pair.l1, if_neg (by rw [hF.len]; omega)]
  | d + 1, j, hj, m, hm, out, e, hl, he => by
    obtain ⟨m, rfl⟩ : ∃ q, m = q + 1 := ⟨m - 1, by omega⟩
    obtain ⟨b, hb, hrb, hbb⟩ := hF.nat i
    have hn := hF.le
    have hp7 := pop_le r hr1
    have hand : Go.bits .and .i64 (rd f (i : Int)) (r : Int) = ((b &&& r : Nat) : Int) := by rw [hrb]; exact and_nat b r hb hr1
    have hbr : b &&& r < 128 := Nat.lt_of_le_of_lt Nat.and_le_left hb
    have htst := tmod1 (b &&& r) hbr j (by omega)
    rw [Nat.testBit_and, hbb] at htst
    rw [clocheref08_pair.l1, if_pos (by rw [hF.len]; omega), if_pos (by omega), if_pos (by rw [hF.len]; omega), if_pos (by omega), hand, wrap_succ (by omega)]
    have hsp : ∀ x, ev (has (adjF f)) x ((List.range' j (d + 1)).flatMap fun k => if r.testBit k then mulT (eb i k) 2 (-1) (EO (-1) 0 n F (clr r k)) else []) = ev (has (adjF f)) x (if r.testBit j = true then mulT (eb i j) 2 (-1) (EO (-1) 0 n F (clr r j)) else []) + ev (has (adjF f)) x ((List.range' (j + 1) d).flatMap fun k => if r.testBit k then mulT (eb i k) 2 (-1) (EO (-1) 0 n F (clr r k)) else []) := fun x => by
      rw [List.range'_succ, List.flatMap_cons, ev_append]
    by_cases ht : (adjF f i j && r.testBit j) = true
    · rw [if_pos (htst.2 ht)]
      rw [Bool.and_eq_true] at ht
      have hpc := pop_clr r hr1 j (by omega) ht.2
      have hw2 : wrap64 ((a : Int) - 2) = ((a - 2 : Nat) : Int) := by unfold wrap64; omega
      have hwn : wrap64 (-sg) = -sg := by unfold wrap64; omega
      rw [sub_bit r hr1 j (by omega) ht.2, hw2, hwn]
      obtain ⟨o1, h1, hl1, he1⟩ := IH (p' - 1) (by omega) F (by omega) (clr r j) (clr_lt hr1) (fun k hk => hrn k (sd_sub hr1 hk).1) (by omega) (a - 2) (by omega) (by omega) (-sg) (by omega) m (by omega) out e (by omega) he
      obtain ⟨o2, h2, hl2, he2⟩ := pair_l1 hp IH hi hr1 hrn hrp ha ha2 hsg d (j + 1) (by omega) m (by omega) o1 _ (by omega) he1
      refine ⟨o2, by rw [h1, Option.bind_some, h2], by omega, fun k => ?_⟩
      rw [he2]
      congr 1
      unfold put
      dsimp only
      rw [hsp]
      rw [if_pos ht.2, ev_mul (has_mult _), has_eb hF.wired hF.le hi (by omega), if_pos ht.1]
      by_cases hk : k ≤ a
      · rw [if_pos hk, if_pos hk]
        by_cases hk2 : k ≤ a - 2
        · rw [if_pos hk2, if_pos (by omega), show a - k - 2 = a - 2 - k by omega]
          rcases hsg with rfl | rfl <;> omega
        · rw [if_neg hk2, if_neg (by omega)]
          rcases hsg with rfl | rfl <;> omega
      · rw [if_neg hk, if_neg hk, if_neg (by omega)]
        omega
    · rw [if_neg (fun h => ht (htst.1 h))]
      obtain ⟨o2, h2, hl2, he2⟩ := pair_l1 hp IH hi hr1 hrn hrp ha ha2 hsg d (j + 1) (by omega) m (by omega) out e hl he
      refine ⟨o2, h2, hl2, fun k => ?_⟩
      rw [he2]
      unfold put
      dsimp only
      have hz : ∀ x, ev (has (adjF f)) x (if r.testBit j = true then mulT (eb i j) 2 (-1) (EO (-1) 0 n F (clr r j)) else []) = 0 := fun x => by
        by_cases hb : r.testBit j = true
        · rw [if_pos hb, ev_mul (has_mult _), has_eb hF.wired hF.le hi (by omega), if_neg (fun h => ht (by rw [h, hb]; rfl))]
        · rw [if_neg hb]; rfl
      rw [hsp, hz, Int.zero_add]
theorem pair_l0 {s : Nat} (hs : s < 128) (h0 : s ≠ 0) (f : List Int) (a sg : Int) (out : List Int) : ∀ d i m, i + d = lowest 7 s →
    clocheref08_pair.l0 (m + d + 1) f (s : Int) a sg out (i : Int) = (clocheref08_pair.f m f ((clr s (lowest 7 s) : Nat) : Int) a sg out).bind fun t => clocheref08_pair.l1 m f a sg t ((lowest 7 s : Nat) : Int) ((clr s (lowest 7 s) : Nat) : Int) 0
  | 0, i, m, h => by
    obtain ⟨hi7, hbit⟩ := low_bit s hs h0
    have hi : i = lowest 7 s := by omega
    subst hi
    rw [clocheref08_pair.l0, if_pos (by omega), if_neg (fun hc => by rw [(tmod0 s hs _ hi7).1 hc] at hbit; cases hbit), sub_bit s hs _ hi7 hbit]
  | d + 1, i, m, h => by
    obtain ⟨hi7, hbit⟩ := low_bit s hs h0
    rw [show m + (d + 1) + 1 = (m + d + 1) + 1 by omega, clocheref08_pair.l0, if_pos (by omega), if_pos ((tmod0 s hs i (by omega)).2 (below_low s hs i (by omega))), wrap_succ (by omega)]
    exact pair_l0 hs h0 f a sg out d (i + 1) m (by omega)
include hF in
theorem pair_ev : ∀ p, Pair f n p := by
  intro p
  induction p using Nat.strongRecOn with
  | _ p IH =>
    intro F hFp s hs hsn hsp a hpa ha2 sg hsg m hm out e hl he
    obtain ⟨m, rfl⟩ : ∃ q, m = q + 1 := ⟨m - 1, by omega⟩
    obtain ⟨F, rfl⟩ : ∃ q, F = q + 1 := ⟨F - 1, by omega⟩
    have hn := hF.le
    by_cases h0 : s = 0
    · subst h0
      refine ⟨out.set a (wrap64 (cof out a + sg)), ?_, by rw [List.length_set], fun j => ?_⟩
      · rw [clocheref08_pair.f, if_pos (show ((0 : Nat) : Int) = 0 from rfl), if_pos (by omega), if_pos (by omega), rd_cof, Int.toNat_natCast]
      · rw [cof_set hl, EO, if_pos rfl]
        have hz := (has_mult (adjF f)).zero
        unfold put
        dsimp only
        by_cases hj : j = a
        · subst hj
          rw [if_pos rfl, if_pos (Nat.le_refl _), he, Nat.sub_self]
          have hws : sg = wrap64 sg := by unfold wrap64; omega
          conv => lhs; rw [hws, wrap_add]
          simp [ev, hz]
        · rw [if_neg hj, he]
          congr 1
          by_cases hja : j ≤ a
          · rw [if_pos hja]
            have : ev (has (adjF f)) (a - j) [(0, 0, 1)] = 0 := by
              rw [ev, if_neg (by dsimp only; omega)]; rfl
            rw [this]
            omega
          · rw [if_neg hja]
            omega
    · obtain ⟨hi7, hbit⟩ := low_bit s hs h0
      have hi := hsn _ hbit
      have hpc := pop_clr s hs _ hi7 hbit
      have hr1 : clr s (lowest 7 s) < 128 := clr_lt hs
      have hrn : ∀ k, (clr s (lowest 7 s)).testBit k = true → k < n := fun k hk => hsn k (sd_sub hs hk).1
      have hp7 := pop_le s hs
      obtain ⟨m2, rfl⟩ : ∃ q, m = q + lowest 7 s + 1 := ⟨m - lowest 7 s - 1, by omega⟩
      obtain ⟨o1, h1, hl1, he1⟩ := IH (p - 1) (by omega) F (by omega) _ hr1 hrn (by omega) a (by omega) ha2 sg hsg m2 (by omega) out e hl he
      obtain ⟨o2, h2, hl2, he2⟩ := pair_l1 hF (p' := p - 1) (F := F) (by omega) (fun q hq => IH q (by omega)) hi hr1 hrn (by omega) (a := a) (by omega) ha2 hsg n 0 (by omega) m2 (by omega) o1 _ (by omega) he1
      refine ⟨o2, ?_, by omega, fun j => ?_⟩
      · have hl0 := pair_l0 hs h0 f (a : Int) sg out (lowest 7 s) 0 m2 (by omega)
        rw [clocheref08_pair.f, if_neg (by omega)]
        rw [show ((0 : Nat) : Int) = 0 from rfl] at hl0
        rw [hl0, h1, Option.bind_some]
        exact h2
      · rw [he2]
        congr 1
        unfold put
        dsimp only
        have hz : ∀ x, ev (has (adjF f)) x ((RP n (lowest 7 s) (clr s (lowest 7 s)) 7 (lowest 7 s) 0 0).flatMap fun p => mulT p.1 (popN 7 p.2 + 1) 0 (EO (-1) 0 n F (sd (clr s (lowest 7 s)) p.2))) = 0 := fun x => by
          induction (RP n (lowest 7 s) (clr s (lowest 7 s)) 7 (lowest 7 s) 0 0) with
          | nil => rfl
          | cons q L ih =>
            rw [List.flatMap_cons, ev_append, ih, ev_mul (has_mult _)]
            simp
        rw [EO, if_neg h0]
        by_cases hja : j ≤ a
        · rw [if_pos hja, if_pos hja, if_pos hja, ev_append, ev_append, hz, List.range_eq_range']
          rcases hsg with rfl | rfl <;> omega
        · rw [if_neg hja, if_neg hja, if_neg hja]
          omega
end
end Go.Proofs.YtglalkenkmijkaaDoor.Hand
/- Determinants by all orders: a formal sum. -/
namespace Go.Proofs.YtglalkenkmijkaaDoor.Enum
/-- The sign of the used columns from k on, so many columns. -/
def fl (used k : Nat) : Nat → Int
  | 0 => 1
  | d + 1 => (if used.testBit k then -1 else 1) * fl used (k + 1) d
/-- All orders of the last d rows, at used columns: masks of wires, how many are not their own, signs. -/
def DT (n : Nat) : Nat → Nat → List Term
  | 0, _ => [(0, 0, 1)]
  | d + 1, used => (List.range n).flatMap fun c => if used.testBit c then [] else
      if c + (d + 1) = n then mulT 0 0 (fl used (c + 1) (n - (c + 1))) (DT n d (used ||| 2 ^ c)) else mulT (eb (n - (d + 1)) c) 1 (-fl used (c + 1) (n - (c + 1))) (DT n d (used ||| 2 ^ c))
theorem fl_one (used : Nat) : ∀ d k, fl used k d = 1 ∨ fl used k d = -1
  | 0, k => .inl rfl
  | d + 1, k => by
    rw [fl]
    rcases fl_one used d (k + 1) with h | h <;> rw [h] <;> split <;> simp
end Go.Proofs.YtglalkenkmijkaaDoor.Enum
namespace Go.Proofs.YtglalkenkmijkaaDoor.Hand
open Go.RowKit Enum PAll Go.Proofs.YtglalkenkmijkaaDoorW.PrintWords Go.Proofs.YtglalkenkmijkaaDoorW.PrintLast Go.Proofs.YtglalkenkmijkaaDoorW.PrintMore
set_option linter.unusedVariables false
set_option linter.unusedSimpArgs false
theorem or_shl : ∀ s, s < 128 → ∀ k, k < 7 → Go.bits .or .i64 ((s : Nat) : Int) (shl .i64 1 ((k : Nat) : Int)) = ((s ||| 2 ^ k : Nat) : Int) := by decide +kernel
theorem put_add {e : Nat → Int} {sg : Int} {a : Nat} {f g : Nat → Int} (j : Nat) : put (put e sg a f) sg a g j = put e sg a (fun k => f k + g k) j := by
  unfold put
  dsimp only
  by_cases h : j ≤ a
  · rw [if_pos h, if_pos h, if_pos h, Int.mul_add]
    omega
  · rw [if_neg h, if_neg h, if_neg h]
    omega
theorem put_congr {e : Nat → Int} {sg : Int} {a : Nat} {f g : Nat → Int} (h : ∀ k, f k = g k) (j : Nat) : put e sg a f j = put e sg a g j := by
  rw [show f = g from funext h]

section
variable {f : List Int} {n : Nat} (hF : Fr f n)
/-- The loop that finds the sign. -/
theorem det_l1 {f : List Int} {n : Nat} (hl : f.length = n) (hn : n ≤ 7) {used : Nat} (hu : used < 128) (row own sg : Int) (out : List Int) (c : Int) : ∀ d k (s : Int), (s = 1 ∨ s = -1) → k + d = n → ∀ m,
    clocheref08_determinant.l1 (m + d + 1) f row (used : Int) own sg out c s (k : Int) = clocheref08_determinant.l1 (m + 1) f row (used : Int) own sg out c (s * fl used k d) (n : Int)
  | 0, k, s, hs, hk, m => by
    rw [fl, Int.mul_one, show k = n by omega]
  | d + 1, k, s, hs, hk, m => by
    have ht := tmod1 used hu k (by omega)
    have hws : wrap64 (-s) = -s := by unfold wrap64; omega
    rw [show m + (d + 1) + 1 = (m + d + 1) + 1 by omega]
    conv => lhs; rw [clocheref08_determinant.l1]
    rw [if_pos (by omega), if_pos (by omega), wrap_succ (by omega), hws, fl]
    by_cases hb : used.testBit k = true
    · rw [if_pos (ht.2 hb), det_l1 hl hn hu row own sg out c d (k + 1) (-s) (by omega) (by omega) m, if_pos hb]
      congr 1
      rw [Int.neg_mul, Int.neg_mul, Int.one_mul, Int.mul_neg]
    · rw [if_neg (fun h => hb (ht.1 h)), det_l1 hl hn hu row own sg out c d (k + 1) s hs (by omega) m, if_neg hb, Int.one_mul]
/-- 'determinant' at the last d rows. -/
def Det (f : List Int) (n d : Nat) : Prop := ∀ used : Nat, used < 2 ^ n → ∀ own : Nat, own + d ≤ 100 → ∀ sg : Int, (sg = 1 ∨ sg = -1) → ∀ m, 100 * d + 1 ≤ m → ∀ (out : List Int) (e : Nat → Int), own + d < out.length → (∀ j, cof out j = wrap64 (e j)) →
  ∃ out', clocheref08_determinant.f m f ((n - d : Nat) : Int) (used : Int) (own : Int) sg out = some out' ∧ out'.length = out.length ∧ ∀ j, cof out' j = wrap64 (put e sg (own + d) (fun k => ev (has (adjF f)) k (DT n d used)) j)
def DK (n d used c : Nat) : List Term := if used.testBit c then [] else
  if c + (d + 1) = n then mulT 0 0 (fl used (c + 1) (n - (c + 1))) (DT n d (used ||| 2 ^ c)) else mulT (eb (n - (d + 1)) c) 1 (-fl used (c + 1) (n - (c + 1))) (DT n d (used ||| 2 ^ c))
include hF in
theorem det_l0 {d : Nat} (hd : d + 1 ≤ n) (IH : Det f n d) {used : Nat} (hu : used < 2 ^ n) {own : Nat} (hown : own + (d + 1) ≤ 100) {sg : Int} (hsg : sg = 1 ∨ sg = -1) :
    ∀ dd c, c + dd = n → ∀ m, 100 * d + 11 * dd + 1 ≤ m → ∀ (out : List Int) (e : Nat → Int), own + (d + 1) < out.length → (∀ j, cof out j = wrap64 (e j)) →
      ∃ out', clocheref08_determinant.l0 m f ((n - (d + 1) : Nat) : Int) (used : Int) (own : Int) sg out (c : Int) = some out' ∧ out'.length = out.length ∧ ∀ j, cof out' j = wrap64 (put e sg (own + (d + 1)) (fun k => ev (has (adjF f)) k ((List.range' c dd).flatMap (DK n d used))) j)
  | 0, c, hc, m, hm, out, e, hl, he => by
    obtain ⟨m, rfl⟩ : ∃ q, m = q + 1 := ⟨m - 1, by omega⟩
    refine ⟨out, ?_, rfl, fun j => by rw [he]; simp [put, ev]⟩
    rw [clocheref08_determinant.l0, if_neg (by rw [hF.len]; omega)]
  | dd + 1, c, hc, m, hm, out, e, hl, he => by
    obtain ⟨m, rfl⟩ : ∃ q, m = q + 1 := ⟨m - 1, by omega⟩
    have hn := hF.le
    have hu7 : used < 128 := Nat.lt_of_lt_of_le hu (Nat.pow_le_pow_right (by decide) hn : 2 ^ n ≤ 2 ^ 7)
    have hcn : c < n := by omega
    obtain ⟨b, hb, hrb, hbb⟩ := hF.nat (n - (d + 1))
    have ht := tmod1 used hu7 c (by omega)
    have hub : used ||| 2 ^ c < 2 ^ n := Nat.or_lt_two_pow hu (Nat.pow_lt_pow_right (by decide) hcn)
    have hsp : ∀ k, ev (has (adjF f)) k ((List.range' c (dd + 1)).flatMap (DK n d used)) = ev (has (adjF f)) k (DK n d used c) + ev (has (adjF f)) k ((List.range' (c + 1) dd).flatMap (DK n d used)) := fun k => by
      rw [List.range'_succ, List.flatMap_cons, ev_append]
    -- what a column brings: nothing
    have skip : (∀ k, ev (has (adjF f)) k (DK n d used c) = 0) → ∀ m', 100 * d + 11 * dd + 1 ≤ m' → ∃ out', clocheref08_determinant.l0 m' f ((n - (d + 1) : Nat) : Int) (used : Int) (own : Int) sg out ((c + 1 : Nat) : Int) = some out' ∧ out'.length = out.length ∧ ∀ j, cof out' j = wrap64 (put e sg (own + (d + 1)) (fun k => ev (has (adjF f)) k ((List.range' c (dd + 1)).flatMap (DK n d used))) j) := by
      intro hz m' hm'
      obtain ⟨o, h1, h2, h3⟩ := det_l0 hd IH hu hown hsg dd (c + 1) (by omega) m' (by omega) out e hl he
      exact ⟨o, h1, h2, fun j => by
        rw [h3]
        exact congrArg wrap64 (put_congr (fun k => by rw [hsp, hz, Int.zero_add]) j)⟩
    -- the sign, then the rest
    have walk : used.testBit c = false → (c + (d + 1) = n ∨ adjF f (n - (d + 1)) c = true) → ∀ m', 100 * d + 11 * dd + 1 + 8 ≤ m' → ∃ out', clocheref08_determinant.l1 m' f ((n - (d + 1) : Nat) : Int) (used : Int) (own : Int) sg out (c : Int) sg ((c + 1 : Nat) : Int) = some out' ∧ out'.length = out.length ∧ ∀ j, cof out' j = wrap64 (put e sg (own + (d + 1)) (fun k => ev (has (adjF f)) k ((List.range' c (dd + 1)).flatMap (DK n d used))) j) := by
      intro hbit hcase m' hm'
      obtain ⟨m2, rfl⟩ : ∃ q, m' = q + (n - (c + 1)) + 1 := ⟨m' - (n - (c + 1)) - 1, by omega⟩
      rw [det_l1 hF.len hn hu7 _ _ sg out (c : Int) (n - (c + 1)) (c + 1) sg hsg (by omega) m2]
      obtain ⟨s1, hs1⟩ : ∃ s1, fl used (c + 1) (n - (c + 1)) = s1 := ⟨_, rfl⟩
      have hs1' : s1 = 1 ∨ s1 = -1 := by rw [← hs1]; exact fl_one _ _ _
      have hw1 : wrap64 (((n - (d + 1) : Nat) : Int) + 1) = ((n - d : Nat) : Int) := by unfold wrap64; omega
      have hor := or_shl used hu7 c (by omega)
      rw [hs1, clocheref08_determinant.l1, if_neg (by rw [hF.len]; omega), hw1, hor, wrap_succ (by omega), wrap_succ (by omega)]
      have hsn : sg * s1 = 1 ∨ sg * s1 = -1 := by rcases hsg with rfl | rfl <;> rcases hs1' with rfl | rfl <;> decide
      by_cases hrow : c + (d + 1) = n
      · rw [if_pos (by omega), if_pos (by omega)]
        obtain ⟨o1, h1, hl1, he1⟩ := IH (used ||| 2 ^ c) hub (own + 1) (by omega) (sg * s1) hsn m2 (by omega) out e (by omega) he
        obtain ⟨o2, h2, hl2, he2⟩ := det_l0 hd IH hu hown hsg dd (c + 1) (by omega) m2 (by omega) o1 _ (by omega) he1
        refine ⟨o2, by rw [h1, Option.bind_some, h2], by omega, fun j => ?_⟩
        rw [he2]
        congr 1
        have hk : ∀ k, ev (has (adjF f)) k (DK n d used c) = s1 * ev (has (adjF f)) k (DT n d (used ||| 2 ^ c)) := fun k => by
          unfold DK
          rw [if_neg (by rw [hbit]; decide), if_pos hrow, ev_mul (has_mult _), (has_mult (adjF f)).zero, if_pos rfl, if_pos (by omega), hs1, Nat.sub_zero]
        unfold put
        dsimp only
        rw [hsp, hk]
        by_cases hj : j ≤ own + (d + 1)
        · rw [if_pos (by omega), if_pos hj, if_pos hj, show own + 1 + d - j = own + (d + 1) - j by omega, Int.mul_add, Int.mul_assoc]
          omega
        · rw [if_neg (by omega), if_neg hj, if_neg hj]
          omega
      · have hadj := hcase.resolve_left hrow
        have hwn : wrap64 (-(sg * s1)) = -(sg * s1) := by rcases hsn with h | h <;> rw [h] <;> (unfold wrap64; omega)
        rw [if_neg (by omega), if_pos (by omega), hwn]
        obtain ⟨o1, h1, hl1, he1⟩ := IH (used ||| 2 ^ c) hub own (by omega) (-(sg * s1)) (by rcases hsn with h | h <;> rw [h] <;> decide) m2 (by omega) out e (by omega) he
        obtain ⟨o2, h2, hl2, he2⟩ := det_l0 hd IH hu hown hsg dd (c + 1) (by omega) m2 (by omega) o1 _ (by omega) he1
        refine ⟨o2, by rw [h1, Option.bind_some, h2], by omega, fun j => ?_⟩
        rw [he2]
        congr 1
        have hk : ∀ k, ev (has (adjF f)) k (DK n d used c) = if 1 ≤ k then (-s1) * ev (has (adjF f)) (k - 1) (DT n d (used ||| 2 ^ c)) else 0 := fun k => by
          unfold DK
          rw [if_neg (by rw [hbit]; decide), if_neg hrow, ev_mul (has_mult _), has_eb hF.wired hn (by omega) hcn, if_pos hadj, hs1]
        unfold put
        dsimp only
        rw [hsp, hk]
        by_cases hj : j ≤ own + (d + 1)
        · rw [if_pos hj, if_pos hj]
          by_cases hj2 : j ≤ own + d
          · rw [if_pos hj2, if_pos (by omega), show own + (d + 1) - j - 1 = own + d - j by omega, Int.mul_add, Int.neg_mul, Int.neg_mul, Int.mul_neg, Int.mul_assoc]
            omega
          · rw [if_neg hj2, if_neg (by omega), Int.zero_add]
            omega
        · rw [if_neg hj, if_neg hj, if_neg (by omega)]
          omega
    rw [clocheref08_determinant.l0, if_pos (by rw [hF.len]; omega), if_pos (by omega)]
    obtain ⟨m3, rfl⟩ : ∃ q, m = q + 1 := ⟨m - 1, by omega⟩
    by_cases hbit : used.testBit c = true
    · rw [if_pos (ht.2 hbit), clocheref08_determinant.j1, if_pos rfl, wrap_succ (by omega)]
      exact skip (fun k => by unfold DK; rw [if_pos hbit]; rfl) m3 (by omega)
    · have hbit' : used.testBit c = false := by simpa using hbit
      rw [if_neg (fun h => hbit (ht.1 h))]
      by_cases hrow : c + (d + 1) = n
      · rw [if_pos (by omega), clocheref08_determinant.j1, if_neg (by decide), wrap_succ (by omega)]
        exact walk hbit' (.inl hrow) m3 (by omega)
      · rw [if_neg (by omega), if_pos (by omega), if_pos (by rw [hF.len]; omega)]
        have htb := tmod0 b hb c (by omega)
        rw [hbb] at htb
        rw [hrb]
        by_cases hadj : adjF f (n - (d + 1)) c = true
        · rw [show (Int.tmod (shr .i64 ((b : Nat) : Int) (c : Int)) 2 == 0) = false from beq_eq_false_iff_ne.2 (fun h => by rw [htb.1 h] at hadj; cases hadj), clocheref08_determinant.j1, if_neg (by decide), wrap_succ (by omega)]
          exact walk hbit' (.inr hadj) m3 (by omega)
        · have hadj' : adjF f (n - (d + 1)) c = false := by simpa using hadj
          rw [show (Int.tmod (shr .i64 ((b : Nat) : Int) (c : Int)) 2 == 0) = true from beq_iff_eq.2 (htb.2 hadj'), clocheref08_determinant.j1, if_pos rfl, wrap_succ (by omega)]
          exact skip (fun k => by unfold DK; rw [if_neg hbit, if_neg hrow, ev_mul (has_mult _), has_eb hF.wired hn (by omega) hcn, if_neg hadj]) m3 (by omega)
include hF in
theorem det_ev : ∀ d, d ≤ n → Det f n d := by
  intro d
  induction d with
  | zero =>
    intro hd used hu own hown sg hsg m hm out e hl he
    obtain ⟨m, rfl⟩ : ∃ q, m = q + 1 := ⟨m - 1, by omega⟩
    refine ⟨out.set own (wrap64 (cof out own + sg)), ?_, by rw [List.length_set], fun j => ?_⟩
    · rw [clocheref08_determinant.f, if_pos (by rw [hF.len]; omega), if_pos (by omega), if_pos (by omega), rd_cof, Int.toNat_natCast]
    · rw [cof_set (by omega), DT]
      have hz := (has_mult (adjF f)).zero
      unfold put
      dsimp only
      rw [Nat.add_zero]
      by_cases hj : j = own
      · subst hj
        rw [if_pos rfl, if_pos (Nat.le_refl _), he, Nat.sub_self]
        have hws : sg = wrap64 sg := by unfold wrap64; omega
        conv => lhs; rw [hws, wrap_add]
        simp [ev, hz]
      · rw [if_neg hj, he]
        congr 1
        by_cases hja : j ≤ own
        · rw [if_pos hja]
          have : ev (has (adjF f)) (own - j) [(0, 0, 1)] = 0 := by
            rw [ev, if_neg (by dsimp only; omega)]; rfl
          rw [this]
          omega
        · rw [if_neg hja]
          omega
  | succ d ih =>
    intro hd used hu own hown sg hsg m hm out e hl he
    obtain ⟨m, rfl⟩ : ∃ q, m = q + 1 := ⟨m - 1, by omega⟩
    have hn := hF.le
    rw [clocheref08_determinant.f, if_neg (by rw [hF.len]; omega)]
    obtain ⟨o, h1, h2, h3⟩ := det_l0 hF hd (ih (by omega)) hu hown hsg n 0 (by omega) m (by omega) out e hl he
    exact ⟨o, h1, h2, fun j => by rw [h3, DT, List.range_eq_range']; rfl⟩
end
end Go.Proofs.YtglalkenkmijkaaDoor.Hand
