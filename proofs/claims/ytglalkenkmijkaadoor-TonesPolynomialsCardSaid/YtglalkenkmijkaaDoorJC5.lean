/- The common part 5 of the tones claims: walks over the program's text up to the layer's closed example, sums over figures, the listed variables; joined by a program. No condition beyond the statement's own. -/
import Derived.Test.YtglalkenkmijkaaDoorJC4
import Derived.Test.YtglalkenkmijkaaDoorJC3
import Derived.OwnWalk
import Derived.Test.YtglalkenkmijkaaDoorJC0
/- Contracts of Tones, Matchings, Figures and asked, in the printed form: more rounds tell the same. -/
namespace Go.Proofs.YtglalkenkmijkaaDoor.Hand
open Go.RowKit Go.Proofs.YtglalkenkmijkaaDoorW.PrintWords Go.Proofs.YtglalkenkmijkaaDoorW.PrintLast Go.Proofs.YtglalkenkmijkaaDoorW.PrintMore
set_option linter.unusedVariables false
set_option linter.unusedSimpArgs false

theorem fig_mono (f : List Int) (gw gr : Int → Int) : ∀ m, (∀ y0, LeO (overF f gw gr m y0) (overF f gw gr (m + 1) y0)) ∧ (∀ y0 y1 y2 y3, LeO (wiresF f gw gr m y0 y1 y2 y3) (wiresF f gw gr (m + 1) y0 y1 y2 y3)) ∧ (∀ y0 y1 y2 y3 y4 y5, LeO (onF f gw gr m y0 y1 y2 y3 y4 y5) (onF f gw gr (m + 1) y0 y1 y2 y3 y4 y5)) ∧ (∀ y0 y1 y2 y3 y4 y5 y6, LeO (onL f gw gr m y0 y1 y2 y3 y4 y5 y6) (onL f gw gr (m + 1) y0 y1 y2 y3 y4 y5 y6))
  | 0 => ⟨fun _ r h => by simp [overF] at h, fun _ _ _ _ r h => by simp [wiresF] at h, fun _ _ _ _ _ _ r h => by simp [onF] at h, fun _ _ _ _ _ _ _ r h => by simp [onL] at h⟩
  | m + 1 => by
    obtain ⟨ih0, ih1, ih2, ih3⟩ := fig_mono f gw gr m
    refine ⟨?_, ?_, ?_, ?_⟩
    · intro y0
      rw [overF, overF]
      repeat' first
      | (with_reducible exact ih0 _)
      | (with_reducible exact ih1 _ _ _ _)
      | (with_reducible exact ih2 _ _ _ _ _ _)
      | (with_reducible exact LeO.refl _)
      | (with_reducible refine LeO.ite ?_ ?_)
      | (with_reducible refine LeO.bind ?_ (fun _ => ?_))
    · intro y0 y1 y2 y3
      rw [wiresF, wiresF]
      repeat' first
      | (with_reducible exact ih0 _)
      | (with_reducible exact ih1 _ _ _ _)
      | (with_reducible exact LeO.refl _)
      | (with_reducible refine LeO.ite ?_ ?_)
      | (with_reducible refine LeO.bind ?_ (fun _ => ?_))
    · intro y0 y1 y2 y3 y4 y5
      rw [onF, onF]
      repeat' first
      | (with_reducible exact ih3 _ _ _ _ _ _ _)
      | (with_reducible exact LeO.refl _)
      | (with_reducible refine LeO.ite ?_ ?_)
    · intro y0 y1 y2 y3 y4 y5 y6
      rw [onL, onL]
      repeat' first
      | (with_reducible exact ih0 _)
      | (with_reducible exact ih2 _ _ _ _ _ _)
      | (with_reducible exact ih3 _ _ _ _ _ _ _)
      | (with_reducible exact LeO.refl _)
      | (with_reducible refine LeO.ite ?_ ?_)
      | (with_reducible refine LeO.bind ?_ (fun _ => ?_))
theorem ofF_mono (f : List Int) (gw gr : Int → Int) (m : Nat) : LeO (ofF f gw gr m) (ofF f gw gr (m + 1)) := by
  unfold ofF
  repeat' first
  | (with_reducible exact (fig_mono f gw gr m).1 _)
  | (with_reducible exact LeO.refl _)
  | (with_reducible refine LeO.ite ?_ ?_)
  | (with_reducible refine LeO.bind ?_ (fun _ => ?_))
end Go.Proofs.YtglalkenkmijkaaDoor.Hand
namespace Go.Proofs.YtglalkenkmijkaaDoor.PAll
open Go.RowKit Go.Proofs.YtglalkenkmijkaaDoorW.PrintWords Go.Proofs.YtglalkenkmijkaaDoorW.PrintLast Go.Proofs.YtglalkenkmijkaaDoorW.PrintMore
open Hand
def tones_Tones.f (k : Nat) (l0 : List Int) : Option (List Int × Int) := tonesF k l0
def tones_Matchings.f (k : Nat) (l0 : List Int) : Option (List Int × Int) := matchingsF k l0
def tones_Figures.f (k : Nat) (l0 : List Int) (a1 : Int) : Option (Int × Int × Int) := figuresF k k l0 a1
def tones_asked.f (l0 : List Int) : Option Int := some (askedF l0)
theorem tones_Tones.mono : ∀ a0 k, LeO (tones_Tones.f k a0) (tones_Tones.f (k + 1) a0) := by
  intro a0 k
  unfold tones_Tones.f tonesF
  exact LeO.ite (LeO.bind (ofF_mono _ _ _ _) fun _ => LeO.refl _) (LeO.refl _)
theorem tones_Matchings.mono : ∀ a0 k, LeO (tones_Matchings.f k a0) (tones_Matchings.f (k + 1) a0) := by
  intro a0 k
  unfold tones_Matchings.f matchingsF
  exact LeO.ite (LeO.bind (ofF_mono _ _ _ _) fun _ => LeO.refl _) (LeO.refl _)
theorem tones_Figures.mono : ∀ a0 a1 k, LeO (tones_Figures.f k a0 a1) (tones_Figures.f (k + 1) a0 a1) := by
  intro a0 a1 k
  unfold tones_Figures.f figuresF
  exact LeO.ite (LeO.bind (ofF_mono _ _ _ _) fun _ => LeO.bind (ofF_mono _ _ _ _) fun _ => LeO.refl _) (LeO.refl _)
theorem tones_Tones.calls (k : Nat) (A0 : Option Addr) (c0 : Nat) (l0 : List Int) (r1 : List Int) (r2 : Int) (w : World) (hr0 : Kd.C (Kd.int .i64) w A0 l0.length l0) (hc0 : l0.length ≤ c0) (h : tones_Tones.f k l0 = some (r1, r2)) (hG : Glob w := by first | exact HG.out | exact HG.out.of_below HB.out | exact HG.out.of_below (by repeat (first | (with_reducible first | exact HB.out | exact Below.refl _ _ | apply below_alloc | apply pw_below_drewN | apply below_drew1) | exact HB.out | refine below_set ?_ (by with_reducible assumption)))) :
    Calls Tryd.prog 21 #[.slice A0 l0.length c0] w fun e w' => ∃ v0_ : Value, e = .returned (.tuple #[v0_, .int .i64 r2]) ∧ Kd.R (Kd.int .i64) 3 w' w.heap.size (fun _ => True) v0_ r1 ∧ Below w.heap.size w w' := tones_calls k A0 c0 l0 r1 r2 w hr0 hc0 h hG
theorem tones_Matchings.calls (k : Nat) (A0 : Option Addr) (c0 : Nat) (l0 : List Int) (r1 : List Int) (r2 : Int) (w : World) (hr0 : Kd.C (Kd.int .i64) w A0 l0.length l0) (hc0 : l0.length ≤ c0) (h : tones_Matchings.f k l0 = some (r1, r2)) (hG : Glob w := by first | exact HG.out | exact HG.out.of_below HB.out | exact HG.out.of_below (by repeat (first | (with_reducible first | exact HB.out | exact Below.refl _ _ | apply below_alloc | apply pw_below_drewN | apply below_drew1) | exact HB.out | refine below_set ?_ (by with_reducible assumption)))) :
    Calls Tryd.prog 23 #[.slice A0 l0.length c0] w fun e w' => ∃ v0_ : Value, e = .returned (.tuple #[v0_, .int .i64 r2]) ∧ Kd.R (Kd.int .i64) 3 w' w.heap.size (fun _ => True) v0_ r1 ∧ Below w.heap.size w w' := matchings_calls k A0 c0 l0 r1 r2 w hr0 hc0 h hG
theorem tones_Figures.calls (k : Nat) (A0 : Option Addr) (c0 : Nat) (l0 : List Int) (a1 r1 r2 r3 : Int) (w : World) (hr0 : Kd.C (Kd.int .i64) w A0 l0.length l0) (hc0 : l0.length ≤ c0) (h : tones_Figures.f k l0 a1 = some (r1, r2, r3)) (hG : Glob w := by first | exact HG.out | exact HG.out.of_below HB.out | exact HG.out.of_below (by repeat (first | (with_reducible first | exact HB.out | exact Below.refl _ _ | apply below_alloc | apply pw_below_drewN | apply below_drew1) | exact HB.out | refine below_set ?_ (by with_reducible assumption)))) :
    Calls Tryd.prog 22 #[.slice A0 l0.length c0, .int .i64 a1] w fun e w' => e = .returned (.tuple #[.int .i64 r1, .int .i64 r2, .int .i64 r3]) ∧ Below w.heap.size w w' := figures_calls k k A0 c0 l0 a1 r1 r2 r3 w hr0 hc0 h hG
theorem tones_asked.calls (A0 : Option Addr) (c0 : Nat) (l0 : List Int) (r : Int) (w : World) (hr0 : Kd.C (Kd.int .i64) w A0 l0.length l0) (hc0 : l0.length ≤ c0) (h : tones_asked.f l0 = some r) :
    Calls Tryd.prog 58 #[.slice A0 l0.length c0] w fun e w' => e = .returned (.int .i64 r) ∧ Drawn0 w w' :=
  (asked_calls A0 c0 l0 r w hr0 hc0 (Option.some.inj h)).mono fun e w' ⟨h1, h2⟩ => ⟨h1, h2 ▸ Drawn0.refl _⟩
end Go.Proofs.YtglalkenkmijkaaDoor.PAll
/- The contract of Zeros, in the printed form. -/
namespace Go.Proofs.YtglalkenkmijkaaDoor.Hand
open Go.RowKit Go.Proofs.YtglalkenkmijkaaDoorW.PrintWords Go.Proofs.YtglalkenkmijkaaDoorW.PrintLast Go.Proofs.YtglalkenkmijkaaDoorW.PrintMore
open PAll
set_option linter.unusedVariables false
set_option linter.unusedSimpArgs false
theorem elF_mono (k : Nat) (q : List S87) (a b : S87) (s i : Nat) (x : S87) : LeO (elF k q a b s i x) (elF (k + 1) q a b s i x) :=
  LeO.bind (tones_big_times.mono _ _ _ _ _) fun _ => LeO.ite (LeO.bind (tones_big_times.mono _ _ _ _ _) fun _ => LeO.map _ (tones_big_plus.mono _ _ _ _ _)) (LeO.refl _)
theorem rowF_mono (k : Nat) (q : List S87) (a b : S87) (s : Nat) (l : List S87) : ∀ i, LeO (rowF k q a b s l i) (rowF (k + 1) q a b s l i)
  | 0 => LeO.refl _
  | i + 1 => LeO.bind (rowF_mono k q a b s l i) fun _ => LeO.map _ (elF_mono _ _ _ _ _ _ _)
theorem restL_mono (k : Nat) (q : List S87) (a : S87) : ∀ m l, LeO (restL k q a m l) (restL (k + 1) q a (m + 1) l)
  | 0, l => fun r h => by simp [restL] at h
  | m + 1, l => by
    rw [restL, restL]
    exact LeO.ite (LeO.bind (rowF_mono _ _ _ _ _ _ _) fun _ => restL_mono k q a m _) (LeO.refl _)
theorem restF_mono (k m : Nat) (p q : List S87) : LeO (restF k m p q) (restF (k + 1) (m + 1) p q) := by
  unfold restF
  exact LeO.ite (restL_mono _ _ _ _ _) (LeO.refl _)
theorem pTo_mono (k : Nat) (l : List Int) : ∀ i, LeO (pTo k l i) (pTo (k + 1) l i)
  | 0 => LeO.refl _
  | i + 1 => LeO.bind (pTo_mono k l i) fun _ => LeO.map _ (tones_whole.mono _ _)
theorem qTo_mono (k : Nat) (l : List Int) : ∀ i, LeO (qTo k l i) (qTo (k + 1) l i)
  | 0 => LeO.refl _
  | i + 1 => LeO.bind (qTo_mono k l i) fun _ => LeO.ite (LeO.map _ (tones_whole.mono _ _)) (LeO.refl _)
theorem chainL_mono (k m : Nat) : ∀ f p q out, LeO (chainL k m f p q out) (chainL (k + 1) (m + 1) (f + 1) p q out)
  | 0, p, q, out => fun r h => by simp [chainL] at h
  | f + 1, p, q, out => by
    rw [chainL, chainL]
    exact LeO.ite (LeO.bind (restF_mono _ _ _ _) fun _ => LeO.ite (chainL_mono k m f _ _ _) (LeO.refl _)) (LeO.refl _)
theorem chainF_mono (k m f : Nat) (l : List Int) : LeO (chainF k m f l) (chainF (k + 1) (m + 1) (f + 1) l) := by
  unfold chainF
  exact LeO.ite (LeO.bind (pTo_mono _ _ _) fun _ => LeO.bind (qTo_mono _ _ _) fun _ => chainL_mono _ _ _ _ _ _) (LeO.refl _)
end Go.Proofs.YtglalkenkmijkaaDoor.Hand
namespace Go.Proofs.YtglalkenkmijkaaDoor.PAll
open Go.RowKit Go.Proofs.YtglalkenkmijkaaDoorW.PrintWords Go.Proofs.YtglalkenkmijkaaDoorW.PrintLast Go.Proofs.YtglalkenkmijkaaDoorW.PrintMore
open Hand
def tones_Zeros.f (k : Nat) (l0 : List Int) (a1 a2 : Int) : Option (Int × Int) := zerosF k l0 a1 a2
theorem tones_Zeros.mono : ∀ a0 a1 a2 k, LeO (tones_Zeros.f k a0 a1 a2) (tones_Zeros.f (k + 1) a0 a1 a2) := by
  intro a0 a1 a2 k
  unfold tones_Zeros.f zerosF
  exact LeO.ite (LeO.ite (LeO.refl _) (LeO.ite (LeO.refl _) (LeO.ite (LeO.refl _) (LeO.ite (LeO.refl _) (LeO.bind (chainF_mono _ _ _ _) fun _ => LeO.bind (tones_sturm_changes.mono _ _ _) fun _ => LeO.bind (tones_sturm_changes.mono _ _ _) fun _ => LeO.refl _))))) (LeO.refl _)
theorem tones_Zeros.calls (k : Nat) (A0 : Option Addr) (c0 : Nat) (l0 : List Int) (a1 a2 r1 r2 : Int) (w : World) (hr0 : Kd.C (Kd.int .i64) w A0 l0.length l0) (hc0 : l0.length ≤ c0) (h : tones_Zeros.f k l0 a1 a2 = some (r1, r2)) :
    Calls Tryd.prog 25 #[.slice A0 l0.length c0, .int .i64 a1, .int .i64 a2] w fun e w' => e = .returned (.tuple #[.int .i64 r1, .int .i64 r2]) ∧ Below w.heap.size w w' := zeros_calls k A0 c0 l0 a1 a2 r1 r2 w hr0 hc0 h
/-- What the chapter's closed example asks of Zeros. -/
theorem zeros_ex : tones_Zeros.f 40 [-1, 0, 1] (-1) 1 = some (1, 0) := by decide +kernel
end Go.Proofs.YtglalkenkmijkaaDoor.PAll
/- slices.Equal at ints; the closure of Alike; Alike: walks. -/
namespace Go.Proofs.YtglalkenkmijkaaDoor.Hand
open Go.RowKit Go.Proofs.YtglalkenkmijkaaDoorW.PrintWords Go.Proofs.YtglalkenkmijkaaDoorW.PrintLast Go.Proofs.YtglalkenkmijkaaDoorW.PrintMore
set_option linter.unusedVariables false
set_option linter.unusedSimpArgs false

theorem ext_rd {l m : List Int} (hl : l.length = m.length) (h : ∀ j : Nat, j < l.length → rd l j = rd m j) : l = m := by
  apply List.ext_getElem hl
  intro i h1 h2
  have := h i h1
  simpa [rd, h1, h2] using this
set_option maxHeartbeats 4000000 in
set_option maxRecDepth 100000 in
theorem equal_calls (A0 : Option Addr) (c0 : Nat) (l0 : List Int) (A1 : Option Addr) (c1 : Nat) (l1 : List Int) (w : World) (h0 : Kd.C (Kd.int .i64) w A0 l0.length l0) (h1 : Kd.C (Kd.int .i64) w A1 l1.length l1) (hl : l0.length ≤ 1000) :
    Calls Tryd.prog 53 #[.slice A0 l0.length c0, .slice A1 l1.length c1] w fun e w' => e = .returned (.bool (decide (l0 = l1))) ∧ Drawn0 w w' := by
  have HC0 := Aside0.mk h0
  have HC1 := Aside0.mk h1
  clear h0 h1
  by_cases hlen : l0.length = l1.length
  · have hli : (l0.length : Int) = l1.length := by omega
    go_enter Tryd.func53, Tryd.ntmps53
    go_wp2_with fail
    go_loopg [13] l0.length (fun gk v13 W => ∃ k : Nat, k ≤ l0.length ∧ gk = l0.length - k ∧ v13 = .int .i64 k ∧ Aside0 (Drawn0 w W) ∧ Aside0 (∀ j : Nat, j < k → rd l0 j = rd l1 j))
    case atStart => exact ⟨0, by omega, rfl, rfl, ⟨Drawn0.refl _⟩, ⟨fun j hj => by omega⟩⟩
    case round =>
      obtain ⟨k, hk, rfl, rfl, HW, HI⟩ := hrel
      obtain ⟨n, rfl⟩ := HW.out.out
      clear HW
      by_cases hlt : k < l0.length
      · obtain ⟨ad, e, hel⟩ := Kd.at_int HC0.out k (by omega) (by omega)
        subst e
        obtain ⟨ad1, e, hel1⟩ := Kd.at_int HC1.out k (by omega) (by omega)
        subst e
        have hw0 : w.cell? (ad.add k) = some (.int .i64 (rd l0 k)) := by simpa using hel
        have hw1 : w.cell? (ad1.add k) = some (.int .i64 (rd l1 k)) := by simpa using hel1
        clear hel hel1
        have hk1 : (k : Int) < l1.length := by omega
        have hk0 : (k : Int) < l0.length := by omega
        have hkn : (0 : Int) ≤ k := by omega
        go_wp2_with fail
        go_quiet (fail)
        have HD := Aside0.mk ((Drawn0.refl w).step (n + nq))
        by_cases he : rd l0 k = rd l1 k
        · have hne : (rd l0 k != rd l1 k) = false := by simpa using he
          have hwk : IntKind.i64.wrap ((k : Int) + 1) = k + 1 := IntWalk.i64_in _ (by omega)
          rw [hne]
          have HE := Aside0.mk he
          clear he hne
          go_wp2_with fail
          go_roundg (l0.length - (k + 1))
          case measure => omega
          case rel => exact ⟨k + 1, by omega, rfl, by go_num, HD, ⟨fun j hj => if h : j = k then h ▸ HE.out else HI.out j (by omega)⟩⟩
        · have hne : (rd l0 k != rd l1 k) = true := by simpa using he
          rw [hne]
          have hd : decide (l0 = l1) = false := decide_eq_false (fun e => he (by rw [e]))
          clear he hne
          go_wp2_with fail
          go_ret
          exact ⟨by rw [hd]; rfl, ((Drawn0.refl w).step n).step nq⟩
      · have hke : k = l0.length := by omega
        subst hke
        have hd : decide (l0 = l1) = true := decide_eq_true (ext_rd hlen HI.out)
        have HD := Aside0.mk ((Drawn0.refl w).step n)
        go_wp2_with fail
        go_ret
        exact ⟨by rw [hd]; rfl, HD.out⟩
  · have hli : ¬ (l0.length : Int) = l1.length := by omega
    have hd : decide (l0 = l1) = false := decide_eq_false (fun e => hlen (by rw [e]))
    rw [hd]
    have d0 : ((l0.length : Int) != l1.length) = true := by simpa using hli
    go_enter Tryd.func53, Tryd.ntmps53
    go_wp2_with fail
    go_ret
    exact ⟨rfl, Drawn0.refl _⟩
end Go.Proofs.YtglalkenkmijkaaDoor.Hand
/- The closure of Alike; Alike: walks. -/
namespace Go.Proofs.YtglalkenkmijkaaDoor.Hand
open Go.RowKit Go.Proofs.YtglalkenkmijkaaDoorW.PrintWords Go.Proofs.YtglalkenkmijkaaDoorW.PrintLast Go.Proofs.YtglalkenkmijkaaDoorW.PrintMore
set_option linter.unusedVariables false
set_option linter.unusedSimpArgs false

attribute [local go_sem] field61_0 field59_0
set_option maxHeartbeats 4000000 in
set_option maxRecDepth 100000 in
theorem same_calls (k : Nat) (A0 : Option Addr) (c0 : Nat) (l0 : List Int) (A1 : Option Addr) (c1 : Nat) (l1 : List Int) (gw gr : Int → Int) (Gw Gr : FuncId) (x y : List Int) (bx by_ : Nat) (w : World) (hGw : IsFn Gw gw) (hGr : IsFn Gr gr) (hG : Glob w)
    (h0 : Kd.C (Kd.int .i64) w A0 l0.length l0) (h1 : Kd.C (Kd.int .i64) w A1 l1.length l1) (hc0 : l0.length ≤ c0) (hc1 : l1.length ≤ c1) (hf0 : isFr l0 = true) (hf1 : isFr l1 = true) (hx : ofF l0 gw gr k = some x) (hy : ofF l1 gw gr k = some y)
    (bX : w.cell? ⟨bx, 0, none⟩ = some (.slice A0 l0.length c0)) (bY : w.cell? ⟨by_, 0, none⟩ = some (.slice A1 l1.length c1)) :
    Calls Tryd.prog 52 #[.agg #[.func (.func Gw) #[] #[], .func (.func Gr) #[] #[]], .pointer (some ⟨bx, 0, none⟩), .pointer (some ⟨by_, 0, none⟩)] w fun e w' => e = .returned (.bool (decide (x = y))) ∧ Below w.heap.size w w' := by
  have HGw := Aside0.mk hGw
  have HGr := Aside0.mk hGr
  have HG := Aside0.mk hG
  have HC0 := Aside0.mk h0
  have HC1 := Aside0.mk h1
  have HF0 := Aside0.mk hf0
  have HF1 := Aside0.mk hf1
  have HX := Aside0.mk hx
  have HY := Aside0.mk hy
  have HBX := Aside0.mk bX
  have HBY := Aside0.mk bY
  clear hGw hGr hG h0 h1 hf0 hf1 hx hy
  go_enter Tryd.func52, Tryd.ntmps52
  go_wp2_with fail
  have tf := blk_new w (.cells #[.func (.func Gw) #[] #[], .func (.func Gr) #[] #[]] 57)
  have HT := Aside0.mk tf
  have hbxl : bx < w.heap.size := World.block_lt_of_cell? w ⟨bx, 0, none⟩ bX
  have hbyl : by_ < w.heap.size := World.block_lt_of_cell? w ⟨by_, 0, none⟩ bY
  have HLX := Aside0.mk hbxl
  have HLY := Aside0.mk hbyl
  have hk0 : (w.alloc (.cells #[.func (.func Gw) #[] #[], .func (.func Gr) #[] #[]] 57)).cell? ⟨bx, 0, none⟩ = some (.slice A0 l0.length c0) := (World.cell?_alloc_lt _ _ _ hbxl).trans bX
  have hk1 : (w.alloc (.cells #[.func (.func Gw) #[] #[], .func (.func Gr) #[] #[]] 57)).cell? ⟨by_, 0, none⟩ = some (.slice A1 l1.length c1) := (World.cell?_alloc_lt _ _ _ hbyl).trans bY
  have hk2 : (w.alloc (.cells #[.func (.func Gw) #[] #[], .func (.func Gr) #[] #[]] 57)).cell? ⟨w.heap.size, 0, none⟩ = some (.func (.func Gw) #[] #[]) := (blk_cell tf 0).trans rfl
  have hk3 : (w.alloc (.cells #[.func (.func Gw) #[] #[], .func (.func Gr) #[] #[]] 57)).cell? ⟨w.heap.size, 1, none⟩ = some (.func (.func Gr) #[] #[]) := (blk_cell tf 1).trans rfl
  clear tf bX bY hbxl hbyl
  go_region_held3 (fun w' => w'.cell? ⟨bx, 0, none⟩ = some (.slice A0 l0.length c0) ∧ w'.cell? ⟨by_, 0, none⟩ = some (.slice A1 l1.length c1) ∧ w'.cell? ⟨w.heap.size, 0, none⟩ = some (.func (.func Gw) #[] #[]) ∧ w'.cell? ⟨w.heap.size, 1, none⟩ = some (.func (.func Gr) #[] #[])) (first | exact ⟨hk0, hk1, hk2, hk3⟩ | go_keep)
    (first
      | (have hbq := HB2; clear hbq; go_at_call 54; refine (of_calls l1 gw gr k A1 c1 y Gw Gr _ HGw.out HGr.out (HG.out.of_below HB2.out) (Kd.C_below HC1.out HB2.out) hc1 (isFr_len HF1.out).2 (isFr_bounds HF1.out) HY.out).mono ?_; rintro e w3 ⟨v3, rfl, hR, hB⟩; obtain ⟨A3, c3, e3⟩ := Kd.R_slice hR; subst e3; have hb3 : Below w.heap.size w w3 := below_then HB2.out HB2.out.size hB; have hb13 : Below (w.heap.size + 1) _ w3 := below_then HB12.out (Nat.le_trans (by simp) HB12.out.size) hB; have HR2 := Aside0.mk (Kd.R_below HR2.out hB); have HB3 := Aside0.mk hb3; have HR3 := Aside0.mk hR; have hk0 : w3.cell? ⟨bx, 0, none⟩ = some (.slice A0 l0.length c0) := (hb3.cell HLX.out).trans HBX.out; have hk1 : w3.cell? ⟨by_, 0, none⟩ = some (.slice A1 l1.length c1) := (hb3.cell HLY.out).trans HBY.out; have tf := (hb13.block _ (Nat.lt_succ_self _)).trans HT.out; have hk2 : w3.cell? ⟨w.heap.size, 0, none⟩ = some (.func (.func Gw) #[] #[]) := (blk_cell tf 0).trans rfl; have hk3 : w3.cell? ⟨w.heap.size, 1, none⟩ = some (.func (.func Gr) #[] #[]) := (blk_cell tf 1).trans rfl; clear hR hB hb3 tf hb13)
      | (go_at_call 54; refine (of_calls l0 gw gr k A0 c0 x Gw Gr _ HGw.out HGr.out (HG.out.of_below (by with_reducible repeat (first | exact Below.refl _ _ | apply below_alloc | apply pw_below_drewN | apply below_drew1))) (Kd.C_below HC0.out (by with_reducible repeat (first | exact Below.refl _ _ | apply below_alloc | apply pw_below_drewN | apply below_drew1))) hc0 (isFr_len HF0.out).2 (isFr_bounds HF0.out) HX.out).mono ?_; rintro e w2 ⟨v2, rfl, hR, hB⟩; obtain ⟨A2, c2, e2⟩ := Kd.R_slice hR; subst e2; have hb2 : Below w.heap.size w w2 := below_then (by with_reducible repeat (first | exact Below.refl _ _ | apply below_alloc | apply pw_below_drewN | apply below_drew1)) (by simp) hB; have hb12 : Below (w.heap.size + 1) (w.alloc (.cells #[.func (.func Gw) #[] #[], .func (.func Gr) #[] #[]] 57)) w2 := below_then (by with_reducible repeat (first | exact Below.refl _ _ | apply pw_below_drewN | apply below_drew1)) (by simp) hB; have HB2 := Aside0.mk hb2; have HB12 := Aside0.mk hb12; have HR2 := Aside0.mk hR; have hk0 : w2.cell? ⟨bx, 0, none⟩ = some (.slice A0 l0.length c0) := (hb2.cell HLX.out).trans HBX.out; have hk1 : w2.cell? ⟨by_, 0, none⟩ = some (.slice A1 l1.length c1) := (hb2.cell HLY.out).trans HBY.out; have tf := (hb12.block _ (Nat.lt_succ_self _)).trans HT.out; have hk2 : w2.cell? ⟨w.heap.size, 0, none⟩ = some (.func (.func Gw) #[] #[]) := (blk_cell tf 0).trans rfl; have hk3 : w2.cell? ⟨w.heap.size, 1, none⟩ = some (.func (.func Gr) #[] #[]) := (blk_cell tf 1).trans rfl; clear hR hB hb2 tf hb12)
      | (go_at_call 53; refine (equal_calls A2 c2 x A3 c3 y w3 (Kd.R_reads' HR2.out).2.2 (Kd.R_reads' HR3.out).2.2 (by have := (isFr_len HF0.out).2; have := ofF_length HX.out; omega)).mono ?_; rintro e w4 ⟨rfl, ⟨⟨n4, rfl⟩⟩⟩)
      | (rw [field61_0]) | (rw [field59_0]))
  all_goals
    go_wp2_with fail
    go_ret
    exact ⟨rfl, by with_reducible repeat (first | exact HB3.out | apply pw_below_drewN | apply below_drew1)⟩

def alikeF (k : Nat) (a b : List Int) : Option (Bool × Bool × Int) :=
  if isFr a = true ∧ isFr b = true then (ofF a gneg gneg2 k).bind fun x => (ofF b gneg gneg2 k).bind fun y => (ofF a gneg gzero k).bind fun z => (ofF b gneg gzero k).bind fun t => some (decide (x = y), decide (z = t), 0) else some (false, false, 2)
set_option maxHeartbeats 4000000 in
set_option maxRecDepth 100000 in
theorem alike_calls (k : Nat) (A0 : Option Addr) (c0 : Nat) (l0 : List Int) (A1 : Option Addr) (c1 : Nat) (l1 : List Int) (r1 r2 : Bool) (r3 : Int) (w : World) (h0 : Kd.C (Kd.int .i64) w A0 l0.length l0) (hc0 : l0.length ≤ c0) (h1 : Kd.C (Kd.int .i64) w A1 l1.length l1) (hc1 : l1.length ≤ c1) (h : alikeF k l0 l1 = some (r1, r2, r3)) (hG : Glob w) :
    Calls Tryd.prog 18 #[.slice A0 l0.length c0, .slice A1 l1.length c1] w fun e w' => e = .returned (.tuple #[.bool r1, .bool r2, .int .i64 r3]) ∧ Below w.heap.size w w' := by
  unfold alikeF at h
  have HC0 := Aside0.mk h0
  have HC1 := Aside0.mk h1
  have HG := Aside0.mk hG
  clear h0 h1 hG
  by_cases hf : isFr l0 = true ∧ isFr l1 = true
  · rw [if_pos hf] at h
    obtain ⟨x, hx, h⟩ := Option.bind_eq_some_iff.1 h
    obtain ⟨y, hy, h⟩ := Option.bind_eq_some_iff.1 h
    obtain ⟨z, hz, h⟩ := Option.bind_eq_some_iff.1 h
    obtain ⟨t, ht, h⟩ := Option.bind_eq_some_iff.1 h
    have HE := Aside0.mk h
    have HX := Aside0.mk hx
    have HY := Aside0.mk hy
    have HZ := Aside0.mk hz
    have HT := Aside0.mk ht
    have HF0 := Aside0.mk hf.1
    have HQ0 := Aside0.mk trivial
    have HF1 := Aside0.mk hf.2
    clear h hx hy hz ht hf
    go_enter Tryd.func18, Tryd.ntmps18
    go_wp2_with (first
        | (have hq := HQ0; clear hq HQ0; go_at_call 51; refine (read_calls A0 c0 l0 _ HC0.out hc0).mono ?_; intro e w1 hh; unfold ReadP at hh; rw [HF0.out] at hh; obtain ⟨rfl, n1, rfl⟩ := hh)
        | (go_at_call 51; refine (read_calls A1 c1 l1 _ (Kd.C_below HC1.out HA.out) hc1).mono ?_; intro e w1 hh; unfold ReadP at hh; rw [HF1.out] at hh; obtain ⟨rfl, n2, rfl⟩ := hh)
        | ((with_reducible refine gate_dst (N := 7) rfl ?_); refine box_event ?hg (N := 7) ?hd (cs := #[.slice none 0 0]) (t := 52) ?hr ?_; (case hd => rfl); (case hg => rfl); (case hr => first | (go_simp; done) | (go_simp; rfl)); intro g7 hg w7 hbox hb; have hb7 : Below w.heap.size w w7 := below_then (pw_below_drewN (Below.refl _ _) _) (Nat.le_refl _) hb; have GW7 := Aside0.mk (show w.heap.size ≤ g7 by rw [hg]; exact Nat.le_refl _); have HA := Aside0.mk (hb7.setCell (p := ⟨g7, 0, none⟩) GW7.out (.slice A0 l0.length c0)); have BK7 := Aside0.mk (blk_put hbox 0 (.slice A0 l0.length c0) rfl); have z7 : w7.cell? ⟨g7, 0, none⟩ = some (.slice none 0 0) := (blk_cell hbox 0).trans rfl; have f7 := blk_frozen hbox 0; clear hb hbox hg hb7))
    have hX6 : (((w7.setCell ⟨g7, 0, none⟩ (.slice A0 l0.length c0)).drewN n2).alloc (.cells #[.slice A1 l1.length c1] 52)).heap[g7]? = some (.cells #[.slice A0 l0.length c0] 52 (0, 0)) := blk_alloc (blk_drewN BK7.out n2) _
    have hY6 : (((w7.setCell ⟨g7, 0, none⟩ (.slice A0 l0.length c0)).drewN n2).alloc (.cells #[.slice A1 l1.length c1] 52)).heap[w7.heap.size]? = some (.cells #[.slice A1 l1.length c1] 52 (0, 0)) := blk_new' _ (by simp)
    have hB6 : Below w.heap.size w (((w7.setCell ⟨g7, 0, none⟩ (.slice A0 l0.length c0)).drewN n2).alloc (.cells #[.slice A1 l1.length c1] 52)) := below_alloc (pw_below_drewN HA.out n2) _
    clear BK7 HA z7 f7
    generalize ((w7.setCell ⟨g7, 0, none⟩ (.slice A0 l0.length c0)).drewN n2).alloc (.cells #[.slice A1 l1.length c1] 52) = w6 at hX6 hY6 hB6 ⊢
    have BX6 := Aside0.mk hX6
    have BY6 := Aside0.mk hY6
    have HB6 := Aside0.mk hB6
    have hg6 := HG.out.of_below hB6
    have hk0 := hg6.sachs0
    have hk1 := hg6.sachs1
    have hk2 := hg6.matched0
    have hk3 := hg6.matched1
    clear hX6 hY6 hB6 hg6
    go_region_held3 (fun w' => w'.cell? ⟨0, 0, none⟩ = some (.func (.func 139) #[] #[]) ∧ w'.cell? ⟨0, 1, none⟩ = some (.func (.func 140) #[] #[]) ∧ w'.cell? ⟨1, 0, none⟩ = some (.func (.func 141) #[] #[]) ∧ w'.cell? ⟨1, 1, none⟩ = some (.func (.func 142) #[] #[])) (first | exact ⟨hk0, hk1, hk2, hk3⟩ | go_keep)
      (first
        | (have hbq := HBwa; clear hbq; go_at_call 52; refine (same_calls k A0 c0 l0 A1 c1 l1 gneg gzero 141 142 z t g7 w7.heap.size _ isFn141 isFn142 (HG.out.of_below HBwa.out) (Kd.C_below HC0.out HBwa.out) (Kd.C_below HC1.out HBwa.out) hc0 hc1 HF0.out HF1.out HZ.out HT.out ((blk_cell BXwa.out 0).trans rfl) ((blk_cell BYwa.out 0).trans rfl)).mono ?_; rintro e wb ⟨rfl, hB⟩; have hb : Below w.heap.size w wb := below_then HBwa.out HBwa.out.size hB; have hX : wb.heap[g7]? = _ := blk_below BXwa.out hB; have hY : wb.heap[w7.heap.size]? = _ := blk_below BYwa.out hB; have BXwb := Aside0.mk hX; have BYwb := Aside0.mk hY; have HBwb := Aside0.mk hb; have hg := HG.out.of_below hb; have hk0 := hg.sachs0; have hk1 := hg.sachs1; have hk2 := hg.matched0; have hk3 := hg.matched1; clear hB hb hX hY hg)
        | (go_at_call 52; refine (same_calls k A0 c0 l0 A1 c1 l1 gneg gneg2 139 140 x y g7 w7.heap.size _ isFn139 isFn140 (HG.out.of_below (below_drew1 HB6.out)) (Kd.C_below HC0.out (below_drew1 HB6.out)) (Kd.C_below HC1.out (below_drew1 HB6.out)) hc0 hc1 HF0.out HF1.out HX.out HY.out ((blk_cell BX6.out 0).trans rfl) ((blk_cell BY6.out 0).trans rfl)).mono ?_; rintro e wa ⟨rfl, hB⟩; have hb : Below w.heap.size w wa := below_then (below_drew1 HB6.out) (below_drew1 HB6.out).size hB; have hX : wa.heap[g7]? = _ := blk_below (blk_drew BX6.out) hB; have hY : wa.heap[w7.heap.size]? = _ := blk_below (blk_drew BY6.out) hB; have BXwa := Aside0.mk hX; have BYwa := Aside0.mk hY; have HBwa := Aside0.mk hb; have hg := HG.out.of_below hb; have hk0 := hg.sachs0; have hk1 := hg.sachs1; have hk2 := hg.matched0; have hk3 := hg.matched1; clear hB hb hX hY hg))
    all_goals
      go_wp2_with fail
      go_ret3
      have he := HE.out
      injection he with he
      injection he with e1 he
      injection he with e2 e3
      subst e1
      subst e2
      subst e3
      exact ⟨rfl, HBwb.out⟩
  · rw [if_neg hf] at h
    injection h with h
    injection h with e1 h
    injection h with e2 e3
    subst e1
    subst e2
    subst e3
    have HQ0 := Aside0.mk trivial
    cases hf0 : isFr l0 with
    | false =>
      have HF0 := Aside0.mk hf0
      clear hf0 hf
      cases hf1 : isFr l1 with
      | false =>
        have HF1 := Aside0.mk hf1
        clear hf1
        go_enter Tryd.func18, Tryd.ntmps18
        go_wp2_with (first
          | (have hq := HQ0; clear hq HQ0; go_at_call 51; refine (read_calls A0 c0 l0 _ HC0.out hc0).mono ?_; intro e w1 hh; unfold ReadP at hh; rw [HF0.out] at hh; obtain ⟨rfl, n1, rfl⟩ := hh)
          | (go_at_call 51; refine (read_calls A1 c1 l1 _ (Kd.C_below HC1.out HA.out) hc1).mono ?_; intro e w1 hh; unfold ReadP at hh; rw [HF1.out] at hh; obtain ⟨rfl, n2, rfl⟩ := hh)
          | ((with_reducible refine gate_dst (N := 7) rfl ?_); refine box_event ?hg (N := 7) ?hd (cs := #[.slice none 0 0]) (t := 52) ?hr ?_; (case hd => rfl); (case hg => rfl); (case hr => first | (go_simp; done) | (go_simp; rfl)); intro g7 hg w7 hbox hb; have hb7 : Below w.heap.size w w7 := below_then (pw_below_drewN (Below.refl _ _) _) (by simp) hb; have GW7 := Aside0.mk (show w.heap.size ≤ g7 by rw [hg]; exact Nat.le_refl _); have HA := Aside0.mk (hb7.setCell (p := ⟨g7, 0, none⟩) GW7.out (.slice none 0 0)); have z7 : w7.cell? ⟨g7, 0, none⟩ = some (.slice none 0 0) := (blk_cell hbox 0).trans rfl; have f7 := blk_frozen hbox 0; clear hb hbox hg hb7))
        go_ret3
        exact ⟨rfl, by repeat (first | (with_reducible exact HA.out) | (with_reducible apply below_alloc) | (with_reducible apply pw_below_drewN) | (with_reducible apply below_drew1))⟩
      | true =>
        have HF1 := Aside0.mk hf1
        clear hf1
        go_enter Tryd.func18, Tryd.ntmps18
        go_wp2_with (first
          | (have hq := HQ0; clear hq HQ0; go_at_call 51; refine (read_calls A0 c0 l0 _ HC0.out hc0).mono ?_; intro e w1 hh; unfold ReadP at hh; rw [HF0.out] at hh; obtain ⟨rfl, n1, rfl⟩ := hh)
          | (go_at_call 51; refine (read_calls A1 c1 l1 _ (Kd.C_below HC1.out HA.out) hc1).mono ?_; intro e w1 hh; unfold ReadP at hh; rw [HF1.out] at hh; obtain ⟨rfl, n2, rfl⟩ := hh)
          | ((with_reducible refine gate_dst (N := 7) rfl ?_); refine box_event ?hg (N := 7) ?hd (cs := #[.slice none 0 0]) (t := 52) ?hr ?_; (case hd => rfl); (case hg => rfl); (case hr => first | (go_simp; done) | (go_simp; rfl)); intro g7 hg w7 hbox hb; have hb7 : Below w.heap.size w w7 := below_then (pw_below_drewN (Below.refl _ _) _) (by simp) hb; have GW7 := Aside0.mk (show w.heap.size ≤ g7 by rw [hg]; exact Nat.le_refl _); have HA := Aside0.mk (hb7.setCell (p := ⟨g7, 0, none⟩) GW7.out (.slice none 0 0)); have z7 : w7.cell? ⟨g7, 0, none⟩ = some (.slice none 0 0) := (blk_cell hbox 0).trans rfl; have f7 := blk_frozen hbox 0; clear hb hbox hg hb7))
        go_ret3
        exact ⟨rfl, by repeat (first | (with_reducible exact HA.out) | (with_reducible apply below_alloc) | (with_reducible apply pw_below_drewN) | (with_reducible apply below_drew1))⟩
    | true =>
      have HF0 := Aside0.mk hf0
      have hf1 : isFr l1 = false := by
        cases h1 : isFr l1 with
        | false => rfl
        | true => exact absurd ⟨hf0, h1⟩ hf
      have HF1 := Aside0.mk hf1
      clear hf0 hf1 hf
      go_enter Tryd.func18, Tryd.ntmps18
      go_wp2_with (first
        | (have hq := HQ0; clear hq HQ0; go_at_call 51; refine (read_calls A0 c0 l0 _ HC0.out hc0).mono ?_; intro e w1 hh; unfold ReadP at hh; rw [HF0.out] at hh; obtain ⟨rfl, n1, rfl⟩ := hh)
        | (go_at_call 51; refine (read_calls A1 c1 l1 _ (Kd.C_below HC1.out HA.out) hc1).mono ?_; intro e w1 hh; unfold ReadP at hh; rw [HF1.out] at hh; obtain ⟨rfl, n2, rfl⟩ := hh)
        | ((with_reducible refine gate_dst (N := 7) rfl ?_); refine box_event ?hg (N := 7) ?hd (cs := #[.slice none 0 0]) (t := 52) ?hr ?_; (case hd => rfl); (case hg => rfl); (case hr => first | (go_simp; done) | (go_simp; rfl)); intro g7 hg w7 hbox hb; have hb7 : Below w.heap.size w w7 := below_then (pw_below_drewN (Below.refl _ _) _) (by simp) hb; have GW7 := Aside0.mk (show w.heap.size ≤ g7 by rw [hg]; exact Nat.le_refl _); have HA := Aside0.mk (hb7.setCell (p := ⟨g7, 0, none⟩) GW7.out (.slice A0 l0.length c0)); have z7 : w7.cell? ⟨g7, 0, none⟩ = some (.slice none 0 0) := (blk_cell hbox 0).trans rfl; have f7 := blk_frozen hbox 0; clear hb hbox hg hb7))
      go_ret3
      exact ⟨rfl, by repeat (first | (with_reducible exact HA.out) | (with_reducible apply below_alloc) | (with_reducible apply pw_below_drewN) | (with_reducible apply below_drew1))⟩
end Go.Proofs.YtglalkenkmijkaaDoor.Hand
/- The contract of Alike, in the printed form. -/
namespace Go.Proofs.YtglalkenkmijkaaDoor.PAll
open Go.RowKit Go.Proofs.YtglalkenkmijkaaDoorW.PrintWords Go.Proofs.YtglalkenkmijkaaDoorW.PrintLast Go.Proofs.YtglalkenkmijkaaDoorW.PrintMore
open Hand
set_option linter.unusedVariables false
set_option linter.unusedSimpArgs false
def tones_Alike.f (k : Nat) (l0 l1 : List Int) : Option (Bool × Bool × Int) := alikeF k l0 l1
theorem tones_Alike.mono : ∀ a0 a1 k, LeO (tones_Alike.f k a0 a1) (tones_Alike.f (k + 1) a0 a1) := by
  intro a0 a1 k
  unfold tones_Alike.f alikeF
  exact LeO.ite (LeO.bind (ofF_mono _ _ _ _) fun _ => LeO.bind (ofF_mono _ _ _ _) fun _ => LeO.bind (ofF_mono _ _ _ _) fun _ => LeO.bind (ofF_mono _ _ _ _) fun _ => LeO.refl _) (LeO.refl _)
theorem tones_Alike.calls (k : Nat) (A0 : Option Addr) (c0 : Nat) (l0 : List Int) (A1 : Option Addr) (c1 : Nat) (l1 : List Int) (r1 r2 : Bool) (r3 : Int) (w : World) (hr0 : Kd.C (Kd.int .i64) w A0 l0.length l0) (hc0 : l0.length ≤ c0) (hr1 : Kd.C (Kd.int .i64) w A1 l1.length l1) (hc1 : l1.length ≤ c1) (h : tones_Alike.f k l0 l1 = some (r1, r2, r3)) (hG : Glob w := by first | exact HG.out | exact HG.out.of_below HB.out | exact HG.out.of_below (by repeat (first | (with_reducible first | exact HB.out | exact Below.refl _ _ | apply below_alloc | apply pw_below_drewN | apply below_drew1) | exact HB.out | refine below_set ?_ (by with_reducible assumption)))) :
    Calls Tryd.prog 18 #[.slice A0 l0.length c0, .slice A1 l1.length c1] w fun e w' => e = .returned (.tuple #[.bool r1, .bool r2, .int .i64 r3]) ∧ Below w.heap.size w w' := alike_calls k A0 c0 l0 A1 c1 l1 r1 r2 r3 w hr0 hc0 hr1 hc1 h hG
end Go.Proofs.YtglalkenkmijkaaDoor.PAll
/- The closed example of the layer (alive): a walk along one path. -/
namespace Go.Proofs.YtglalkenkmijkaaDoor.Hand
open Go.RowKit Go.Proofs.YtglalkenkmijkaaDoorW.PrintWords Go.Proofs.YtglalkenkmijkaaDoorW.PrintLast Go.Proofs.YtglalkenkmijkaaDoorW.PrintMore
open PAll
set_option linter.unusedVariables false
set_option linter.unusedSimpArgs false

/-- A slice that reads as these numbers. -/
def RC (w : World) (A : Option Addr) (c n : Nat) (l : List Int) : Prop := l.length = n ∧ Kd.C (Kd.int .i64) w A l.length l ∧ l.length ≤ c
theorem RC.below {w w' : World} {A : Option Addr} {c n : Nat} {l : List Int} (h : RC w A c n l) (hb : Below w.heap.size w w') : RC w' A c n l := ⟨h.1, Kd.C_below h.2.1 hb, h.2.2⟩
theorem RC.of_R {w : World} {base : Nat} {v : Value} {l : List Int} {n : Nat} (hn : l.length = n) (h : Kd.R (Kd.int .i64) 3 w base (fun _ => True) v l) : ∃ A c, v = .slice A n c ∧ RC w A c n l := by
  obtain ⟨A, c, e, hl, hC⟩ := Kd.R_reads h
  exact ⟨A, c, by rw [e, hn], hn, hC, hl⟩
theorem RC.lit (w : World) (l : List Int) (n : Nat) (hn : l.length = n) (hm : n ≤ 1000) (cs : Array Value) (hcs : cs = (l.map (Value.int .i64)).toArray) : RC (w.alloc (.cells cs 3)) (some ⟨w.heap.size, 0, none⟩) n n l := by
  subst hcs
  subst hn
  have h : (Kd.int .i64).R 3 (w.alloc (.cells (l.map (Value.int .i64)).toArray 3)) w.heap.size (fun _ => True) (.slice (some ⟨w.heap.size, 0, none⟩) l.length l.length) l := Kd.R_of_own (own_lit_of w w.heap.size 3 l (Nat.le_refl _) (by omega)) (fun _ _ => trivial)
  exact ⟨rfl, (Kd.R_reads' h).2.2, Nat.le_refl _⟩
theorem tones_at {l l' : List Int} {n n' : Nat} (hl : l'.length = n') (h : tones_Tones.f 300 l = some (l', 0)) {A : Option Addr} {c : Nat} {w : World} (hr : RC w A c n l) (hG : Glob w) :
    Calls Tryd.prog 21 #[.slice A n c] w fun e w' => ∃ A1 c1, e = .returned (.tuple #[.slice A1 n' c1, .int .i64 0]) ∧ RC w' A1 c1 n' l' ∧ Below w.heap.size w w' := by
  obtain ⟨rfl, hC, hc⟩ := hr
  refine (tones_Tones.calls 300 A c l l' 0 w hC hc h hG).mono ?_
  rintro e w' ⟨v, rfl, hR, hB⟩
  obtain ⟨A1, c1, rfl, h1⟩ := RC.of_R hl hR
  exact ⟨A1, c1, rfl, h1, hB⟩
theorem matchings_at {l l' : List Int} {n n' : Nat} (hl : l'.length = n') (h : tones_Matchings.f 300 l = some (l', 0)) {A : Option Addr} {c : Nat} {w : World} (hr : RC w A c n l) (hG : Glob w) :
    Calls Tryd.prog 23 #[.slice A n c] w fun e w' => ∃ A1 c1, e = .returned (.tuple #[.slice A1 n' c1, .int .i64 0]) ∧ RC w' A1 c1 n' l' ∧ Below w.heap.size w w' := by
  obtain ⟨rfl, hC, hc⟩ := hr
  refine (tones_Matchings.calls 300 A c l l' 0 w hC hc h hG).mono ?_
  rintro e w' ⟨v, rfl, hR, hB⟩
  obtain ⟨A1, c1, rfl, h1⟩ := RC.of_R hl hR
  exact ⟨A1, c1, rfl, h1, hB⟩
theorem same_at {l : List Int} {n : Nat} (h : clocheref08_Same.f 100 l l = some true) {A A' : Option Addr} {c c' : Nat} {w : World} (hr : RC w A c n l) (hr' : RC w A' c' n l) :
    Calls Tryd.prog 29 #[.slice A n c, .slice A' n c'] w fun e w' => e = .returned (.bool true) ∧ Drawn0 w w' := by
  obtain ⟨rfl, hC, hc⟩ := hr
  exact clocheref08_Same.calls 100 A c l A' c' l true w hC hc hr'.2.1 hr'.2.2 h
theorem star_at (w : World) : Calls Tryd.prog 49 #[] w fun e w' => ∃ A c, e = .returned (.slice A 5 c) ∧ RC w' A c 5 [30, 1, 1, 1, 1] ∧ Below w.heap.size w w' := by
  refine (clochelaw08_star.calls _ w rfl).mono ?_
  rintro e w' ⟨v, rfl, hR, hB⟩
  obtain ⟨A1, c1, rfl, h1⟩ := RC.of_R (n := 5) rfl hR
  exact ⟨A1, c1, rfl, h1, hB⟩
theorem ring_at (w : World) : Calls Tryd.prog 50 #[] w fun e w' => ∃ A c, e = .returned (.slice A 5 c) ∧ RC w' A c 5 [10, 5, 10, 5, 0] ∧ Below w.heap.size w w' := by
  refine (clochelaw08_ring.calls _ w rfl).mono ?_
  rintro e w' ⟨v, rfl, hR, hB⟩
  obtain ⟨A1, c1, rfl, h1⟩ := RC.of_R (n := 5) rfl hR
  exact ⟨A1, c1, rfl, h1, hB⟩
theorem ex1 : tones_Tones.f 300 [6, 5, 3] = some ([-2, -3, 0, 1], 0) := by decide +kernel
theorem ex2 : tones_Matchings.f 300 [6, 5, 3] = some ([0, -3, 0, 1], 0) := by decide +kernel
theorem ex3 : tones_Tones.f 300 [30, 1, 1, 1, 1] = some ([0, 0, 0, -4, 0, 1], 0) := by decide +kernel
theorem ex4 : tones_Figures.f 300 [6, 5, 3] 3 = some (-2, 1, 0) := by decide +kernel
theorem ex5 : tones_Alike.f 300 [30, 1, 1, 1, 1] [10, 5, 10, 5, 0] = some (true, false, 0) := by decide +kernel
theorem ex6 : clocheref08_Same.f 100 [-2, -3, 0, 1] [-2, -3, 0, 1] = some true := by decide +kernel
theorem ex7 : clocheref08_Same.f 100 [0, -3, 0, 1] [0, -3, 0, 1] = some true := by decide +kernel
theorem ex8 : clocheref08_Same.f 100 [0, 0, 0, -4, 0, 1] [0, 0, 0, -4, 0, 1] = some true := by decide +kernel
theorem zeros_at {A : Option Addr} {c : Nat} {w : World} (hr : RC w A c 3 [-1, 0, 1]) : Calls Tryd.prog 25 #[.slice A 3 c, .int .i64 (-1), .int .i64 1] w fun e w' => e = .returned (.tuple #[.int .i64 1, .int .i64 0]) ∧ Below w.heap.size w w' :=
  tones_Zeros.calls 40 A c [-1, 0, 1] (-1) 1 1 0 w hr.2.1 hr.2.2 zeros_ex
theorem figures_at {A : Option Addr} {c : Nat} {w : World} (hr : RC w A c 3 [6, 5, 3]) (hG : Glob w) : Calls Tryd.prog 22 #[.slice A 3 c, .int .i64 3] w fun e w' => e = .returned (.tuple #[.int .i64 (-2), .int .i64 1, .int .i64 0]) ∧ Below w.heap.size w w' :=
  tones_Figures.calls 300 A c [6, 5, 3] 3 (-2) 1 0 w hr.2.1 hr.2.2 ex4 hG
theorem alike_at {A A' : Option Addr} {c c' : Nat} {w : World} (hr : RC w A c 5 [30, 1, 1, 1, 1]) (hr' : RC w A' c' 5 [10, 5, 10, 5, 0]) (hG : Glob w) : Calls Tryd.prog 18 #[.slice A 5 c, .slice A' 5 c'] w fun e w' => e = .returned (.tuple #[.bool true, .bool false, .int .i64 0]) ∧ Below w.heap.size w w' :=
  tones_Alike.calls 300 A c [30, 1, 1, 1, 1] A' c' [10, 5, 10, 5, 0] true false 0 w hr.2.1 hr.2.2 hr'.2.1 hr'.2.2 ex5 hG
/-- What is held at a world of alive. -/
structure AI (w W : World) : Prop where
  glob : Glob W
  below : Below w.heap.size w W
theorem AI.step {w W W' : World} (h : AI w W) (hb : Below W.heap.size W W') : AI w W' := ⟨h.glob.of_below hb, below_then h.below h.below.size hb⟩
theorem AI.alloc {w W : World} (h : AI w W) (o : Obj) : AI w (W.alloc o) := h.step (below_alloc (Below.refl _ _) o)
theorem below_al (W : World) (o : Obj) : Below W.heap.size W (W.alloc o) := below_alloc (Below.refl _ _) o

theorem sameL1 {W : World} {A : Option Addr} {c : Nat} {g : Nat} (hg : g = W.heap.size) (h : RC W A c 4 [-2, -3, 0, 1]) : Calls Tryd.prog 29 #[.slice A 4 c, .slice (some ⟨g, 0, none⟩) 4 4] (W.alloc (.cells #[.int .i64 (-2), .int .i64 (-3), .int .i64 0, .int .i64 1] 3)) fun e w' => e = .returned (.bool true) ∧ Drawn0 (W.alloc (.cells #[.int .i64 (-2), .int .i64 (-3), .int .i64 0, .int .i64 1] 3)) w' := hg ▸ same_at ex6 (h.below (below_al _ _)) (RC.lit _ [-2, -3, 0, 1] 4 rfl (by decide) _ rfl)
theorem sameL2 {W : World} {A : Option Addr} {c : Nat} {g : Nat} (hg : g = W.heap.size) (h : RC W A c 4 [0, -3, 0, 1]) : Calls Tryd.prog 29 #[.slice A 4 c, .slice (some ⟨g, 0, none⟩) 4 4] (W.alloc (.cells #[.int .i64 0, .int .i64 (-3), .int .i64 0, .int .i64 1] 3)) fun e w' => e = .returned (.bool true) ∧ Drawn0 (W.alloc (.cells #[.int .i64 0, .int .i64 (-3), .int .i64 0, .int .i64 1] 3)) w' := hg ▸ same_at ex7 (h.below (below_al _ _)) (RC.lit _ [0, -3, 0, 1] 4 rfl (by decide) _ rfl)
theorem sameL3 {W : World} {A : Option Addr} {c : Nat} {g : Nat} (hg : g = W.heap.size) (h : RC W A c 6 [0, 0, 0, -4, 0, 1]) : Calls Tryd.prog 29 #[.slice A 6 c, .slice (some ⟨g, 0, none⟩) 6 6] (W.alloc (.cells #[.int .i64 0, .int .i64 0, .int .i64 0, .int .i64 (-4), .int .i64 0, .int .i64 1] 3)) fun e w' => e = .returned (.bool true) ∧ Drawn0 (W.alloc (.cells #[.int .i64 0, .int .i64 0, .int .i64 0, .int .i64 (-4), .int .i64 0, .int .i64 1] 3)) w' := hg ▸ same_at ex8 (h.below (below_al _ _)) (RC.lit _ [0, 0, 0, -4, 0, 1] 6 rfl (by decide) _ rfl)
set_option maxHeartbeats 20000000 in
set_option maxRecDepth 100000 in
theorem alive_calls (w : World) (hG : Glob w) : Calls Tryd.prog 17 #[] w fun e w' => e = .returned (.bool true) ∧ Below w.heap.size w w' := by
  have A0 := Aside0.mk (show AI w w from ⟨hG, Below.refl _ _⟩)
  have hu := Tryd.underlying22
  clear hG
  go_enter Tryd.func17, Tryd.ntmps17
  go_upto_region 2 with (go_at_call 21; refine (tones_at rfl ex1 (RC.lit _ [6, 5, 3] 3 rfl (by decide) _ rfl) (A0.out.alloc _).glob).mono ?_; rintro e w1 ⟨T1, t1, rfl, h1, hb⟩; have H1 := Aside0.mk h1; have A1 := Aside0.mk ((A0.out.alloc _).step hb); clear h1 hb)
  go_upto_region 3 with (go_at_call 23; refine (matchings_at rfl ex2 (RC.lit _ [6, 5, 3] 3 rfl (by decide) _ rfl) (A1.out.alloc _).glob).mono ?_; rintro e w2 ⟨T2, t2, rfl, h2, hb⟩; have H2 := Aside0.mk h2; have B2 := Aside0.mk (below_then (below_al _ _) (below_al _ _).size hb); have A2 := Aside0.mk (A1.out.step B2.out); clear h2 hb)
  go_upto_region 4 with (first
    | (go_at_call 49; refine (star_at _).mono ?_; rintro e w3 ⟨S3, s3, rfl, h3, hb⟩; have G3 := Aside0.mk h3; have A3 := Aside0.mk (A2.out.step hb); have B3 := Aside0.mk hb; clear h3 hb)
    | (go_at_call 21; refine (tones_at rfl ex3 G3.out A3.out.glob).mono ?_; rintro e w4 ⟨T4, t4, rfl, h4, hb⟩; have H4 := Aside0.mk h4; have A4 := Aside0.mk (A3.out.step hb); have B4 := Aside0.mk (below_then B3.out B3.out.size hb); clear h4 hb))
  go_upto_region 5 with (go_at_call 22; refine (figures_at (RC.lit _ [6, 5, 3] 3 rfl (by decide) _ rfl) (A4.out.alloc _).glob).mono ?_; rintro e w5 ⟨rfl, hb⟩; have B5 := Aside0.mk (below_then (below_al _ _) (below_al _ _).size hb); have A5 := Aside0.mk (A4.out.step B5.out); clear hb)
  go_upto_region 6 with (go_at_call 25; refine (zeros_at (RC.lit _ [-1, 0, 1] 3 rfl (by decide) _ rfl)).mono ?_; rintro e w6 ⟨rfl, hb⟩; have B6 := Aside0.mk (below_then (below_al _ _) (below_al _ _).size hb); have A6 := Aside0.mk (A5.out.step B6.out); clear hb)
  go_upto_region 7 with (first
    | (go_at_call 49; refine (star_at _).mono ?_; rintro e w7 ⟨S7, s7, rfl, h7, hb⟩; have G7 := Aside0.mk h7; have A7 := Aside0.mk (A6.out.step hb); have B7 := Aside0.mk hb; clear h7 hb)
    | (go_at_call 50; refine (ring_at _).mono ?_; rintro e w8 ⟨S8, s8, rfl, h8, hb⟩; have G8 := Aside0.mk h8; have A8 := Aside0.mk (A7.out.step hb); have G7' := Aside0.mk (G7.out.below hb); have B8 := Aside0.mk (below_then B7.out B7.out.size hb); clear h8 hb)
    | (go_at_call 18; refine (alike_at G7'.out G8.out A8.out.glob).mono ?_; rintro e w9 ⟨rfl, hb⟩; have A9 := Aside0.mk (A8.out.step hb); have B9 := Aside0.mk (below_then B8.out B8.out.size hb); clear hb))
  have R1 := Aside0.mk (((((H1.out.below B2.out).below B4.out).below B5.out).below B6.out).below B9.out)
  have R2 := Aside0.mk ((((H2.out.below B4.out).below B5.out).below B6.out).below B9.out)
  have R4 := Aside0.mk (((H4.out.below B5.out).below B6.out).below B9.out)
  clear H1 H2 H4 G3 G7 G7' G8 A0 A1 A2 A3 A4 A5 A6 A7 A8 B2 B3 B4 B5 B6 B7 B8 B9
  go_wp2_with (first
    | (go_at_call 29; ((with_reducible refine (sameL1 (by first | rfl | simp) (R1.out.below (by repeat (first | (with_reducible exact Below.refl _ _) | apply below_alloc | apply pw_below_drewN)))).mono ?_); rintro e w10 ⟨rfl, ⟨n1, rfl⟩⟩))
    | (go_at_call 29; ((with_reducible refine (sameL2 (by first | rfl | simp) (R2.out.below (by repeat (first | (with_reducible exact Below.refl _ _) | apply below_alloc | apply pw_below_drewN)))).mono ?_); rintro e w10 ⟨rfl, ⟨n2, rfl⟩⟩))
    | (go_at_call 29; ((with_reducible refine (sameL3 (by first | rfl | simp) (R4.out.below (by repeat (first | (with_reducible exact Below.refl _ _) | apply below_alloc | apply pw_below_drewN)))).mono ?_); rintro e w10 ⟨rfl, ⟨n3, rfl⟩⟩)))
  go_ret
  exact ⟨rfl, by repeat (first | exact A9.out.below | apply below_alloc | apply pw_below_drewN)⟩
end Go.Proofs.YtglalkenkmijkaaDoor.Hand
/- The contract of alive, in the printed form. -/
namespace Go.Proofs.YtglalkenkmijkaaDoor.PAll
open Go.RowKit Go.Proofs.YtglalkenkmijkaaDoorW.PrintWords Go.Proofs.YtglalkenkmijkaaDoorW.PrintLast Go.Proofs.YtglalkenkmijkaaDoorW.PrintMore
open Hand
set_option linter.unusedVariables false
set_option linter.unusedSimpArgs false
def clochelaw08_alive.f : Option Bool := some true
theorem clochelaw08_alive.calls (r : Bool) (w : World) (h : clochelaw08_alive.f = some r) (hG : Glob w := by first | exact HG.out | exact HG.out.of_below HB.out | exact HG.out.of_below (by repeat (first | (with_reducible first | exact HB.out | exact Below.refl _ _ | apply below_alloc | apply pw_below_drewN | apply below_drew1) | exact HB.out | refine below_set ?_ (by with_reducible assumption)))) :
    Calls Tryd.prog 17 #[] w fun e w' => e = .returned (.bool r) ∧ Below w.heap.size w w' := by
  have hr : r = true := by simpa [clochelaw08_alive.f] using h.symm
  subst hr
  exact alive_calls w hG
end Go.Proofs.YtglalkenkmijkaaDoor.PAll
/- Formal sums: terms of a mask of wires, a number of knots and a weight; their values; when two of them agree. No program in sight. -/
namespace Go.Proofs.YtglalkenkmijkaaDoor.Enum
set_option linter.unusedVariables false
set_option linter.unusedSimpArgs false

/-- A mask of wires, how many knots, a weight. -/
abbrev Term := Nat × Nat × Int
/-- The sum of the weights of the terms with k knots whose mask is told. -/
def ev (φ : Nat → Bool) (k : Nat) : List Term → Int
  | [] => 0
  | t :: E => (if φ t.1 = true ∧ t.2.1 = k then t.2.2 else 0) + ev φ k E
/-- Each term times a term. -/
def mulT (e c : Nat) (g : Int) (E : List Term) : List Term := E.map fun t => (t.1 ||| e, t.2.1 + c, g * t.2.2)

/-- Masks are told wire by wire. -/
structure Mult (φ : Nat → Bool) : Prop where
  zero : φ 0 = true
  or : ∀ a b, φ (a ||| b) = (φ a && φ b)

theorem ev_nil (φ : Nat → Bool) (k : Nat) : ev φ k [] = 0 := rfl
theorem ev_append (φ : Nat → Bool) (k : Nat) : ∀ E F : List Term, ev φ k (E ++ F) = ev φ k E + ev φ k F
  | [], F => by simp [ev]
  | t :: E, F => by rw [List.cons_append, ev, ev, ev_append φ k E F]; omega
theorem ev_mul_off {φ : Nat → Bool} (hφ : Mult φ) (e c : Nat) (g : Int) (he : φ e = false) (k : Nat) : ∀ E, ev φ k (mulT e c g E) = 0
  | [] => rfl
  | t :: E => by
    have := ev_mul_off hφ e c g he k E
    unfold mulT at this ⊢
    rw [List.map_cons, ev, this]
    simp [hφ.or, he]
theorem ev_mul_low {φ : Nat → Bool} (e c : Nat) (g : Int) (k : Nat) (hk : k < c) : ∀ E, ev φ k (mulT e c g E) = 0
  | [] => rfl
  | t :: E => by
    have := ev_mul_low (φ := φ) e c g k hk E
    unfold mulT at this ⊢
    rw [List.map_cons, ev, this, if_neg (by simp; omega)]
    rfl
theorem ev_mul_on {φ : Nat → Bool} (hφ : Mult φ) (e c : Nat) (g : Int) (he : φ e = true) (k : Nat) : ∀ E, ev φ (k + c) (mulT e c g E) = g * ev φ k E
  | [] => by simp [mulT, ev]
  | t :: E => by
    have := ev_mul_on hφ e c g he k E
    unfold mulT at this ⊢
    rw [List.map_cons, ev, ev, this, Int.mul_add]
    simp only [hφ.or, he, Bool.and_true, Nat.add_right_cancel_iff]
    split <;> simp

/-! ### Two sums agree -/
def key (t : Term) : Nat × Int := (t.1 * 16 + t.2.1, t.2.2)
def evK (ψ : Nat → Int) : List (Nat × Int) → Int
  | [] => 0
  | t :: E => ψ t.1 * t.2 + evK ψ E
theorem evK_append (ψ : Nat → Int) : ∀ E F : List (Nat × Int), evK ψ (E ++ F) = evK ψ E + evK ψ F
  | [], F => by simp [evK]
  | t :: E, F => by rw [List.cons_append, evK, evK, evK_append ψ E F]; omega
def mg : Nat → List (Nat × Int) → List (Nat × Int) → List (Nat × Int)
  | 0, a, b => a ++ b
  | _ + 1, [], b => b
  | _ + 1, s :: a, [] => s :: a
  | f + 1, s :: a, t :: b => if s.1 < t.1 then s :: mg f a (t :: b) else if t.1 < s.1 then t :: mg f (s :: a) b else if s.2 + t.2 = 0 then mg f a b else (s.1, s.2 + t.2) :: mg f a b
theorem evK_mg (ψ : Nat → Int) : ∀ (f : Nat) (a b : List (Nat × Int)), evK ψ (mg f a b) = evK ψ a + evK ψ b
  | 0, a, b => evK_append ψ a b
  | _ + 1, [], b => by simp [mg, evK]
  | _ + 1, s :: a, [] => by simp [mg, evK]
  | f + 1, s :: a, t :: b => by
    unfold mg
    split
    · simp only [evK, evK_mg ψ f]; omega
    · split
      · simp only [evK, evK_mg ψ f]; omega
      · have hst : t.1 = s.1 := by omega
        split
        · next h0 =>
          simp only [evK, evK_mg ψ f, hst]
          have h1 : ψ s.1 * s.2 + ψ s.1 * t.2 = 0 := by rw [← Int.mul_add, h0, Int.mul_zero]
          omega
        · simp only [evK, evK_mg ψ f, hst, Int.mul_add]
          omega
def ms : Nat → List (Nat × Int) → List (Nat × Int)
  | 0, l => l
  | _ + 1, [] => []
  | _ + 1, [t] => [t]
  | f + 1, s :: t :: l => mg (l.length + 2) (ms f ((s :: t :: l).take ((l.length + 2) / 2))) (ms f ((s :: t :: l).drop ((l.length + 2) / 2)))
theorem evK_ms (ψ : Nat → Int) : ∀ (f : Nat) (l : List (Nat × Int)), evK ψ (ms f l) = evK ψ l
  | 0, l => rfl
  | _ + 1, [] => rfl
  | _ + 1, [t] => rfl
  | f + 1, s :: t :: l => by
    rw [ms, evK_mg, evK_ms ψ f, evK_ms ψ f, ← evK_append, List.take_append_drop]
theorem ev_key (φ : Nat → Bool) (k : Nat) (hk : k < 16) : ∀ E : List Term, (∀ t, t ∈ E → t.2.1 < 16) → ev φ k E = evK (fun x => if φ (x / 16) = true ∧ x % 16 = k then 1 else 0) (E.map key)
  | [], _ => rfl
  | t :: E, h => by
    have ht := h t List.mem_cons_self
    rw [ev, List.map_cons, evK, ev_key φ k hk E (fun u hu => h u (List.mem_cons_of_mem _ hu))]
    have e1 : (key t).1 / 16 = t.1 := by show (t.1 * 16 + t.2.1) / 16 = t.1; omega
    have e2 : (key t).1 % 16 = t.2.1 := by show (t.1 * 16 + t.2.1) % 16 = t.2.1; omega
    rw [e1, e2]
    congr 1
    split <;> simp [key]
def small (E : List Term) : Bool := E.all fun t => decide (t.2.1 < 16)
def agree (E F : List Term) : Bool := small E && small F && decide (ms 20 (E.map key) = ms 20 (F.map key))
theorem ev_agree {E F : List Term} (h : agree E F = true) (φ : Nat → Bool) (k : Nat) (hk : k < 16) : ev φ k E = ev φ k F := by
  unfold agree small at h
  simp only [Bool.and_eq_true, List.all_eq_true, decide_eq_true_eq] at h
  obtain ⟨⟨h1, h2⟩, h3⟩ := h
  rw [ev_key φ k hk E h1, ev_key φ k hk F h2, ← evK_ms _ 20, h3, evK_ms]
/-- The sum of all weights without their signs. -/
def mass : List Term → Nat
  | [] => 0
  | t :: E => t.2.2.natAbs + mass E
theorem ev_mass (φ : Nat → Bool) (k : Nat) : ∀ E, (ev φ k E).natAbs ≤ mass E
  | [] => by simp [ev, mass]
  | t :: E => by
    have := ev_mass φ k E
    rw [ev, mass]
    split <;> omega
end Go.Proofs.YtglalkenkmijkaaDoor.Enum
/- Sets below 128, wires and rings of the complete frame; the sums over all figures, as formal sums. -/
namespace Go.Proofs.YtglalkenkmijkaaDoor.Enum
set_option linter.unusedVariables false
set_option linter.unusedSimpArgs false

/-- The wire between two knots. -/
def eb (i j : Nat) : Nat := 2 ^ (min i j * 7 + max i j)
def lowest : Nat → Nat → Nat
  | 0, _ => 0
  | f + 1, s => if s % 2 = 1 then 0 else lowest f (s / 2) + 1
def popN : Nat → Nat → Nat
  | 0, _ => 0
  | f + 1, s => s % 2 + popN f (s / 2)
/-- a less b. -/
def sd (a b : Nat) : Nat := a &&& (127 ^^^ b)
def clr (s k : Nat) : Nat := sd s (2 ^ k)
/-- Rings through knot i, the others in r: the wires, the others. -/
def RP (n i r : Nat) : Nat → Nat → Nat → Nat → List (Nat × Nat)
  | 0, _, _, _ => []
  | f + 1, at_, second, met => (List.range n).flatMap fun k => if (sd r met).testBit k then
      (if met ≠ 0 ∧ second < k then [(eb k i ||| eb at_ k, met ||| 2 ^ k)] else []) ++ (RP n i r f k (if met = 0 then k else second) (met ||| 2 ^ k)).map fun p => (p.1 ||| eb at_ k, p.2)
      else []
/-- All figures on the knots of s: a wire counts cw, a ring cr. -/
def EO (cw cr : Int) (n : Nat) : Nat → Nat → List Term
  | 0, _ => []
  | f + 1, s => if s = 0 then [(0, 0, 1)] else
    EO cw cr n f (clr s (lowest 7 s)) ++ ((List.range n).flatMap fun k => if (clr s (lowest 7 s)).testBit k then mulT (eb (lowest 7 s) k) 2 cw (EO cw cr n f (clr (clr s (lowest 7 s)) k)) else [])
      ++ (RP n (lowest 7 s) (clr s (lowest 7 s)) 7 (lowest 7 s) 0 0).flatMap fun p => mulT p.1 (popN 7 p.2 + 1) cr (EO cw cr n f (sd (clr s (lowest 7 s)) p.2))

theorem testBit_lt {s k : Nat} (hs : s < 128) (h : s.testBit k = true) : k < 7 := by
  rcases Nat.lt_or_ge k 7 with h1 | h1
  · exact h1
  · rw [Nat.testBit_lt_two_pow (Nat.lt_of_lt_of_le hs (show 2 ^ 7 ≤ 2 ^ k from Nat.pow_le_pow_right (by decide) h1))] at h
    cases h
theorem testBit_127 {k : Nat} (hk : k < 7) : (127 : Nat).testBit k = true := by
  revert k; decide
theorem sd_lt {a b : Nat} (ha : a < 128) : sd a b < 128 := by
  unfold sd
  exact Nat.lt_of_le_of_lt Nat.and_le_left ha
theorem testBit_sd {a b k : Nat} (ha : a < 128) : (sd a b).testBit k = (a.testBit k && !b.testBit k) := by
  unfold sd
  rw [Nat.testBit_and, Nat.testBit_xor]
  cases h : a.testBit k with
  | false => simp
  | true => rw [testBit_127 (testBit_lt ha h)]; simp
theorem clr_lt {s k : Nat} (hs : s < 128) : clr s k < 128 := sd_lt hs
theorem sd_zero {a : Nat} (ha : a < 128) : sd a 0 = a := by
  apply Nat.eq_of_testBit_eq
  intro k
  rw [testBit_sd ha]
  simp
theorem sd_or {r met k : Nat} (hr : r < 128) : sd r (met ||| 2 ^ k) = clr (sd r met) k := by
  apply Nat.eq_of_testBit_eq
  intro t
  unfold clr
  rw [testBit_sd hr, testBit_sd (sd_lt hr), testBit_sd hr, Nat.testBit_or]
  cases r.testBit t <;> cases met.testBit t <;> simp
theorem or_lt {met k : Nat} (hm : met < 128) (hk : k < 7) : met ||| 2 ^ k < 128 :=
  Nat.or_lt_two_pow (n := 7) hm (show 2 ^ k < 2 ^ 7 from Nat.pow_lt_pow_right (by decide) hk)
theorem pop_clr : ∀ s, s < 128 → ∀ k, k < 7 → s.testBit k = true → popN 7 (clr s k) + 1 = popN 7 s := by decide +kernel
theorem low_bit : ∀ s, s < 128 → s ≠ 0 → lowest 7 s < 7 ∧ s.testBit (lowest 7 s) = true := by decide +kernel
theorem pop_zero : ∀ s, s < 128 → popN 7 s = 0 → s = 0 := by decide +kernel
theorem pop_le : ∀ s, s < 128 → popN 7 s ≤ 7 := by decide +kernel
/-- Every ring's knots are of r. -/
theorem sd_sub {r met k : Nat} (hr : r < 128) (h : (sd r met).testBit k = true) : r.testBit k = true ∧ met.testBit k = false := by
  rw [testBit_sd hr] at h
  simpa using h

/-- A frame's wires. -/
structure Wired (n : Nat) (adj : Nat → Nat → Bool) : Prop where
  sym : ∀ i j, i < n → j < n → adj i j = adj j i
/-- Which masks have all their wires in the frame. -/
def has (adj : Nat → Nat → Bool) (mask : Nat) : Bool := (List.range 7).all fun i => (List.range 7).all fun j => !mask.testBit (i * 7 + j) || adj i j
theorem has_iff {adj : Nat → Nat → Bool} {mask : Nat} : has adj mask = true ↔ ∀ i, i < 7 → ∀ j, j < 7 → mask.testBit (i * 7 + j) = true → adj i j = true := by
  unfold has
  simp only [List.all_eq_true, List.mem_range, Bool.or_eq_true, Bool.not_eq_true']
  constructor
  · intro h i hi j hj hm
    rcases h i hi j hj with h | h
    · rw [h] at hm; cases hm
    · exact h
  · intro h i hi j hj
    cases hm : mask.testBit (i * 7 + j) with
    | false => exact .inl rfl
    | true => exact .inr (h i hi j hj hm)
theorem has_mult (adj : Nat → Nat → Bool) : Mult (has adj) where
  zero := has_iff.2 (fun i _ j _ h => by simp at h)
  or := fun a b => by
    rw [Bool.eq_iff_iff, Bool.and_eq_true, has_iff, has_iff, has_iff]
    constructor
    · exact fun h => ⟨fun i hi j hj hm => h i hi j hj (by rw [Nat.testBit_or, hm]; rfl), fun i hi j hj hm => h i hi j hj (by rw [Nat.testBit_or, hm, Bool.or_true])⟩
    · intro h i hi j hj hm
      rw [Nat.testBit_or, Bool.or_eq_true] at hm
      rcases hm with hm | hm
      · exact h.1 i hi j hj hm
      · exact h.2 i hi j hj hm
theorem has_eb {n : Nat} {adj : Nat → Nat → Bool} (hA : Wired n adj) (hn : n ≤ 7) {i j : Nat} (hi : i < n) (hj : j < n) : has adj (eb i j) = adj i j := by
  have key : ∀ a b, a < n → b < n → has adj (2 ^ (a * 7 + b)) = adj a b := by
    intro a b ha hb
    rw [Bool.eq_iff_iff, has_iff]
    constructor
    · exact fun h => h a (by omega) b (by omega) Nat.testBit_two_pow_self
    · intro h i hi j hj hm
      rw [Nat.testBit_two_pow] at hm
      have hm := of_decide_eq_true hm
      have h1 : a = i := by omega
      have h2 : b = j := by omega
      rw [← h1, ← h2]
      exact h
  unfold eb
  rcases Nat.le_total i j with h | h
  · rw [Nat.min_eq_left h, Nat.max_eq_right h, key i j hi hj]
  · rw [Nat.min_eq_right h, Nat.max_eq_left h, key j i hj hi, hA.sym i j hi hj]
end Go.Proofs.YtglalkenkmijkaaDoor.Enum
/- The sums over figures that 'over' makes, number by number; the sets as numbers without a sign. -/
namespace Go.Proofs.YtglalkenkmijkaaDoor.Hand
open Go.RowKit Enum Go.Proofs.YtglalkenkmijkaaDoorW.PrintWords Go.Proofs.YtglalkenkmijkaaDoorW.PrintLast Go.Proofs.YtglalkenkmijkaaDoorW.PrintMore
set_option linter.unusedVariables false
set_option linter.unusedSimpArgs false

def cof (l : List Int) (k : Nat) : Int := l.getD k 0
theorem rd_cof (l : List Int) (k : Nat) : rd l (k : Int) = cof l k := by unfold rd cof; rw [Int.toNat_natCast]
theorem cof_big {l : List Int} {k : Nat} (h : l.length ≤ k) : cof l k = 0 := by
  unfold cof
  rw [List.getD_eq_getElem?_getD, List.getElem?_eq_none h]; rfl
theorem cof_padTo (i : Nat) (out : List Int) (k : Nat) : cof (padTo i out) k = cof out k := by
  unfold cof padTo
  rw [List.getD_eq_getElem?_getD, List.getD_eq_getElem?_getD, List.getElem?_append]
  split
  · rfl
  · rename_i h
    rw [List.getElem?_eq_none (by omega : out.length ≤ k), List.getElem?_replicate]
    split <;> rfl
theorem cof_addAt (i : Nat) (x : Int) (out : List Int) (k : Nat) : cof (addAt i x out) k = if k = i then wrap64 (cof out i + x) else cof out k := by
  have hl := padTo_length i out
  have h1 : rd (padTo i out) i = cof out i := by rw [rd_cof, cof_padTo]
  unfold addAt
  rw [h1]
  by_cases h : k = i
  · subst h
    rw [if_pos rfl]
    unfold cof
    rw [List.getD_eq_getElem?_getD, List.getElem?_set_self (by omega)]
    rfl
  · rw [if_neg h]
    unfold cof
    rw [List.getD_eq_getElem?_getD, List.getElem?_set_ne (Ne.symm h), ← List.getD_eq_getElem?_getD]
    exact cof_padTo i out k
theorem cof_moreTo (g : Int → Int) (kn : Nat) (l out : List Int) (k : Nat) : ∀ j, cof (moreTo g kn l out j) k = if kn ≤ k ∧ k - kn < j then wrap64 (cof out k + g (cof l (k - kn))) else cof out k
  | 0 => by rw [if_neg (by omega)]; rfl
  | j + 1 => by
    have hi := cof_moreTo g kn l out k j
    have hj := cof_moreTo g kn l out (j + kn) j
    rw [moreTo, cof_addAt, rd_cof]
    by_cases h : k = j + kn
    · subst h
      rw [if_pos rfl, hj, if_neg (by omega), if_pos (by omega), Nat.add_sub_cancel]
    · rw [if_neg h, hi]
      by_cases h1 : kn ≤ k ∧ k - kn < j
      · rw [if_pos h1, if_pos (by omega)]
      · rw [if_neg h1, if_neg (by omega)]
theorem moreL_length (g : Int → Int) (kn : Nat) (l out : List Int) : (moreL g kn l out).length ≤ max out.length (l.length + kn) :=
  moreTo_length_le g kn l out _ (by omega) _ (by omega)
theorem wrap_add (a b : Int) : wrap64 (wrap64 a + wrap64 b) = wrap64 (a + b) := by unfold wrap64; omega
theorem wrap_wrap (a : Int) : wrap64 (wrap64 a) = wrap64 a := by unfold wrap64; omega
theorem wrap_off {a b : Int} (h : wrap64 b = 0) : wrap64 (a + b) = wrap64 a := by unfold wrap64 at *; omega
theorem wrap_zero : wrap64 0 = 0 := by unfold wrap64; rfl
/-- What a part counts: so many times. -/
def Lin (g : Int → Int) (c : Int) : Prop := ∀ x, g (wrap64 x) = wrap64 (c * x)
theorem lin_neg : Lin gneg (-1) := fun x => by unfold gneg wrap64; omega
theorem lin_neg2 : Lin gneg2 (-2) := fun x => by unfold gneg2 wrap64; omega
theorem lin_id : Lin gid 1 := fun x => by unfold gid; rw [Int.one_mul]
theorem lin_zero : Lin gzero 0 := fun x => by unfold gzero; rw [Int.zero_mul, wrap_zero]
theorem more_ev {g : Int → Int} {c : Int} (hg : Lin g c) {kn : Nat} {l out : List Int} {e1 e2 : Nat → Int} (hl : ∀ k, cof l k = wrap64 (e1 k)) (ho : ∀ k, cof out k = wrap64 (e2 k)) (k : Nat) :
    cof (moreL g kn l out) k = wrap64 (e2 k + if kn ≤ k then c * e1 (k - kn) else 0) := by
  unfold moreL
  rw [cof_moreTo]
  by_cases h : kn ≤ k
  · rw [if_pos h]
    by_cases h1 : k - kn < l.length
    · rw [if_pos ⟨h, h1⟩, ho, hl, hg, wrap_add]
    · rw [if_neg (by omega), ho]
      have h2 : wrap64 (e1 (k - kn)) = 0 := by rw [← hl, cof_big (by omega)]
      have h3 : wrap64 (c * e1 (k - kn)) = 0 := by
        rw [← hg, h2]
        have := hg 0
        rw [wrap_zero, Int.mul_zero, wrap_zero] at this
        exact this
      rw [wrap_off h3]
  · rw [if_neg (by omega), if_neg h, ho, Int.add_zero]

/-! The sets. -/
theorem sub1_nat : ∀ s, s < 128 → ∀ k, k < 7 → sub1 ((s : Nat) : Int) ((k : Nat) : Int) = ((clr s k : Nat) : Int) := by decide +kernel
theorem ctz_nat : ∀ s, s < 128 → s ≠ 0 → ctz ((s : Nat) : Int) = ((lowest 7 s : Nat) : Int) := by decide +kernel
theorem tst_nat : ∀ s, s < 128 → ∀ k, k < 7 → tst ((s : Nat) : Int) ((k : Nat) : Int) = s.testBit k := by decide +kernel
theorem tst0_nat : ∀ s, s < 128 → ∀ k, k < 7 → (Go.bits .and .i64 (((s : Nat) : Int) / 2 ^ k) 1 = 0 ↔ s.testBit k = false) := by decide +kernel
theorem pop_nat : ∀ s, s < 128 → pop ((s : Nat) : Int) = ((popN 7 s : Nat) : Int) := by decide +kernel
theorem wrap_small (n : Int) (h0 : 0 ≤ n) (h1 : n < 2 ^ 7) : IntKind.i64.wrap n = n := by rw [IntKind.wrap_i64]; omega
theorem and_nat (a b : Nat) (ha : a < 128) (hb : b < 128) : Go.bits .and .i64 (a : Int) (b : Int) = ((a &&& b : Nat) : Int) := (bits_nat .i64 7 (by decide) wrap_small a b ha hb).1
theorem or_nat (a b : Nat) (ha : a < 128) (hb : b < 128) : Go.bits .or .i64 (a : Int) (b : Int) = ((a ||| b : Nat) : Int) := (bits_nat .i64 7 (by decide) wrap_small a b ha hb).2
theorem andNot_nat : ∀ a, a < 128 → ∀ b, b < 128 → Go.bits .andNot .i64 ((a : Nat) : Int) ((b : Nat) : Int) = ((sd a b : Nat) : Int) := by decide +kernel
theorem okS_nat {s : Nat} (h : s < 128) : okS ((s : Nat) : Int) = true := by unfold okS; exact decide_eq_true (by omega)
end Go.Proofs.YtglalkenkmijkaaDoor.Hand
/- 'over' adds up all figures: its numbers are the formal sum's. -/
namespace Go.Proofs.YtglalkenkmijkaaDoor.Hand
open Go.RowKit Enum Go.Proofs.YtglalkenkmijkaaDoorW.PrintWords Go.Proofs.YtglalkenkmijkaaDoorW.PrintLast Go.Proofs.YtglalkenkmijkaaDoorW.PrintMore
set_option linter.unusedVariables false
set_option linter.unusedSimpArgs false

def adjF (f : List Int) (i k : Nat) : Bool := (rd f (i : Int)).toNat.testBit k
structure Fr (f : List Int) (n : Nat) : Prop where
  len : f.length = n
  le : n ≤ 7
  low : ∀ i : Nat, 0 ≤ rd f i ∧ rd f i < 128
  wired : Wired n (adjF f)
theorem Fr.nat {f : List Int} {n : Nat} (h : Fr f n) (i : Nat) : ∃ a : Nat, a < 128 ∧ rd f (i : Int) = (a : Int) ∧ ∀ k, a.testBit k = adjF f i k := by
  obtain ⟨h0, h1⟩ := h.low i
  obtain ⟨a, ha⟩ := Int.eq_ofNat_of_zero_le h0
  exact ⟨a, by omega, ha, fun k => by unfold adjF; rw [ha, Int.toNat_natCast]⟩

theorem pop_or : ∀ s, s < 128 → ∀ k, k < 7 → s.testBit k = false → popN 7 (s ||| 2 ^ k) = popN 7 s + 1 := by decide +kernel
theorem or2_nat : ∀ s, s < 128 → ∀ k, k < 7 → Go.bits .or .i64 ((s : Nat) : Int) (2 ^ k) = ((s ||| 2 ^ k : Nat) : Int) := by decide +kernel
theorem ev_mul {φ : Nat → Bool} (hφ : Mult φ) (e c : Nat) (g : Int) (k : Nat) (E : List Term) : ev φ k (mulT e c g E) = if φ e = true then (if c ≤ k then g * ev φ (k - c) E else 0) else 0 := by
  by_cases he : φ e = true
  · rw [if_pos he]
    by_cases hc : c ≤ k
    · rw [if_pos hc]
      have := ev_mul_on hφ e c g he (k - c) E
      rwa [Nat.sub_add_cancel hc] at this
    · rw [if_neg hc]
      exact ev_mul_low e c g k (by omega) E
  · rw [if_neg he]
    exact ev_mul_off hφ e c g (by simpa using he) k E
theorem ev_mul_or {φ : Nat → Bool} (hφ : Mult φ) (a e c : Nat) (g : Int) (k : Nat) (E : List Term) : ev φ k (mulT (a ||| e) c g E) = if φ e = true then ev φ k (mulT a c g E) else 0 := by
  rw [ev_mul hφ, ev_mul hφ, hφ.or]
  cases φ e <;> cases φ a <;> simp

section
variable {f : List Int} {n : Nat} (hF : Fr f n) {gw gr : Int → Int} {cw cr : Int} (hw : Lin gw cw) (hr : Lin gr cr)

/-- 'over' on sets of p knots. -/
def Over (f : List Int) (n : Nat) (gw gr : Int → Int) (cw cr : Int) (p : Nat) : Prop := ∀ F, p + 1 ≤ F → ∀ s : Nat, s < 128 → (∀ k, s.testBit k = true → k < n) → popN 7 s = p → ∀ m, 100 * p + 1 ≤ m →
  ∃ out, overF f gw gr m (s : Int) = some out ∧ out.length ≤ p + 1 ∧ ∀ k, cof out k = wrap64 (ev (has (adjF f)) k (EO cw cr n F s))

/-- The rings' figures. -/
def RL (cw cr : Int) (n F r : Nat) (L : List (Nat × Nat)) : List Term := L.flatMap fun p => mulT p.1 (popN 7 p.2 + 1) cr (EO cw cr n F (sd r p.2))
theorem RL_append (F r : Nat) (L M : List (Nat × Nat)) : RL cw cr n F r (L ++ M) = RL cw cr n F r L ++ RL cw cr n F r M := by simp [RL]
theorem RL_map (F r e k : Nat) : ∀ L : List (Nat × Nat), ev (has (adjF f)) k (RL cw cr n F r (L.map fun p => (p.1 ||| e, p.2))) = if has (adjF f) e = true then ev (has (adjF f)) k (RL cw cr n F r L) else 0
  | [] => by simp [RL, ev]
  | p :: L => by
    have ih := RL_map F r e k L
    unfold RL at ih ⊢
    rw [List.map_cons, List.flatMap_cons, List.flatMap_cons, ev_append, ev_append, ih]
    dsimp only
    rw [ev_mul_or (has_mult _)]
    split <;> rfl
theorem moreO_some {g : Int → Int} {kn : Nat} {l out : List Int} (h1 : l.length ≤ 1000) (h2 : kn ≤ 1000) (h3 : out.length ≤ 1000) : moreO g (kn : Int) l out = some (moreL g kn l out) := by
  unfold moreO
  rw [if_pos ⟨h1, by omega, by omega, h3⟩, Int.toNat_natCast]

include hF hw in
theorem wires_ev {p' F : Nat} (hp : p' ≤ F) (IH : ∀ q, q < p' → Over f n gw gr cw cr q) {i r : Nat} (hi : i < n) (hr1 : r < 128) (hrn : ∀ k, r.testBit k = true → k < n) (hrp : popN 7 r = p') :
    ∀ d j, j + d = n → ∀ m, 100 * p' + d + 1 ≤ m → ∀ (out : List Int) (e : Nat → Int), out.length ≤ p' + 2 → (∀ k, cof out k = wrap64 (e k)) →
      ∃ out', wiresF f gw gr m (i : Int) (r : Int) j out = some out' ∧ out'.length ≤ p' + 2 ∧ ∀ k, cof out' k = wrap64 (e k + ev (has (adjF f)) k ((List.range' j d).flatMap fun k => if r.testBit k then mulT (eb i k) 2 cw (EO cw cr n F (clr r k)) else []))
  | 0, j, hj, m, hm, out, e, hl, he => by
    obtain ⟨m, rfl⟩ : ∃ q, m = q + 1 := ⟨m - 1, by omega⟩
    refine ⟨out, ?_, hl, fun k => by rw [he]; simp [ev]⟩
    rw [wiresF, if_neg (by rw [hF.len]; omega)]
  | d + 1, j, hj, m, hm, out, e, hl, he => by
    obtain ⟨m, rfl⟩ : ∃ q, m = q + 1 := ⟨m - 1, by omega⟩
    obtain ⟨a, ha, hra, hab⟩ := hF.nat i
    have hn := hF.le
    have hp7 := pop_le r hr1
    have hand : Go.bits .and .i64 (rd f (i : Int)) (r : Int) = ((a &&& r : Nat) : Int) := by rw [hra]; exact and_nat a r ha hr1
    have htst : tst (Go.bits .and .i64 (rd f (i : Int)) (r : Int)) ((j : Nat) : Int) = (adjF f i j && r.testBit j) := by
      rw [hand, tst_nat _ (Nat.lt_of_le_of_lt Nat.and_le_left ha) j (by omega), Nat.testBit_and, hab]
    rw [wiresF, if_pos (by rw [hF.len]; omega), htst]
    by_cases ht : (adjF f i j && r.testBit j) = true
    · rw [if_pos ht]
      rw [Bool.and_eq_true] at ht
      have hsub := sub1_nat r hr1 j (by omega)
      rw [hsub, if_pos (okS_nat (clr_lt hr1))]
      have hpc := pop_clr r hr1 j (by omega) ht.2
      obtain ⟨l, hlo, hll, hle⟩ := IH (p' - 1) (by omega) F (by omega) (clr r j) (clr_lt hr1) (fun k hk => hrn k (sd_sub hr1 hk).1) (by omega) m (by omega)
      rw [hlo, Option.bind_some, show (2 : Int) = ((2 : Nat) : Int) from rfl, moreO_some (by omega) (by omega) (by omega), Option.bind_some]
      have hml := moreL_length gw 2 l out
      obtain ⟨out', h1, h2, h3⟩ := wires_ev hp IH hi hr1 hrn hrp d (j + 1) (by omega) m (by omega) (moreL gw 2 l out) _ (by omega) (more_ev hw hle he)
      refine ⟨out', h1, h2, fun k => ?_⟩
      rw [h3, List.range'_succ, List.flatMap_cons, ev_append, if_pos ht.2, ev_mul (has_mult _), has_eb hF.wired hF.le hi (by omega), if_pos ht.1, Int.add_assoc]
    · rw [if_neg ht]
      obtain ⟨out', h1, h2, h3⟩ := wires_ev hp IH hi hr1 hrn hrp d (j + 1) (by omega) m (by omega) out e hl he
      refine ⟨out', h1, h2, fun k => ?_⟩
      rw [h3, List.range'_succ, List.flatMap_cons, ev_append]
      have hz : ev (has (adjF f)) k (if r.testBit j = true then mulT (eb i j) 2 cw (EO cw cr n F (clr r j)) else []) = 0 := by
        by_cases hb : r.testBit j = true
        · rw [if_pos hb, ev_mul (has_mult _), has_eb hF.wired hF.le hi (by omega), if_neg (fun h => ht (by rw [h, hb]; rfl))]
        · rw [if_neg hb]; rfl
      rw [hz, Int.zero_add]

/-- One knot's part of the rings' list. -/
def RK (n i r G at_ second met k : Nat) : List (Nat × Nat) := if (sd r met).testBit k then
  (if met ≠ 0 ∧ second < k then [(eb k i ||| eb at_ k, met ||| 2 ^ k)] else []) ++ (RP n i r G k (if met = 0 then k else second) (met ||| 2 ^ k)).map fun p => (p.1 ||| eb at_ k, p.2)
  else []
theorem RP_succ (n i r G at_ second met : Nat) : RP n i r (G + 1) at_ second met = (List.range n).flatMap (RK n i r G at_ second met) := rfl
theorem RL_flat (F r : Nat) (g : Nat → List (Nat × Nat)) (L : List Nat) : RL cw cr n F r (L.flatMap g) = L.flatMap fun k => RL cw cr n F r (g k) := by
  unfold RL; rw [List.flatMap_assoc]
/-- What 'on' adds, at q knots that are left. -/
def On (f : List Int) (n : Nat) (gw gr : Int → Int) (cw cr : Int) (p' F i r : Nat) (q : Nat) : Prop := ∀ (at_ second met : Nat), at_ < n → met < 128 → popN 7 (sd r met) = q → q + popN 7 met ≤ p' → ∀ G, q + 1 ≤ G → ∀ m, 100 * p' + 10 * q + 9 ≤ m → ∀ (out : List Int) (e : Nat → Int), out.length ≤ p' + 2 → (∀ k, cof out k = wrap64 (e k)) →
  ∃ out', onF f gw gr m (i : Int) (r : Int) (at_ : Int) (second : Int) (met : Int) out = some out' ∧ out'.length ≤ p' + 2 ∧ ∀ k, cof out' k = wrap64 (e k + ev (has (adjF f)) k (RL cw cr n F r (RP n i r G at_ second met)))
include hF hr in
theorem onL_ev {p' F : Nat} (hp : p' ≤ F) (IH : ∀ q, q < p' → Over f n gw gr cw cr q) {i r : Nat} (hi : i < n) (hr1 : r < 128) (hrn : ∀ k, r.testBit k = true → k < n) (hrp : popN 7 r = p') {q : Nat} (IQ : ∀ q', q' + 1 = q → On f n gw gr cw cr p' F i r q')
    {at_ second met G : Nat} (hat : at_ < n) (hmet : met < 128) (hq : popN 7 (sd r met) = q) (hqm : q + popN 7 met ≤ p') (hG : q ≤ G) :
    ∀ d k, k + d = n → ∀ m, 100 * p' + 10 * q + d + 1 ≤ m → ∀ (out : List Int) (e : Nat → Int), out.length ≤ p' + 2 → (∀ k, cof out k = wrap64 (e k)) →
      ∃ out', onL f gw gr m (i : Int) (r : Int) (at_ : Int) (second : Int) (met : Int) k out = some out' ∧ out'.length ≤ p' + 2 ∧ ∀ x, cof out' x = wrap64 (e x + ev (has (adjF f)) x (RL cw cr n F r ((List.range' k d).flatMap (RK n i r G at_ second met))))
  | 0, k, hk, m, hm, out, e, hl, he => by
    obtain ⟨m, rfl⟩ : ∃ q, m = q + 1 := ⟨m - 1, by omega⟩
    refine ⟨out, ?_, hl, fun x => by rw [he]; simp [RL, ev]⟩
    rw [onL, if_neg (by rw [hF.len]; omega)]
  | d + 1, k, hk, m, hm, out, e, hl, he => by
    obtain ⟨m, rfl⟩ : ∃ q, m = q + 1 := ⟨m - 1, by omega⟩
    obtain ⟨a, ha, hra, hab⟩ := hF.nat at_
    obtain ⟨b, hb, hrb, hbb⟩ := hF.nat k
    have hn := hF.le
    have hp7 := pop_le r hr1
    have hand : Go.bits .andNot .i64 (Go.bits .and .i64 (rd f (at_ : Int)) (r : Int)) (met : Int) = ((sd (a &&& r) met : Nat) : Int) := by
      rw [hra, and_nat a r ha hr1]
      exact andNot_nat _ (Nat.lt_of_le_of_lt Nat.and_le_left ha) met hmet
    have har : a &&& r < 128 := Nat.lt_of_le_of_lt Nat.and_le_left ha
    have hbit : (sd (a &&& r) met).testBit k = (adjF f at_ k && (sd r met).testBit k) := by
      rw [testBit_sd har, testBit_sd hr1, Nat.testBit_and, hab, Bool.and_assoc]
    have hcond := tst0_nat (sd (a &&& r) met) (sd_lt har) k (by omega)
    rw [onL, if_pos (by rw [hF.len]; omega), hand]
    have hev : ∀ x, ev (has (adjF f)) x (RL cw cr n F r ((List.range' k (d + 1)).flatMap (RK n i r G at_ second met))) = ev (has (adjF f)) x (RL cw cr n F r (RK n i r G at_ second met k)) + ev (has (adjF f)) x (RL cw cr n F r ((List.range' (k + 1) d).flatMap (RK n i r G at_ second met))) := fun x => by
      rw [List.range'_succ, List.flatMap_cons, RL_append, ev_append]
    by_cases hc : (sd (a &&& r) met).testBit k = false
    · rw [if_pos (hcond.2 hc)]
      obtain ⟨out', h1, h2, h3⟩ := onL_ev hp IH hi hr1 hrn hrp IQ hat hmet hq hqm hG d (k + 1) (by omega) m (by omega) out e hl he
      refine ⟨out', h1, h2, fun x => ?_⟩
      have hz : ev (has (adjF f)) x (RL cw cr n F r (RK n i r G at_ second met k)) = 0 := by
        unfold RK
        by_cases hs : (sd r met).testBit k = true
        · have hadj : has (adjF f) (eb at_ k) = false := by
            rw [has_eb hF.wired hF.le hat (by omega)]
            rw [hbit, hs, Bool.and_true] at hc
            exact hc
          rw [if_pos hs, RL_append, ev_append, RL_map, hadj]
          simp only [Bool.false_eq_true, if_false, Int.add_zero]
          split
          · show ev (has (adjF f)) x (mulT (eb k i ||| eb at_ k) _ cr _ ++ []) = 0
            rw [List.append_nil, ev_mul_or (has_mult _), hadj, if_neg (by decide)]
          · rfl
        · rw [if_neg hs]; rfl
      rw [h3, hev, hz, Int.zero_add]
    · rw [if_neg (fun h => hc (hcond.1 h))]
      have hc2 : (adjF f at_ k && (sd r met).testBit k) = true := by rw [← hbit]; simpa using hc
      rw [Bool.and_eq_true] at hc2
      obtain ⟨hadj0, hsd⟩ := hc2
      have hadj : has (adjF f) (eb at_ k) = true := by rw [has_eb hF.wired hF.le hat (by omega)]; exact hadj0
      obtain ⟨hrk, hmk⟩ := sd_sub hr1 hsd
      have hpc := pop_clr (sd r met) (sd_lt hr1) k (by omega) hsd
      have hpo := pop_or met hmet k (by omega) hmk
      have hol : met ||| 2 ^ k < 128 := or_lt hmet (by omega)
      have hor := or2_nat met hmet k (by omega)
      have hsub : sub1 (Go.bits .andNot .i64 (r : Int) (met : Int)) (k : Int) = ((sd r (met ||| 2 ^ k) : Nat) : Int) := by
        rw [andNot_nat r hr1 met hmet, sub1_nat _ (sd_lt hr1) k (by omega), sd_or hr1]
      have hpop : popN 7 (sd r (met ||| 2 ^ k)) = q - 1 := by rw [sd_or hr1]; omega
      have htst : tst (rd f (k : Int)) (i : Int) = adjF f k i := by rw [hrb, tst_nat b hb i (by omega), hbb]
      -- the ring that closes here
      have hclose : ∃ out1, (if 0 < (met : Int) ∧ (second : Int) < (k : Int) ∧ tst (rd f (k : Int)) (i : Int) = true then
          if okS (sub1 (Go.bits .andNot .i64 (r : Int) (met : Int)) k) = true then (overF f gw gr m (sub1 (Go.bits .andNot .i64 (r : Int) (met : Int)) k)).bind fun l => moreO gr (pop (met : Int) + 2) l out else none
          else some out) = some out1 ∧ out1.length ≤ p' + 2 ∧ ∀ x, cof out1 x = wrap64 (e x + ev (has (adjF f)) x (RL cw cr n F r (if met ≠ 0 ∧ second < k then [(eb k i ||| eb at_ k, met ||| 2 ^ k)] else []))) := by
        by_cases h1 : met ≠ 0 ∧ second < k
        · by_cases h2 : adjF f k i = true
          · rw [if_pos ⟨by omega, by omega, by rw [htst]; exact h2⟩, hsub, if_pos (okS_nat (sd_lt hr1)), if_pos h1]
            obtain ⟨l, hlo, hll, hle⟩ := IH (q - 1) (by omega) F (by omega) _ (sd_lt hr1) (fun t ht => hrn t (sd_sub hr1 ht).1) hpop m (by omega)
            have hpm := pop_le _ hmet
            rw [hlo, Option.bind_some, pop_nat met hmet, show ((popN 7 met : Nat) : Int) + 2 = ((popN 7 met + 2 : Nat) : Int) by omega, moreO_some (by omega) (by omega) (by omega)]
            have hml := moreL_length gr (popN 7 met + 2) l out
            refine ⟨_, rfl, by omega, fun x => ?_⟩
            rw [more_ev hr hle he]
            show _ = wrap64 (e x + ev (has (adjF f)) x (mulT (eb k i ||| eb at_ k) _ cr _ ++ []))
            rw [List.append_nil, ev_mul_or (has_mult _), if_pos hadj, ev_mul (has_mult _), has_eb hF.wired hF.le (by omega) hi, if_pos h2, hpo]
          · rw [if_neg (fun h => h2 (by rw [← htst]; exact h.2.2)), if_pos h1]
            refine ⟨out, rfl, hl, fun x => ?_⟩
            show _ = wrap64 (e x + ev (has (adjF f)) x (mulT (eb k i ||| eb at_ k) _ cr _ ++ []))
            rw [List.append_nil, ev_mul_or (has_mult _), if_pos hadj, ev_mul (has_mult _), has_eb hF.wired hF.le (by omega) hi, if_neg h2, Int.add_zero, he]
        · rw [if_neg (fun h => h1 ⟨by omega, by omega⟩), if_neg h1]
          exact ⟨out, rfl, hl, fun x => by rw [he]; simp [RL, ev]⟩
      obtain ⟨out1, ho1, hl1, he1⟩ := hclose
      rw [ho1, Option.bind_some, hor]
      have hsec : (if (met : Int) = 0 then ((k : Nat) : Int) else (second : Int)) = ((if met = 0 then k else second : Nat) : Int) := by
        by_cases h : met = 0
        · rw [if_pos (by omega), if_pos h]
        · rw [if_neg (by omega), if_neg h]
      rw [hsec]
      obtain ⟨out2, ho2, hl2, he2⟩ := IQ (q - 1) (by omega) k (if met = 0 then k else second) (met ||| 2 ^ k) (by omega) hol hpop (by omega) G (by omega) m (by omega) out1 _ hl1 he1
      rw [ho2, Option.bind_some]
      obtain ⟨out', h1, h2, h3⟩ := onL_ev hp IH hi hr1 hrn hrp IQ hat hmet hq hqm hG d (k + 1) (by omega) m (by omega) out2 _ hl2 he2
      refine ⟨out', h1, h2, fun x => ?_⟩
      rw [h3, hev]
      have : ev (has (adjF f)) x (RL cw cr n F r (RK n i r G at_ second met k)) = ev (has (adjF f)) x (RL cw cr n F r (if met ≠ 0 ∧ second < k then [(eb k i ||| eb at_ k, met ||| 2 ^ k)] else [])) + ev (has (adjF f)) x (RL cw cr n F r (RP n i r G k (if met = 0 then k else second) (met ||| 2 ^ k))) := by
        unfold RK
        rw [if_pos hsd, RL_append, ev_append, RL_map, if_pos hadj]
      rw [this]
      congr 1
      omega
include hF hr in
theorem on_ev {p' F : Nat} (hp : p' ≤ F) (IH : ∀ q, q < p' → Over f n gw gr cw cr q) {i r : Nat} (hi : i < n) (hr1 : r < 128) (hrn : ∀ k, r.testBit k = true → k < n) (hrp : popN 7 r = p') : ∀ q, On f n gw gr cw cr p' F i r q := by
  intro q
  induction q with
  | zero =>
    intro at_ second met hat hmet hq hqm G hG m hm out e hl he
    obtain ⟨m, rfl⟩ : ∃ q, m = q + 1 := ⟨m - 1, by omega⟩
    obtain ⟨G, rfl⟩ : ∃ q, G = q + 1 := ⟨G - 1, by omega⟩
    have hn := hF.le
    rw [onF, if_pos ⟨by omega, by rw [hF.len]; omega, okS_nat hmet⟩]
    obtain ⟨out', h1, h2, h3⟩ := onL_ev hF hr hp IH hi hr1 hrn hrp (q := 0) (fun q' h => by omega) (second := second) (G := G) hat hmet hq hqm (by omega) n 0 (by omega) m (by omega) out e hl he
    exact ⟨out', h1, h2, fun x => by rw [h3, RP_succ, List.range_eq_range']⟩
  | succ q ih =>
    intro at_ second met hat hmet hq hqm G hG m hm out e hl he
    obtain ⟨m, rfl⟩ : ∃ q, m = q + 1 := ⟨m - 1, by omega⟩
    obtain ⟨G, rfl⟩ : ∃ q, G = q + 1 := ⟨G - 1, by omega⟩
    have hn := hF.le
    rw [onF, if_pos ⟨by omega, by rw [hF.len]; omega, okS_nat hmet⟩]
    obtain ⟨out', h1, h2, h3⟩ := onL_ev hF hr hp IH hi hr1 hrn hrp (q := q + 1) (fun q' h => by have : q' = q := by omega
                                                                                                rw [this]; exact ih) (second := second) (G := G) hat hmet hq hqm (by omega) n 0 (by omega) m (by omega) out e hl he
    exact ⟨out', h1, h2, fun x => by rw [h3, RP_succ, List.range_eq_range']⟩
include hF hw hr in
theorem over_ev : ∀ p, Over f n gw gr cw cr p := by
  intro p
  induction p using Nat.strongRecOn with
  | _ p IH =>
    intro F hFp s hs hsn hsp m hm
    obtain ⟨m, rfl⟩ : ∃ q, m = q + 1 := ⟨m - 1, by omega⟩
    obtain ⟨F, rfl⟩ : ∃ q, F = q + 1 := ⟨F - 1, by omega⟩
    have hn := hF.le
    by_cases h0 : s = 0
    · subst h0
      refine ⟨[1], by rw [overF, if_pos (show ((0 : Nat) : Int) = 0 from rfl)], by simp, fun k => ?_⟩
      rw [EO, if_pos rfl]
      have hz := (has_mult (adjF f)).zero
      rcases k with _ | k
      · simp [cof, ev, hz, wrap64]
      · simp [cof, ev, hz, wrap64]
    · obtain ⟨hi7, hbit⟩ := low_bit s hs h0
      have hi := hsn _ hbit
      have hpc := pop_clr s hs _ hi7 hbit
      have hr1 : clr s (lowest 7 s) < 128 := clr_lt hs
      have hrn : ∀ k, (clr s (lowest 7 s)).testBit k = true → k < n := fun k hk => hsn k (sd_sub hs hk).1
      have hp7 := pop_le s hs
      have hsub : sub1 ((s : Nat) : Int) ((lowest 7 s : Nat) : Int) = ((clr s (lowest 7 s) : Nat) : Int) := sub1_nat s hs _ hi7
      rw [overF, if_neg (by omega), ctz_nat s hs h0, hsub, if_pos ⟨okS_nat hs, by rw [hF.len]; omega, okS_nat hr1⟩]
      obtain ⟨o1, h1, hl1, he1⟩ := IH (p - 1) (by omega) F (by omega) _ hr1 hrn (by omega) m (by omega)
      obtain ⟨o2, h2, hl2, he2⟩ := wires_ev hF hw (p' := p - 1) (F := F) (by omega) (fun q hq => IH q (by omega)) hi hr1 hrn (by omega) n 0 (by omega) m (by omega) o1 _ (by omega) (he1)
      obtain ⟨o3, h3, hl3, he3⟩ := on_ev hF hr (p' := p - 1) (F := F) (by omega) (fun q hq => IH q (by omega)) hi hr1 hrn (by omega) (p - 1) (lowest 7 s) 0 0 hi (by omega) (by rw [sd_zero hr1]; omega) (by show p - 1 + 0 ≤ p - 1; omega) 7 (by omega) m (by omega) o2 _ (by omega) he2
      refine ⟨o3, ?_, by omega, fun k => ?_⟩
      · rw [h1, Option.bind_some, h2, Option.bind_some]
        exact h3
      · rw [he3, EO, if_neg h0, ev_append, ev_append, List.range_eq_range']
        rfl
end
end Go.Proofs.YtglalkenkmijkaaDoor.Hand
/- The polynomials of a frame: their numbers are the formal sums'. -/
namespace Go.Proofs.YtglalkenkmijkaaDoor.Enum
theorem ev_EO_zero {φ : Nat → Bool} (hφ : Mult φ) (cw cr : Int) (n : Nat) : ∀ p F s, s < 128 → popN 7 s = p → p + 1 ≤ F → ev φ 0 (EO cw cr n F s) = 1 := by
  intro p
  induction p with
  | zero =>
    intro F s hs hp hF
    obtain ⟨F, rfl⟩ : ∃ q, F = q + 1 := ⟨F - 1, by omega⟩
    have := pop_zero s hs hp
    subst this
    rw [EO, if_pos rfl]
    simp [ev, hφ.zero]
  | succ p ih =>
    intro F s hs hp hF
    obtain ⟨F, rfl⟩ : ∃ q, F = q + 1 := ⟨F - 1, by omega⟩
    have h0 : s ≠ 0 := fun h => by
      rw [h] at hp
      exact absurd hp (by show ¬ (0 = p + 1); omega)
    obtain ⟨hi7, hbit⟩ := low_bit s hs h0
    have hpc := pop_clr s hs _ hi7 hbit
    have hz : ∀ {α : Type} (L : List α) (g : α → List Term), (∀ a, ev φ 0 (g a) = 0) → ev φ 0 (L.flatMap g) = 0 := fun L g hg => by
      induction L with
      | nil => rfl
      | cons a L ih => rw [List.flatMap_cons, ev_append, hg, ih]; rfl
    rw [EO, if_neg h0, ev_append, ev_append, ih F _ (clr_lt hs) (by omega) (by omega), hz, hz]
    · rfl
    · exact fun a => ev_mul_low _ _ _ _ (by omega) _
    · intro a
      split
      · exact ev_mul_low _ _ _ _ (by omega) _
      · rfl
/-- Masks and numbers of knots alone. -/
def pr (E : List Term) : List (Nat × Nat) := E.map fun t => (t.1, t.2.1)
theorem pr_mul (e c : Nat) (g : Int) (E : List Term) : pr (mulT e c g E) = (pr E).map fun t => (t.1 ||| e, t.2 + c) := by
  simp [pr, mulT]
theorem pr_EO (cw cr cw' cr' : Int) (n : Nat) : ∀ F s, pr (EO cw cr n F s) = pr (EO cw' cr' n F s)
  | 0, _ => rfl
  | F + 1, s => by
    rw [EO, EO]
    by_cases h : s = 0
    · rw [if_pos h, if_pos h]
    · rw [if_neg h, if_neg h]
      have hfl : ∀ {α : Type} (L : List α) (g g' : α → List Term), (∀ a, pr (g a) = pr (g' a)) → pr (L.flatMap g) = pr (L.flatMap g') := fun L g g' hg => by
        unfold pr at hg ⊢
        rw [List.map_flatMap, List.map_flatMap]
        congr 1
        funext a
        exact hg a
      have happ : ∀ A B : List Term, pr (A ++ B) = pr A ++ pr B := fun A B => by simp [pr]
      rw [happ, happ, happ, happ, pr_EO cw cr cw' cr' n F]
      congr 1
      · congr 1
        apply hfl
        intro k
        split
        · rw [pr_mul, pr_mul, pr_EO cw cr cw' cr' n F]
        · rfl
      · apply hfl
        intro p
        rw [pr_mul, pr_mul, pr_EO cw cr cw' cr' n F]
theorem EO_ones (n : Nat) : ∀ F s, ∀ t, t ∈ EO 1 1 n F s → t.2.2 = 1
  | 0, _, t, ht => by simp [EO] at ht
  | F + 1, s, t, ht => by
    have hm : ∀ {e c : Nat} {E : List Term}, (∀ t, t ∈ E → t.2.2 = 1) → ∀ t, t ∈ mulT e c 1 E → t.2.2 = 1 := fun hE t ht => by
      obtain ⟨u, hu, rfl⟩ := List.mem_map.1 ht
      simp [hE u hu]
    rw [EO] at ht
    split at ht
    · simp at ht
      rw [ht]
    · rw [List.mem_append, List.mem_append] at ht
      rcases ht with (ht | ht) | ht
      · exact EO_ones n F _ t ht
      · obtain ⟨k, _, hk⟩ := List.mem_flatMap.1 ht
        split at hk
        · exact hm (EO_ones n F _) t hk
        · simp at hk
      · obtain ⟨k, _, hk⟩ := List.mem_flatMap.1 ht
        exact hm (EO_ones n F _) t hk
theorem ev_none {φ : Nat → Bool} {k : Nat} : ∀ {E : List Term}, (∀ q, q ∈ pr E → ¬ (φ q.1 = true ∧ q.2 = k)) → ev φ k E = 0
  | [], _ => rfl
  | t :: E, h => by
    rw [ev, if_neg (h (t.1, t.2.1) (by simp [pr])), ev_none (E := E) (fun q hq => h q (by simp [pr] at hq ⊢; exact .inr hq))]
    rfl
theorem ev_ones {φ : Nat → Bool} {k : Nat} : ∀ {E : List Term}, (∀ t, t ∈ E → t.2.2 = 1) → 0 ≤ ev φ k E ∧ (ev φ k E = 0 → ∀ q, q ∈ pr E → ¬ (φ q.1 = true ∧ q.2 = k))
  | [], _ => ⟨Int.le_refl _, fun _ q hq => by simp [pr] at hq⟩
  | t :: E, h => by
    obtain ⟨h1, h2⟩ := ev_ones (φ := φ) (k := k) (E := E) (fun u hu => h u (List.mem_cons_of_mem _ hu))
    have ht := h t List.mem_cons_self
    rw [ev, ht]
    by_cases hc : φ t.1 = true ∧ t.2.1 = k
    · rw [if_pos hc]
      exact ⟨by omega, fun he => by omega⟩
    · rw [if_neg hc]
      refine ⟨by omega, fun he q hq => ?_⟩
      simp only [pr, List.map_cons, List.mem_cons] at hq
      rcases hq with hq | hq
      · rw [hq]; exact hc
      · exact h2 (by omega) q hq
/-- A count of figures is not below 0; where there is none, every sum over them is 0. -/
theorem ev_counts (φ : Nat → Bool) (k : Nat) (cw cr : Int) (n F s : Nat) : 0 ≤ ev φ k (EO 1 1 n F s) ∧ (ev φ k (EO 1 1 n F s) = 0 → ev φ k (EO cw cr n F s) = 0) := by
  obtain ⟨h1, h2⟩ := ev_ones (φ := φ) (k := k) (EO_ones n F s)
  exact ⟨h1, fun h => ev_none (by rw [pr_EO cw cr 1 1]; exact h2 h)⟩
end Go.Proofs.YtglalkenkmijkaaDoor.Enum
namespace Go.Proofs.YtglalkenkmijkaaDoor.Hand
open Go.RowKit Enum Go.Proofs.YtglalkenkmijkaaDoorW.PrintWords Go.Proofs.YtglalkenkmijkaaDoorW.PrintLast Go.Proofs.YtglalkenkmijkaaDoorW.PrintMore
set_option linter.unusedVariables false
set_option linter.unusedSimpArgs false
theorem isFr_Fr {l : List Int} (h : isFr l = true) : Fr l l.length := by
  have hl := isFr_len h
  have hb := isFr_bounds h
  refine ⟨rfl, hl.2, fun i => hb i, ⟨fun i j hi hj => ?_⟩⟩
  unfold isFr at h
  simp only [Bool.and_eq_true, List.all_eq_true, List.mem_range] at h
  have hs := (h.2 i hi).2 j hj
  unfold symOk tstN at hs
  have hs := eq_of_beq hs
  obtain ⟨a, ha⟩ := Int.eq_ofNat_of_zero_le (hb i).1
  obtain ⟨b, hb'⟩ := Int.eq_ofNat_of_zero_le (hb j).1
  have h1 := (hb i).2
  have h2 := (hb j).2
  unfold adjF
  rw [ha, hb', Int.toNat_natCast, Int.toNat_natCast]
  rw [ha, hb'] at hs
  have e1 := tst0_nat a (by omega) j (by omega)
  have e2 := tst0_nat b (by omega) i (by omega)
  cases hx : a.testBit j with
  | false =>
    cases hy : b.testBit i with
    | false => rfl
    | true =>
      rw [hs] at e1
      rw [e2.1 (e1.2 hx)] at hy
      exact hy
  | true =>
    cases hy : b.testBit i with
    | true => rfl
    | false =>
      rw [hs] at e1
      rw [e1.1 (e2.2 hy)] at hx
      exact hx.symm
theorem top_nat : ∀ n, n < 8 → (2 : Int) ^ n - 1 = ((2 ^ n - 1 : Nat) : Int) ∧ 2 ^ n - 1 < 128 ∧ popN 7 (2 ^ n - 1) = n ∧ ∀ k, k < 7 → (2 ^ n - 1).testBit k = true → k < n := by decide +kernel
theorem cof_setsTo (n : Nat) (l : List Int) (hl : l.length ≤ n + 1) (k : Nat) (hk : k ≤ n) : ∀ j, j ≤ n + 1 → cof (setsTo n l j) (n - k) = if k < j then cof l k else 0
  | 0, _ => by
    rw [if_neg (by omega)]
    unfold cof setsTo
    rw [List.getD_eq_getElem?_getD, List.getElem?_replicate]
    split <;> rfl
  | j + 1, hj => by
    have ih := cof_setsTo n l hl k hk j (by omega)
    have hlen := setsTo_length n l j
    unfold setsTo
    unfold cof at ih ⊢
    by_cases h : k = j
    · subst h
      rw [List.getD_eq_getElem?_getD, List.getElem?_set_self (by omega), if_pos (by omega), rd_cof]
      rfl
    · rw [List.getD_eq_getElem?_getD, List.getElem?_set_ne (by omega), ← List.getD_eq_getElem?_getD, ih]
      by_cases h1 : k < j
      · rw [if_pos h1, if_pos (by omega)]
      · rw [if_neg h1, if_neg (by omega)]
/-- The polynomial of a frame, before zeros are left out. -/
theorem of_ev {l : List Int} (hf : isFr l = true) {gw gr : Int → Int} {cw cr : Int} (hw : Lin gw cw) (hr : Lin gr cr) (hm : ∀ n, n < 8 → mass (EO cw cr n 8 (2 ^ n - 1)) ≤ 1000000) (m : Nat) (h800 : 800 ≤ m) :
    ∃ r, ofF l gw gr m = some r ∧ r.length = l.length + 1 ∧ ∀ k, k ≤ l.length → cof r (l.length - k) = ev (has (adjF l)) k (EO cw cr l.length 8 (2 ^ l.length - 1)) := by
  have hF := isFr_Fr hf
  have hl := isFr_len hf
  obtain ⟨h1, h2, h3, h4⟩ := top_nat l.length (by omega)
  obtain ⟨out, ho, hlo, he⟩ := over_ev hF hw hr l.length 8 (by omega) (2 ^ l.length - 1) h2 (fun k hk => h4 k (testBit_lt h2 hk) hk) h3 m (by omega)
  unfold ofF
  rw [h1, if_pos (okS_nat h2), ho, Option.bind_some, if_pos hlo]
  refine ⟨_, rfl, setsTo_length _ _ _, fun k hk => ?_⟩
  have hev := ev_mass (has (adjF l)) k (EO cw cr l.length 8 (2 ^ l.length - 1))
  have hms := hm l.length (by omega)
  have hwr : wrap64 (ev (has (adjF l)) k (EO cw cr l.length 8 (2 ^ l.length - 1))) = ev (has (adjF l)) k (EO cw cr l.length 8 (2 ^ l.length - 1)) := by
    unfold wrap64
    omega
  rw [cof_setsTo _ _ hlo k hk _ (by omega)]
  by_cases hko : k < out.length
  · rw [if_pos hko, he, hwr]
  · rw [if_neg hko, ← hwr, ← he, cof_big (by omega)]
end Go.Proofs.YtglalkenkmijkaaDoor.Hand
namespace Go.Proofs.YtglalkenkmijkaaDoor.PAll
open Go.RowKit Go.Proofs.YtglalkenkmijkaaDoorW.PrintWords Go.Proofs.YtglalkenkmijkaaDoorW.PrintLast Go.Proofs.YtglalkenkmijkaaDoorW.PrintMore
attribute [local go_sem] max2_int min2_int max_two min_two max_three min_three max_four min_four   -- for this text's walks alone
set_option linter.unusedVariables false
set_option linter.unusedSimpArgs false

/-! ### clocheref08_IsFrame: function 20 -/
mutual
def clocheref08_IsFrame.j0 : Nat → List Int → Int → Bool → Option (Bool)
  | 0, _, _, _ => none
  | k + 1, x0, x3, x14 => if x14 = true then (some false) else (clocheref08_IsFrame.l0 k x0 x3 0)
def clocheref08_IsFrame.l0 : Nat → List Int → Int → Int → Option (Bool)
  | 0, _, _, _ => none
  | k + 1, x0, x3, x4 => if x4 < x3 then (if 0 ≤ x4 then (if x4 < (x0.length : Int) then (if (rd x0 x4) < 0 then (some false) else (if 0 ≤ x3 then (if (rd x0 x4) ≥ (shl .i64 1 x3) then (some false) else (if (Int.tmod (shr .i64 (rd x0 x4) x4) 2) = 1 then (some false) else (clocheref08_IsFrame.l0 k x0 x3 (wrap64 (x4 + 1))))) else (none))) else (none)) else (none)) else (clocheref08_IsFrame.l1 k x0 x3 0)
def clocheref08_IsFrame.l1 : Nat → List Int → Int → Int → Option (Bool)
  | 0, _, _, _ => none
  | k + 1, x0, x3, x5 => if x5 < x3 then (clocheref08_IsFrame.l2 k x0 x3 x5 0) else (some true)
def clocheref08_IsFrame.l2 : Nat → List Int → Int → Int → Int → Option (Bool)
  | 0, _, _, _, _ => none
  | k + 1, x0, x3, x5, x6 => if x6 < x3 then (if 0 ≤ x5 then (if x5 < (x0.length : Int) then (if 0 ≤ x6 then (if x6 < (x0.length : Int) then (if (Int.tmod (shr .i64 (rd x0 x5) x6) 2) = (Int.tmod (shr .i64 (rd x0 x6) x5) 2) then (clocheref08_IsFrame.l2 k x0 x3 x5 (wrap64 (x6 + 1))) else (some false)) else (none)) else (none)) else (none)) else (none)) else (clocheref08_IsFrame.l1 k x0 x3 (wrap64 (x5 + 1)))
end
def clocheref08_IsFrame.f (k : Nat) (l0 : List Int) : Option (Bool) := if (l0.length : Int) < 1 then (clocheref08_IsFrame.j0 k l0 (l0.length : Int) true) else (clocheref08_IsFrame.j0 k l0 (l0.length : Int) (decide ((l0.length : Int) > 7)))
theorem clocheref08_IsFrame.mono_l : ∀ k, (∀ y0 y1 y2, LeO (clocheref08_IsFrame.j0 k y0 y1 y2) (clocheref08_IsFrame.j0 (k + 1) y0 y1 y2)) ∧ (∀ y0 y1 y2, LeO (clocheref08_IsFrame.l0 k y0 y1 y2) (clocheref08_IsFrame.l0 (k + 1) y0 y1 y2)) ∧ (∀ y0 y1 y2, LeO (clocheref08_IsFrame.l1 k y0 y1 y2) (clocheref08_IsFrame.l1 (k + 1) y0 y1 y2)) ∧ (∀ y0 y1 y2 y3, LeO (clocheref08_IsFrame.l2 k y0 y1 y2 y3) (clocheref08_IsFrame.l2 (k + 1) y0 y1 y2 y3))
  | 0 => ⟨fun _ _ _ r h => by simp [clocheref08_IsFrame.j0] at h, fun _ _ _ r h => by simp [clocheref08_IsFrame.l0] at h, fun _ _ _ r h => by simp [clocheref08_IsFrame.l1] at h, fun _ _ _ _ r h => by simp [clocheref08_IsFrame.l2] at h⟩
  | k + 1 => by
    obtain ⟨ih0, ih1, ih2, ih3⟩ := clocheref08_IsFrame.mono_l k
    refine ⟨?_, ?_, ?_, ?_⟩
    · intro y0 y1 y2
      unfold clocheref08_IsFrame.j0
      repeat' first
      | (with_reducible exact ih0 _ _ _)
      | (with_reducible exact ih1 _ _ _)
      | (with_reducible exact ih2 _ _ _)
      | (with_reducible exact ih3 _ _ _ _)
      | (with_reducible exact LeO.refl _)
      | (with_reducible exact LeO.none _)
      | (with_reducible refine LeO.ite ?_ ?_)
      | (with_reducible refine LeO.bind ?_ (fun _ => ?_))
      | exact ih0 _ _ _
      | exact ih1 _ _ _
      | exact ih2 _ _ _
      | exact ih3 _ _ _ _
      | exact LeO.none _
      | refine LeO.ite ?_ ?_
      | refine LeO.bind ?_ (fun _ => ?_)
    · intro y0 y1 y2
      unfold clocheref08_IsFrame.l0
      repeat' first
      | (with_reducible exact ih0 _ _ _)
      | (with_reducible exact ih1 _ _ _)
      | (with_reducible exact ih2 _ _ _)
      | (with_reducible exact ih3 _ _ _ _)
      | (with_reducible exact LeO.refl _)
      | (with_reducible exact LeO.none _)
      | (with_reducible refine LeO.ite ?_ ?_)
      | (with_reducible refine LeO.bind ?_ (fun _ => ?_))
      | exact ih0 _ _ _
      | exact ih1 _ _ _
      | exact ih2 _ _ _
      | exact ih3 _ _ _ _
      | exact LeO.none _
      | refine LeO.ite ?_ ?_
      | refine LeO.bind ?_ (fun _ => ?_)
    · intro y0 y1 y2
      unfold clocheref08_IsFrame.l1
      repeat' first
      | (with_reducible exact ih0 _ _ _)
      | (with_reducible exact ih1 _ _ _)
      | (with_reducible exact ih2 _ _ _)
      | (with_reducible exact ih3 _ _ _ _)
      | (with_reducible exact LeO.refl _)
      | (with_reducible exact LeO.none _)
      | (with_reducible refine LeO.ite ?_ ?_)
      | (with_reducible refine LeO.bind ?_ (fun _ => ?_))
      | exact ih0 _ _ _
      | exact ih1 _ _ _
      | exact ih2 _ _ _
      | exact ih3 _ _ _ _
      | exact LeO.none _
      | refine LeO.ite ?_ ?_
      | refine LeO.bind ?_ (fun _ => ?_)
    · intro y0 y1 y2 y3
      unfold clocheref08_IsFrame.l2
      repeat' first
      | (with_reducible exact ih0 _ _ _)
      | (with_reducible exact ih1 _ _ _)
      | (with_reducible exact ih2 _ _ _)
      | (with_reducible exact ih3 _ _ _ _)
      | (with_reducible exact LeO.refl _)
      | (with_reducible exact LeO.none _)
      | (with_reducible refine LeO.ite ?_ ?_)
      | (with_reducible refine LeO.bind ?_ (fun _ => ?_))
      | exact ih0 _ _ _
      | exact ih1 _ _ _
      | exact ih2 _ _ _
      | exact ih3 _ _ _ _
      | exact LeO.none _
      | refine LeO.ite ?_ ?_
      | refine LeO.bind ?_ (fun _ => ?_)
theorem clocheref08_IsFrame.mono : ∀ a0 k, LeO (clocheref08_IsFrame.f k a0) (clocheref08_IsFrame.f (k + 1) a0) := by
  intro a0 k
  obtain ⟨ih0, ih1, ih2, ih3⟩ := clocheref08_IsFrame.mono_l k
  unfold clocheref08_IsFrame.f
  repeat' first
      | (with_reducible exact ih0 _ _ _)
      | (with_reducible exact ih1 _ _ _)
      | (with_reducible exact ih2 _ _ _)
      | (with_reducible exact ih3 _ _ _ _)
      | (with_reducible exact LeO.refl _)
      | (with_reducible exact LeO.none _)
      | (with_reducible refine LeO.ite ?_ ?_)
      | (with_reducible refine LeO.bind ?_ (fun _ => ?_))
      | exact ih0 _ _ _
      | exact ih1 _ _ _
      | exact ih2 _ _ _
      | exact ih3 _ _ _ _
      | exact LeO.none _
      | refine LeO.ite ?_ ?_
      | refine LeO.bind ?_ (fun _ => ?_)
set_option maxHeartbeats 8000000 in
set_option maxRecDepth 100000 in
theorem clocheref08_IsFrame.calls (k : Nat) (A0 : Option Addr) (c0 : Nat) (l0 : List Int) (r : Bool) (w : World) (hr0 : Kd.C (Kd.int .i64) w A0 l0.length l0) (hc0 : l0.length ≤ c0) (h : clocheref08_IsFrame.f k l0 = some r) :
    Calls Tryd.prog 20 #[.slice A0 l0.length c0] w fun e w' => e = .returned (.bool r) ∧ Drawn0 w w' := by
  have HR0 := Aside0.mk hr0
  have HC0 := Aside0.mk hc0
  clear hr0 hc0
  have H : (if (l0.length : Int) < 1 then (clocheref08_IsFrame.j0 k l0 (l0.length : Int) true) else (clocheref08_IsFrame.j0 k l0 (l0.length : Int) (decide ((l0.length : Int) > 7)))) = some r := h
  clear h
  have HC2 := Aside0.mk H
  clear H
  go_enter Tryd.func20, Tryd.ntmps20
  go_upto_region 2 with (fail)
  repeat (go_quiet (fail); go_upto_region 2 with (fail))
  go_cut [14] (fun v14 wc => ∃ (kq : Nat) (x14_1 : Bool), v14 = .bool x14_1 ∧ Aside0 (clocheref08_IsFrame.j0 kq l0 (l0.length : Int) x14_1 = some r) ∧ Aside0 (kq ≤ k) ∧ Drawn0 w wc)
  case first =>
    have H := HC2.out
    clear HC2
    by_cases c3 : (l0.length : Int) < 1
    · rw [if_pos c3] at H
      have c3b0 : decide ((l0.length : Int) < 1) = true := decide_eq_true c3
      have c3b1 : decide (l0.length < 1) = true := decide_eq_true (by omega)
      clear c3
      (first | rw [c3b0] | (simp only [i64_w, i32_w]; rw [c3b0]) | skip)
      have H' := Aside0.mk H
      clear H
      go_wp2
      repeat (go_quiet (fail); try go_wp2)
      go_meet
      case rel => exact ⟨_, (true), (by first | rfl | (simp; done) | (simp [*]; done)), H', ⟨by first | omega | exact Nat.le_refl _⟩, by repeat (first | exact Drawn0.refl _ | apply Drawn0.step)⟩
    · rw [if_neg c3] at H
      have c3b0 : decide ((l0.length : Int) < 1) = false := decide_eq_false c3
      have c3b1 : decide (l0.length < 1) = false := decide_eq_false (by omega)
      clear c3
      (first | rw [c3b0] | (simp only [i64_w, i32_w]; rw [c3b0]) | skip)
      have H' := Aside0.mk H
      clear H
      go_wp2
      repeat (go_quiet (fail); try go_wp2)
      go_meet
      case rel => exact ⟨_, (decide ((l0.length : Int) > 7)), (by first | rfl | (simp; done) | (simp [*]; done)), H', ⟨by first | omega | exact Nat.le_refl _⟩, by repeat (first | exact Drawn0.refl _ | apply Drawn0.step)⟩
  case rest =>
    clear HC2
    try clear c2
    try clear p2
    try clear c3
    try clear c3b0
    try clear c3b1
    obtain ⟨kq, x14_1, rfl, HA, HJ1, ⟨mc1, rfl⟩⟩ := hcut
    cases kq with
    | zero => exact absurd HA.out (by simp [clocheref08_IsFrame.j0])
    | succ kj1 =>
      have H := HA.out
      clear HA
      simp only [clocheref08_IsFrame.j0] at H
      by_cases c4 : x14_1 = true
      · subst c4
        have H1 : (some false) = some r := by rw [if_pos rfl] at H; exact H
        clear H
        have H := H1
        clear H1
        obtain rfl := Option.some.inj H
        go_wp2
        repeat (go_quiet (fail); try go_wp2)
        go_ret
        exact ⟨by first | rfl | (simp; done) | (simp [*]; done), by repeat (first | exact Drawn0.refl _ | apply Drawn0.step)⟩
      · replace c4 := Bool.eq_false_iff.mpr c4
        subst c4
        have H1 : (clocheref08_IsFrame.l0 kj1 l0 (l0.length : Int) 0) = some r := by rw [if_neg (show ¬ (false = true) by decide)] at H; exact H
        clear H
        have H := H1
        clear H1
        have H' := Aside0.mk H
        clear H
        go_wp2
        repeat (go_quiet (fail); try go_wp2)
        go_loopg [4] kj1 (fun kq v4 w' => ∃ (x4_2 : Int), v4 = .int .i64 x4_2 ∧ Aside0 (clocheref08_IsFrame.l0 kq l0 (l0.length : Int) x4_2 = some r) ∧ Aside0 (kq ≤ kj1) ∧ Drawn0 w w')
        case atStart => exact ⟨(0), (by first | rfl | (simp; done) | (simp [*]; done)), H', ⟨Nat.le_refl _⟩, by repeat (first | exact Drawn0.refl _ | apply Drawn0.step)⟩
        case round =>
          clear H'
          try clear c1
          try clear c2
          try clear p2
          try clear c3
          try clear c3b0
          try clear c3b1
          try clear c4
          try clear p2
          obtain ⟨x4_2, rfl, HA, HK2, ⟨m2, rfl⟩⟩ := hrel
          cases gk with
          | zero => exact absurd HA.out (by simp [clocheref08_IsFrame.l0])
          | succ k2 =>
            have H := HA.out
            clear HA
            simp only [clocheref08_IsFrame.l0] at H
            by_cases c5 : x4_2 < (l0.length : Int)
            · rw [if_pos c5] at H
              have c5b0 : decide (x4_2 < (l0.length : Int)) = true := decide_eq_true c5
              clear c5
              by_cases c6 : 0 ≤ x4_2
              · rw [if_pos c6] at H
                have c6b0 : decide (0 ≤ x4_2) = true := decide_eq_true c6
                clear c6
                by_cases c7 : x4_2 < (l0.length : Int)
                · rw [if_pos c7] at H
                  have c7b0 : decide (x4_2 < (l0.length : Int)) = true := decide_eq_true c7
                  clear c7
                  by_cases c8 : (rd l0 x4_2) < 0
                  · rw [if_pos c8] at H
                    have c8b0 : decide ((rd l0 x4_2) < 0) = true := decide_eq_true c8
                    clear c8
                    obtain rfl := Option.some.inj H
                    have p216 : 0 ≤ (x4_2 : Int) := of_decide_eq_true (by first | (with_reducible assumption) | assumption)
                    have q216 : x4_2 < (l0.length : Int) := of_decide_eq_true (by first | (with_reducible assumption) | assumption)
                    obtain ⟨ad216, e216, hx216_0⟩ := Kd.at_int HR0.out x4_2 p216 q216
                    cases e216
                    replace p216 := eq_true p216
                    replace q216 := eq_true q216
                    go_wp2
                    repeat (go_quiet (fail); try go_wp2)
                    go_ret
                    exact ⟨by first | rfl | (simp; done) | (simp [*]; done), by repeat (first | exact Drawn0.refl _ | apply Drawn0.step)⟩
                  · rw [if_neg c8] at H
                    have c8b0 : decide ((rd l0 x4_2) < 0) = false := decide_eq_false c8
                    clear c8
                    by_cases c9 : 0 ≤ (l0.length : Int)
                    · rw [if_pos c9] at H
                      have c9b0 := eq_true c9
                      have c9b1 : decide (0 ≤ (l0.length : Int)) = true := decide_eq_true c9
                      clear c9
                      obtain ⟨ji10, hji10⟩ : ∃ j_ : Int, (shl .i64 1 (l0.length : Int)) = j_ := ⟨_, rfl⟩
                      replace H : (if (rd l0 x4_2) ≥ (ji10) then (some false) else (if (Int.tmod (shr .i64 (rd l0 x4_2) x4_2) 2) = 1 then (some false) else (clocheref08_IsFrame.l0 k2 l0 (l0.length : Int) (wrap64 (x4_2 + 1))))) = some r := by first | (rw [hji10] at H; exact H) | (simp only [hji10] at H ⊢; exact H)
                      have hji10_ : (IntKind.i64.wrap (1 * 2 ^ min (l0.length : Int).toNat 64)) = ji10 := hji10
                      have hji10z : (l0.length : Int) ≤ 64 → (IntKind.i64.wrap (1 * 2 ^ (l0.length : Int).toNat)) = ji10 := shl_small hji10
                      have hji10p : (IntKind.i64.wrap (1 * 2 ^ min l0.length 64)) = ji10 := hji10_
                      have hji10q : (l0.length : Int) ≤ 64 → (IntKind.i64.wrap (1 * 2 ^ l0.length)) = ji10 := hji10z
                      have hji10r : (IntKind.i64.wrap (2 ^ min l0.length 64)) = ji10 := by have h_ := hji10p; rw [Int.one_mul] at h_; exact h_
                      have hji10s : (l0.length : Int) ≤ 64 → (IntKind.i64.wrap (2 ^ l0.length)) = ji10 := fun hle_ => by have h_ := hji10q hle_; rw [Int.one_mul] at h_; exact h_
                      have hji10u : (IntKind.i64.wrap (2 ^ min (l0.length : Int).toNat 64)) = ji10 := by have h_ := hji10_; rw [Int.one_mul] at h_; exact h_
                      have hji10v : (l0.length : Int) ≤ 64 → (IntKind.i64.wrap (2 ^ (l0.length : Int).toNat)) = ji10 := fun hle_ => by have h_ := hji10z hle_; rw [Int.one_mul] at h_; exact h_
                      have hji10y : (wrap64 (1 * 2 ^ min (l0.length : Int).toNat 64)) = ji10 := (i64_w _).symm.trans hji10_
                      have hji10x : (l0.length : Int) ≤ 64 → (wrap64 (1 * 2 ^ (l0.length : Int).toNat)) = ji10 := fun h_ => (i64_w _).symm.trans (hji10z h_)
                      by_cases c11 : (rd l0 x4_2) ≥ (ji10)
                      · rw [if_pos c11] at H
                        have c11b0 : decide ((ji10) ≤ (rd l0 x4_2)) = true := decide_eq_true c11
                        clear c11
                        obtain rfl := Option.some.inj H
                        have p216 : 0 ≤ (x4_2 : Int) := of_decide_eq_true (by first | (with_reducible assumption) | assumption)
                        have q216 : x4_2 < (l0.length : Int) := of_decide_eq_true (by first | (with_reducible assumption) | assumption)
                        obtain ⟨ad216, e216, hx216_0⟩ := Kd.at_int HR0.out x4_2 p216 q216
                        cases e216
                        replace p216 := eq_true p216
                        replace q216 := eq_true q216
                        have p217 : 0 ≤ (x4_2 : Int) := of_decide_eq_true (by first | (with_reducible assumption) | assumption)
                        have q217 : x4_2 < (l0.length : Int) := of_decide_eq_true (by first | (with_reducible assumption) | assumption)
                        obtain ⟨ad217, e217, hx217_0⟩ := Kd.at_int HR0.out x4_2 p217 q217
                        obtain rfl : ad216 = ad217 := (by injection e217)
                        replace p217 := eq_true p217
                        replace q217 := eq_true q217
                        go_wp2
                        repeat (go_quiet (fail); try go_wp2)
                        go_ret
                        exact ⟨by first | rfl | (simp; done) | (simp only [← hji10] <;> (first | rfl | simp)) | (simp [*]; done), by repeat (first | exact Drawn0.refl _ | apply Drawn0.step)⟩
                      · rw [if_neg c11] at H
                        have c11b0 : decide ((ji10) ≤ (rd l0 x4_2)) = false := decide_eq_false c11
                        clear c11
                        have c12b0 := eq_true (of_decide_eq_true (by first | (with_reducible assumption) | assumption) : 0 ≤ x4_2)
                        obtain ⟨ji13, hji13⟩ : ∃ j_ : Int, (shr .i64 (rd l0 x4_2) x4_2) = j_ := ⟨_, rfl⟩
                        replace H : (if (Int.tmod (ji13) 2) = 1 then (some false) else (clocheref08_IsFrame.l0 k2 l0 (l0.length : Int) (wrap64 (x4_2 + 1)))) = some r := by first | (rw [hji13] at H; exact H) | (simp only [hji13] at H ⊢; exact H)
                        have hji13_ : ((rd l0 x4_2) / 2 ^ min x4_2.toNat 64) = ji13 := hji13
                        have hji13z : x4_2 ≤ 64 → ((rd l0 x4_2) / 2 ^ x4_2.toNat) = ji13 := shr_small hji13
                        by_cases c14 : (Int.tmod (ji13) 2) = 1
                        · rw [if_pos c14] at H
                          have c14b0 : ((Int.tmod (ji13) 2) == 1) = true := beq_iff_eq.mpr c14
                          have c14b1 : ((Int.tmod (ji13) 2) != 1) = false := bne_eq_false_iff_eq.mpr c14
                          clear c14
                          obtain rfl := Option.some.inj H
                          have p216 : 0 ≤ (x4_2 : Int) := of_decide_eq_true (by first | (with_reducible assumption) | assumption)
                          have q216 : x4_2 < (l0.length : Int) := of_decide_eq_true (by first | (with_reducible assumption) | assumption)
                          obtain ⟨ad216, e216, hx216_0⟩ := Kd.at_int HR0.out x4_2 p216 q216
                          cases e216
                          replace p216 := eq_true p216
                          replace q216 := eq_true q216
                          have p217 : 0 ≤ (x4_2 : Int) := of_decide_eq_true (by first | (with_reducible assumption) | assumption)
                          have q217 : x4_2 < (l0.length : Int) := of_decide_eq_true (by first | (with_reducible assumption) | assumption)
                          obtain ⟨ad217, e217, hx217_0⟩ := Kd.at_int HR0.out x4_2 p217 q217
                          obtain rfl : ad216 = ad217 := (by injection e217)
                          replace p217 := eq_true p217
                          replace q217 := eq_true q217
                          have p218 : 0 ≤ (x4_2 : Int) := of_decide_eq_true (by first | (with_reducible assumption) | assumption)
                          have q218 : x4_2 < (l0.length : Int) := of_decide_eq_true (by first | (with_reducible assumption) | assumption)
                          obtain ⟨ad218, e218, hx218_0⟩ := Kd.at_int HR0.out x4_2 p218 q218
                          obtain rfl : ad216 = ad218 := (by injection e218)
                          replace p218 := eq_true p218
                          replace q218 := eq_true q218
                          go_wp2
                          repeat (go_quiet (fail); try go_wp2)
                          go_ret
                          exact ⟨by first | rfl | (simp; done) | (simp only [← hji10, ← hji13] <;> (first | rfl | simp)) | (simp [*]; done), by repeat (first | exact Drawn0.refl _ | apply Drawn0.step)⟩
                        · rw [if_neg c14] at H
                          have c14b0 : ((Int.tmod (ji13) 2) == 1) = false := beq_eq_false_iff_ne.mpr c14
                          have c14b1 : ((Int.tmod (ji13) 2) != 1) = true := bne_iff_ne.mpr c14
                          have H' := Aside0.mk H
                          clear H
                          have p216 : 0 ≤ (x4_2 : Int) := of_decide_eq_true (by first | (with_reducible assumption) | assumption)
                          have q216 : x4_2 < (l0.length : Int) := of_decide_eq_true (by first | (with_reducible assumption) | assumption)
                          obtain ⟨ad216, e216, hx216_0⟩ := Kd.at_int HR0.out x4_2 p216 q216
                          cases e216
                          replace p216 := eq_true p216
                          replace q216 := eq_true q216
                          have p217 : 0 ≤ (x4_2 : Int) := of_decide_eq_true (by first | (with_reducible assumption) | assumption)
                          have q217 : x4_2 < (l0.length : Int) := of_decide_eq_true (by first | (with_reducible assumption) | assumption)
                          obtain ⟨ad217, e217, hx217_0⟩ := Kd.at_int HR0.out x4_2 p217 q217
                          obtain rfl : ad216 = ad217 := (by injection e217)
                          replace p217 := eq_true p217
                          replace q217 := eq_true q217
                          have p218 : 0 ≤ (x4_2 : Int) := of_decide_eq_true (by first | (with_reducible assumption) | assumption)
                          have q218 : x4_2 < (l0.length : Int) := of_decide_eq_true (by first | (with_reducible assumption) | assumption)
                          obtain ⟨ad218, e218, hx218_0⟩ := Kd.at_int HR0.out x4_2 p218 q218
                          obtain rfl : ad216 = ad218 := (by injection e218)
                          replace p218 := eq_true p218
                          replace q218 := eq_true q218
                          go_wp2
                          repeat (go_quiet (fail); try go_wp2)
                          go_roundg k2
                          case measure => have := HJ1.out; have := HK2.out; omega
                          case rel => exact ⟨(wrap64 (x4_2 + 1)), (by first | rfl | (simp; done) | (simp [*]; done)), H', ⟨by have := HJ1.out; have := HK2.out; omega⟩, by repeat (first | exact Drawn0.refl _ | apply Drawn0.step)⟩
                    · rw [if_neg c9] at H
                      exact absurd H (by simp)
                · rw [if_neg c7] at H
                  exact absurd H (by simp)
              · rw [if_neg c6] at H
                exact absurd H (by simp)
            · rw [if_neg c5] at H
              have c5b0 : decide (x4_2 < (l0.length : Int)) = false := decide_eq_false c5
              clear c5
              have H' := Aside0.mk H
              clear H
              go_wp2
              repeat (go_quiet (fail); try go_wp2)
              go_loopg [5] k2 (fun kq v5 w' => ∃ (x5_3 : Int), v5 = .int .i64 x5_3 ∧ Aside0 (clocheref08_IsFrame.l1 kq l0 (l0.length : Int) x5_3 = some r) ∧ Aside0 (kq ≤ k2) ∧ Drawn0 w w')
              case atStart => exact ⟨(0), (by first | rfl | (simp; done) | (simp [*]; done)), H', ⟨Nat.le_refl _⟩, by repeat (first | exact Drawn0.refl _ | apply Drawn0.step)⟩
              case round =>
                clear H'
                try clear c1
                try clear c2
                try clear p2
                try clear q2
                try clear hx2
                try clear c3
                try clear c3b0
                try clear c3b1
                try clear c4
                try clear c5
                try clear c5b0
                try clear c6
                try clear c6b0
                try clear p6
                try clear c7
                try clear c7b0
                try clear c8
                try clear c8b0
                try clear c9
                try clear c9b0
                try clear c9b1
                try clear c11
                try clear c11b0
                try clear c12
                try clear c12b0
                try clear c14
                try clear c14b0
                try clear c14b1
                try clear hx216_0
                try clear hx217_0
                try clear hx218_0
                try clear p2
                try clear p216
                try clear p217
                try clear p218
                try clear q216
                try clear q217
                try clear q218
                obtain ⟨x5_3, rfl, HA, HK3, ⟨m3, rfl⟩⟩ := hrel
                cases gk with
                | zero => exact absurd HA.out (by simp [clocheref08_IsFrame.l1])
                | succ k3 =>
                  have H := HA.out
                  clear HA
                  simp only [clocheref08_IsFrame.l1] at H
                  by_cases c15 : x5_3 < (l0.length : Int)
                  · rw [if_pos c15] at H
                    have c15b0 : decide (x5_3 < (l0.length : Int)) = true := decide_eq_true c15
                    clear c15
                    have H' := Aside0.mk H
                    clear H
                    go_wp2
                    repeat (go_quiet (fail); try go_wp2)
                    go_loopg [6] k3 (fun kq v6 w' => ∃ (x6_4 : Int), v6 = .int .i64 x6_4 ∧ Aside0 (clocheref08_IsFrame.l2 kq l0 (l0.length : Int) x5_3 x6_4 = some r) ∧ Aside0 (kq ≤ k3) ∧ Drawn0 w w')
                    case atStart => exact ⟨(0), (by first | rfl | (simp; done) | (simp [*]; done)), H', ⟨Nat.le_refl _⟩, by repeat (first | exact Drawn0.refl _ | apply Drawn0.step)⟩
                    case round =>
                      clear H'
                      try clear c1
                      try clear c2
                      try clear p2
                      try clear q2
                      try clear hx2
                      try clear c3
                      try clear c3b0
                      try clear c3b1
                      try clear c4
                      try clear c5
                      try clear c5b0
                      try clear c6
                      try clear c6b0
                      try clear p6
                      try clear c7
                      try clear c7b0
                      try clear c8
                      try clear c8b0
                      try clear c9
                      try clear c9b0
                      try clear c9b1
                      try clear c11
                      try clear c11b0
                      try clear c12
                      try clear c12b0
                      try clear c14
                      try clear c14b0
                      try clear c14b1
                      try clear c15
                      try clear c15b0
                      try clear hx216_0
                      try clear hx217_0
                      try clear hx218_0
                      try clear p2
                      try clear p216
                      try clear p217
                      try clear p218
                      try clear p6
                      try clear q2
                      try clear q216
                      try clear q217
                      try clear q218
                      obtain ⟨x6_4, rfl, HA, HK4, ⟨m4, rfl⟩⟩ := hrel
                      cases gk with
                      | zero => exact absurd HA.out (by simp [clocheref08_IsFrame.l2])
                      | succ k4 =>
                        have H := HA.out
                        clear HA
                        simp only [clocheref08_IsFrame.l2] at H
                        by_cases c16 : x6_4 < (l0.length : Int)
                        · rw [if_pos c16] at H
                          have c16b0 : decide (x6_4 < (l0.length : Int)) = true := decide_eq_true c16
                          clear c16
                          by_cases c17 : 0 ≤ x5_3
                          · rw [if_pos c17] at H
                            have c17b0 : decide (0 ≤ x5_3) = true := decide_eq_true c17
                            clear c17
                            by_cases c18 : x5_3 < (l0.length : Int)
                            · rw [if_pos c18] at H
                              have c18b0 : decide (x5_3 < (l0.length : Int)) = true := decide_eq_true c18
                              clear c18
                              by_cases c19 : 0 ≤ x6_4
                              · rw [if_pos c19] at H
                                have c19b0 := eq_true c19
                                have c19b1 : decide (0 ≤ x6_4) = true := decide_eq_true c19
                                clear c19
                                obtain ⟨ji20, hji20⟩ : ∃ j_ : Int, (shr .i64 (rd l0 x5_3) x6_4) = j_ := ⟨_, rfl⟩
                                replace H : (if x6_4 < (l0.length : Int) then (if (Int.tmod (ji20) 2) = (Int.tmod (shr .i64 (rd l0 x6_4) x5_3) 2) then (clocheref08_IsFrame.l2 k4 l0 (l0.length : Int) x5_3 (wrap64 (x6_4 + 1))) else (some false)) else (none)) = some r := by first | (rw [hji20] at H; exact H) | (simp only [hji20] at H ⊢; exact H)
                                have hji20_ : ((rd l0 x5_3) / 2 ^ min x6_4.toNat 64) = ji20 := hji20
                                have hji20z : x6_4 ≤ 64 → ((rd l0 x5_3) / 2 ^ x6_4.toNat) = ji20 := shr_small hji20
                                by_cases c21 : x6_4 < (l0.length : Int)
                                · rw [if_pos c21] at H
                                  have c21b0 : decide (x6_4 < (l0.length : Int)) = true := decide_eq_true c21
                                  clear c21
                                  have c22b0 := eq_true (of_decide_eq_true (by first | (with_reducible assumption) | assumption) : 0 ≤ x5_3)
                                  obtain ⟨ji23, hji23⟩ : ∃ j_ : Int, (shr .i64 (rd l0 x6_4) x5_3) = j_ := ⟨_, rfl⟩
                                  replace H : (if (Int.tmod (ji20) 2) = (Int.tmod (ji23) 2) then (clocheref08_IsFrame.l2 k4 l0 (l0.length : Int) x5_3 (wrap64 (x6_4 + 1))) else (some false)) = some r := by first | (rw [hji23] at H; exact H) | (simp only [hji23] at H ⊢; exact H)
                                  have hji23_ : ((rd l0 x6_4) / 2 ^ min x5_3.toNat 64) = ji23 := hji23
                                  have hji23z : x5_3 ≤ 64 → ((rd l0 x6_4) / 2 ^ x5_3.toNat) = ji23 := shr_small hji23
                                  by_cases c24 : (Int.tmod (ji20) 2) = (Int.tmod (ji23) 2)
                                  · rw [if_pos c24] at H
                                    have c24b0 : ((Int.tmod (ji20) 2) == (Int.tmod (ji23) 2)) = true := beq_iff_eq.mpr c24
                                    have c24b1 : ((Int.tmod (ji20) 2) != (Int.tmod (ji23) 2)) = false := bne_eq_false_iff_eq.mpr c24
                                    clear c24
                                    have H' := Aside0.mk H
                                    clear H
                                    have p219 : 0 ≤ (x5_3 : Int) := of_decide_eq_true (by first | (with_reducible assumption) | assumption)
                                    have q219 : x5_3 < (l0.length : Int) := of_decide_eq_true (by first | (with_reducible assumption) | assumption)
                                    obtain ⟨ad219, e219, hx219_0⟩ := Kd.at_int HR0.out x5_3 p219 q219
                                    cases e219
                                    replace p219 := eq_true p219
                                    replace q219 := eq_true q219
                                    have p220 : 0 ≤ (x6_4 : Int) := of_decide_eq_true (by first | (with_reducible assumption) | assumption)
                                    have q220 : x6_4 < (l0.length : Int) := of_decide_eq_true (by first | (with_reducible assumption) | assumption)
                                    obtain ⟨ad220, e220, hx220_0⟩ := Kd.at_int HR0.out x6_4 p220 q220
                                    obtain rfl : ad219 = ad220 := (by injection e220)
                                    replace p220 := eq_true p220
                                    replace q220 := eq_true q220
                                    go_wp2
                                    repeat (go_quiet (fail); try go_wp2)
                                    go_roundg k4
                                    case measure => have := HJ1.out; have := HK2.out; have := HK3.out; have := HK4.out; omega
                                    case rel => exact ⟨(wrap64 (x6_4 + 1)), (by first | rfl | (simp; done) | (simp [*]; done)), H', ⟨by have := HJ1.out; have := HK2.out; have := HK3.out; have := HK4.out; omega⟩, by repeat (first | exact Drawn0.refl _ | apply Drawn0.step)⟩
                                  · rw [if_neg c24] at H
                                    have c24b0 : ((Int.tmod (ji20) 2) == (Int.tmod (ji23) 2)) = false := beq_eq_false_iff_ne.mpr c24
                                    have c24b1 : ((Int.tmod (ji20) 2) != (Int.tmod (ji23) 2)) = true := bne_iff_ne.mpr c24
                                    obtain rfl := Option.some.inj H
                                    have p219 : 0 ≤ (x5_3 : Int) := of_decide_eq_true (by first | (with_reducible assumption) | assumption)
                                    have q219 : x5_3 < (l0.length : Int) := of_decide_eq_true (by first | (with_reducible assumption) | assumption)
                                    obtain ⟨ad219, e219, hx219_0⟩ := Kd.at_int HR0.out x5_3 p219 q219
                                    cases e219
                                    replace p219 := eq_true p219
                                    replace q219 := eq_true q219
                                    have p220 : 0 ≤ (x6_4 : Int) := of_decide_eq_true (by first | (with_reducible assumption) | assumption)
                                    have q220 : x6_4 < (l0.length : Int) := of_decide_eq_true (by first | (with_reducible assumption) | assumption)
                                    obtain ⟨ad220, e220, hx220_0⟩ := Kd.at_int HR0.out x6_4 p220 q220
                                    obtain rfl : ad219 = ad220 := (by injection e220)
                                    replace p220 := eq_true p220
                                    replace q220 := eq_true q220
                                    go_wp2
                                    repeat (go_quiet (fail); try go_wp2)
                                    go_ret
                                    exact ⟨by first | rfl | (simp; done) | (simp only [← hji20, ← hji23] <;> (first | rfl | simp)) | (simp [*]; done), by repeat (first | exact Drawn0.refl _ | apply Drawn0.step)⟩
                                · rw [if_neg c21] at H
                                  exact absurd H (by simp)
                              · rw [if_neg c19] at H
                                exact absurd H (by simp)
                            · rw [if_neg c18] at H
                              exact absurd H (by simp)
                          · rw [if_neg c17] at H
                            exact absurd H (by simp)
                        · rw [if_neg c16] at H
                          have c16b0 : decide (x6_4 < (l0.length : Int)) = false := decide_eq_false c16
                          clear c16
                          have H' := Aside0.mk H
                          clear H
                          go_wp2
                          repeat (go_quiet (fail); try go_wp2)
                          go_roundg k4
                          case measure => have := HJ1.out; have := HK2.out; have := HK3.out; have := HK4.out; omega
                          case rel => exact ⟨(wrap64 (x5_3 + 1)), (by first | rfl | (simp; done) | (simp [*]; done)), H', ⟨by have := HJ1.out; have := HK2.out; have := HK3.out; have := HK4.out; omega⟩, by repeat (first | exact Drawn0.refl _ | apply Drawn0.step)⟩
                  · rw [if_neg c15] at H
                    have c15b0 : decide (x5_3 < (l0.length : Int)) = false := decide_eq_false c15
                    clear c15
                    obtain rfl := Option.some.inj H
                    go_wp2
                    repeat (go_quiet (fail); try go_wp2)
                    go_ret
                    exact ⟨by first | rfl | (simp; done) | (simp [*]; done), by repeat (first | exact Drawn0.refl _ | apply Drawn0.step)⟩

end Go.Proofs.YtglalkenkmijkaaDoor.PAll
/- The reference's IsFrame answers as the program's. -/
namespace Go.Proofs.YtglalkenkmijkaaDoor.Hand
open Go.RowKit Enum PAll Go.Proofs.YtglalkenkmijkaaDoorW.PrintWords Go.Proofs.YtglalkenkmijkaaDoorW.PrintLast Go.Proofs.YtglalkenkmijkaaDoorW.PrintMore
set_option linter.unusedVariables false
set_option linter.unusedSimpArgs false

theorem tmod_tst : ∀ s, s < 128 → ∀ k, k < 7 → Int.tmod (shr .i64 ((s : Nat) : Int) ((k : Nat) : Int)) 2 = tstN ((s : Nat) : Int) k := by decide +kernel
theorem shl_one : ∀ n, n < 8 → shl .i64 1 ((n : Nat) : Int) = 2 ^ n := by decide +kernel
theorem wrap_succ {i : Nat} (h : i < 1000) : wrap64 ((i : Int) + 1) = ((i + 1 : Nat) : Int) := by unfold wrap64; omega
theorem isFrame_l2 {l : List Int} (hn : l.length ≤ 7) (hb : ∀ i : Nat, i < l.length → 0 ≤ rd l i ∧ rd l i < 128) {i : Nat} (hi : i < l.length) : ∀ d k m, k + d = l.length →
    clocheref08_IsFrame.l2 (m + d + 1) l (l.length : Int) (i : Int) (k : Int) = if (List.range' k d).all (symOk l i) = true then clocheref08_IsFrame.l1 m l (l.length : Int) ((i + 1 : Nat) : Int) else some false
  | 0, k, m, h => by
    rw [clocheref08_IsFrame.l2, if_neg (by omega), wrap_succ (by omega)]
    rfl
  | d + 1, k, m, h => by
    obtain ⟨a, ha⟩ := Int.eq_ofNat_of_zero_le (hb i hi).1
    obtain ⟨b, hb'⟩ := Int.eq_ofNat_of_zero_le (hb k (by omega)).1
    have h1 := (hb i hi).2
    have h2 := (hb k (by omega)).2
    rw [show m + (d + 1) + 1 = (m + d + 1) + 1 from by omega, clocheref08_IsFrame.l2, if_pos (by omega), if_pos (by omega), if_pos (by omega), if_pos (by omega), if_pos (by omega), wrap_succ (by omega), isFrame_l2 hn hb hi d (k + 1) m (by omega), List.range'_succ, List.all_cons]
    have e1 := tmod_tst a (by omega) k (by omega)
    have e2 := tmod_tst b (by omega) i (by omega)
    rw [ha, hb', e1, e2]
    by_cases hs : tstN (a : Int) k = tstN (b : Int) i
    · rw [if_pos hs, show symOk l i k = true by unfold symOk; rw [ha, hb']; exact beq_iff_eq.2 hs, Bool.true_and]
    · rw [if_neg hs, show symOk l i k = false by unfold symOk; rw [ha, hb']; exact beq_eq_false_iff_ne.2 hs, Bool.false_and, if_neg (by decide)]
theorem isFrame_l1 {l : List Int} (hn : l.length ≤ 7) (hb : ∀ i : Nat, i < l.length → 0 ≤ rd l i ∧ rd l i < 128) : ∀ d i m, i + d = l.length →
    clocheref08_IsFrame.l1 (m + d * (l.length + 2) + 1) l (l.length : Int) (i : Int) = some ((List.range' i d).all fun i => (List.range' 0 l.length).all (symOk l i))
  | 0, i, m, h => by
    rw [clocheref08_IsFrame.l1, if_neg (by omega)]
    rfl
  | d + 1, i, m, h => by
    have e : m + (d + 1) * (l.length + 2) = (m + d * (l.length + 2) + 1) + l.length + 1 := by rw [Nat.add_mul]; omega
    rw [clocheref08_IsFrame.l1, if_pos (by omega), e, show (0 : Int) = ((0 : Nat) : Int) from rfl, isFrame_l2 hn hb (by omega) l.length 0 _ (by omega), isFrame_l1 hn hb d (i + 1) m (by omega), List.range'_succ, List.all_cons]
    cases (List.range' 0 l.length).all (symOk l i) with
    | true => rw [if_pos rfl, Bool.true_and]
    | false => rw [if_neg (by decide), Bool.false_and]
theorem isFrame_l0 {l : List Int} (hn : l.length ≤ 7) : ∀ d i m, i + d = l.length →
    clocheref08_IsFrame.l0 (m + d + 1) l (l.length : Int) (i : Int) = if (List.range' i d).all (rowOk l) = true then clocheref08_IsFrame.l1 m l (l.length : Int) 0 else some false
  | 0, i, m, h => by
    rw [clocheref08_IsFrame.l0, if_neg (by omega)]
    rfl
  | d + 1, i, m, h => by
    rw [show m + (d + 1) + 1 = (m + d + 1) + 1 from by omega, clocheref08_IsFrame.l0, if_pos (by omega), if_pos (by omega), if_pos (by omega), List.range'_succ, List.all_cons, shl_one _ (by omega), wrap_succ (by omega), isFrame_l0 hn d (i + 1) m (by omega)]
    have h128 : (2 : Int) ^ l.length ≤ 128 := by
      have : ∀ n, n < 8 → (2 : Int) ^ n ≤ 128 := by decide +kernel
      exact this _ (by omega)
    by_cases h0 : rd l i < 0
    · rw [if_pos h0, show rowOk l i = false by unfold rowOk; rw [decide_eq_false (by omega : ¬ 0 ≤ rd l i)]; rfl, Bool.false_and, if_neg (by decide)]
    · rw [if_neg h0, if_pos (by omega)]
      by_cases h1 : rd l i ≥ 2 ^ l.length
      · rw [if_pos h1, show rowOk l i = false by unfold rowOk; rw [decide_eq_false (by omega : ¬ rd l i < 2 ^ l.length)]; simp, Bool.false_and, if_neg (by decide)]
      · rw [if_neg h1]
        obtain ⟨a, ha⟩ := Int.eq_ofNat_of_zero_le (show 0 ≤ rd l i by omega)
        have e1 := tmod_tst a (by omega) i (by omega)
        rw [ha, e1]
        have e2 : rowOk l i = !(tstN (a : Int) i == 1) := by unfold rowOk; rw [ha, decide_eq_true (by omega), decide_eq_true (by omega)]; simp
        by_cases h2 : tstN (a : Int) i = 1
        · rw [if_pos h2, e2, h2]; rfl
        · rw [if_neg h2, e2, show (tstN (a : Int) i == 1) = false from beq_eq_false_iff_ne.2 h2]
          rfl
theorem isFrame_eq (l : List Int) (k : Nat) (hk : 200 ≤ k) : clocheref08_IsFrame.f k l = some (isFr l) := by
  obtain ⟨k, rfl⟩ : ∃ q, k = q + 1 := ⟨k - 1, by omega⟩
  unfold clocheref08_IsFrame.f
  by_cases h1 : (l.length : Int) < 1
  · rw [if_pos h1, clocheref08_IsFrame.j0, if_pos rfl]
    unfold isFr
    rw [decide_eq_false (by omega : ¬ 1 ≤ l.length)]; rfl
  · rw [if_neg h1, clocheref08_IsFrame.j0]
    by_cases h7 : (l.length : Int) > 7
    · rw [decide_eq_true h7, if_pos rfl]
      unfold isFr
      rw [decide_eq_false (by omega : ¬ l.length ≤ 7)]; simp
    · rw [decide_eq_false h7, if_neg (by decide)]
      have hn : l.length ≤ 7 := by omega
      obtain ⟨m, rfl⟩ : ∃ m, k = (m + l.length * (l.length + 2) + 1) + l.length + 1 := ⟨k - (l.length * (l.length + 2) + 1) - l.length - 1, by
        have : l.length * (l.length + 2) ≤ 7 * 9 := Nat.mul_le_mul hn (by omega)
        omega⟩
      rw [show (0 : Int) = ((0 : Nat) : Int) from rfl, isFrame_l0 hn l.length 0 _ (by omega)]
      have hfr : isFr l = ((List.range' 0 l.length).all (rowOk l) && (List.range' 0 l.length).all fun i => (List.range' 0 l.length).all (symOk l i)) := by
        unfold isFr
        rw [decide_eq_true (by omega : 1 ≤ l.length), decide_eq_true hn, Bool.true_and, Bool.true_and, List.range_eq_range', Bool.eq_iff_iff]
        simp only [Bool.and_eq_true, List.all_eq_true]
        exact ⟨fun h => ⟨fun x hx => (h x hx).1, fun x hx => (h x hx).2⟩, fun h x hx => ⟨h.1 x hx, h.2 x hx⟩⟩
      rw [hfr]
      cases hr : (List.range' 0 l.length).all (rowOk l) with
      | false => rw [if_neg (by decide), Bool.false_and]
      | true =>
        have hb : ∀ i : Nat, i < l.length → 0 ≤ rd l i ∧ rd l i < 128 := fun i hi => by
          have := List.all_eq_true.1 hr i (by simp; exact hi)
          unfold rowOk at this
          simp only [Bool.and_eq_true, decide_eq_true_eq] at this
          have h128 : ∀ n, n < 8 → (2 : Int) ^ n ≤ 128 := by decide +kernel
          have := h128 l.length (by omega)
          omega
        rw [if_pos rfl, Bool.true_and]
        exact isFrame_l1 hn hb l.length 0 m (by omega)
end Go.Proofs.YtglalkenkmijkaaDoor.Hand
