/- The common part 3 of the tones claims: walks over the program's text up to the layer's closed example, sums over figures, the listed variables; joined by a program. No condition beyond the statement's own. -/
import Derived.Test.YtglalkenkmijkaaDoorJC2
import Derived.Test.YtglalkenkmijkaaDoorJC0
import Derived.BigRegion
import Derived.Test.YtglalkenkmijkaaDoorJC1
import Derived.OneCell
import Derived.Outline
import Derived.WalkSpells
import Derived.Deep.RegionWith
import Derived.Deep.RegionLaw
import Derived.IntWalk
import Derived.Deep.RegionHeld3
import Derived.Laws.EntriesVeiled
/- The chain of a polynomial: a walk. -/
namespace Go.Proofs.YtglalkenkmijkaaDoor.Hand
open Go.RowKit Go.Proofs.YtglalkenkmijkaaDoorW.PrintWords Go.Proofs.YtglalkenkmijkaaDoorW.PrintLast Go.Proofs.YtglalkenkmijkaaDoorW.PrintMore
open PAll
set_option linter.unusedVariables false
set_option linter.unusedSimpArgs false

def mkS (t : Int × List Int) : S87 := ⟨t.1, t.2⟩
def pTo (k : Nat) (l : List Int) : Nat → Option (List S87)
  | 0 => some []
  | i + 1 => (pTo k l i).bind fun p => (tones_whole.f k (rd l i)).map fun t => p ++ [mkS t]
def qTo (k : Nat) (l : List Int) : Nat → Option (List S87)
  | 0 => some []
  | i + 1 => (qTo k l i).bind fun q => if 0 < i then (tones_whole.f k (wrap64 (i * rd l i))).map fun t => q ++ [mkS t] else some q
def negS (x : S87) : S87 := ⟨wrap64 (-x.f0), x.f1⟩
def chainL (k m : Nat) : Nat → List S87 → List S87 → List (List S87) → Option (List (List S87))
  | 0, _, _, _ => none
  | f + 1, p, q, out => if 0 < q.length then (restF k m p q).bind fun r => if r.length ≤ 1000 ∧ out.length ≤ 1000 then chainL k m f q (r.map negS) (out ++ [q]) else none else some out
def chainF (k m f : Nat) (l : List Int) : Option (List (List S87)) :=
  if l.length ≤ 1000 then (pTo k l l.length).bind fun p => (qTo k l l.length).bind fun q => chainL k m f p (q.take (trimLen q q.length)) [p] else none
theorem pTo_length {k : Nat} {l : List Int} : ∀ {i : Nat} {p : List S87}, pTo k l i = some p → p.length = i
  | 0, p, h => by injection h with h; rw [← h]; rfl
  | i + 1, p, h => by
    obtain ⟨p2, h2, h⟩ := Option.bind_eq_some_iff.1 h
    obtain ⟨u, _, h⟩ := Option.map_eq_some_iff.1 h
    rw [← h, List.length_append, pTo_length h2]; rfl
theorem pTo_some {k : Nat} {l : List Int} {r : List S87} : ∀ {d i : Nat}, pTo k l (i + d) = some r → ∃ p, pTo k l i = some p
  | 0, i, h => ⟨r, h⟩
  | d + 1, i, h => by
    obtain ⟨l2, h2, h⟩ := Option.bind_eq_some_iff.1 (show (pTo k l (i + d)).bind _ = some r from h)
    exact pTo_some (d := d) h2
theorem qTo_length {k : Nat} {l : List Int} : ∀ {i : Nat} {q : List S87}, qTo k l i = some q → q.length ≤ i
  | 0, q, h => by injection h with h; rw [← h]; exact Nat.le_refl _
  | i + 1, q, h => by
    obtain ⟨q2, h2, h⟩ := Option.bind_eq_some_iff.1 h
    have := qTo_length h2
    split at h
    · obtain ⟨u, _, h⟩ := Option.map_eq_some_iff.1 h
      rw [← h, List.length_append]; simp; omega
    · injection h with h
      rw [← h]; omega
theorem qTo_some {k : Nat} {l : List Int} {r : List S87} : ∀ {d i : Nat}, qTo k l (i + d) = some r → ∃ p, qTo k l i = some p
  | 0, i, h => ⟨r, h⟩
  | d + 1, i, h => by
    obtain ⟨l2, h2, h⟩ := Option.bind_eq_some_iff.1 (show (qTo k l (i + d)).bind _ = some r from h)
    exact qTo_some (d := d) h2
theorem own_new {v : Value} {n k : Nat} (h : ∀ k, v.ownBlock = some k → k < n) (hk : n ≤ k) : some k ≠ v.ownBlock := fun e => Nat.lt_irrefl _ (Nat.lt_of_lt_of_le (h k e.symm) hk)
theorem underlying67_ : Tryd.prog.underlying 67 = some (.slice 85) := by kernel_rfl

/-- What stands while the polynomial and its derivative are made. -/
structure CQ (w W : World) (vp vq : Value) (p q : List S87) : Prop where
  np : Kd.N k87 87 W w.heap.size (fun k => True ∧ some k ≠ vq.ownBlock) vp p
  nq : Kd.N k87 87 W w.heap.size (fun k => True ∧ some k ≠ vp.ownBlock) vq q
  below : Below w.heap.size w W
theorem CQ.below_ {w W W2 : World} {vp vq : Value} {p q : List S87} (h : CQ w W vp vq p q) (hb : Below W.heap.size W W2) : CQ w W2 vp vq p q :=
  ⟨Kd.N_below h.np hb, Kd.N_below h.nq hb, below_then h.below h.below.size hb⟩
theorem mkS_F {W : World} {base : Nat} {t : Int × List Int} {A : Option Addr} {n c : Nat} (h : Kd.R (Kd.int .i64) 3 W base (fun _ => True) (.slice A n c) t.2) : n = t.2.length ∧ Kd.FK k87 W (fun k => base ≤ k ∧ k < W.heap.size) (mkS t) [.int .i64 t.1, .slice A n c] := by
  obtain ⟨hn, hc, _⟩ := Kd.R_reads' h
  subst hn
  exact ⟨rfl, k87_mkF W _ (mkS t) hc (Kd.F_mono (Kd.R_F (Kd.R_bound h)) (fun k hk => ⟨hk.2.1, hk.2.2.1⟩))⟩

theorem slice_FK {W : World} {ok : Nat → Prop} {A : Option Addr} {x : List S87} {c : Nat} (h : Kd.F k87 W ok A x.length x) (hc : x.length ≤ c) : Kd.FK (Kd.slice 87 k87) W ok x [.slice A x.length c] := fun W' hW => ⟨A, c, rfl, hc, h W' hW⟩
theorem N_one {W : World} {base : Nat} {ok : Nat → Prop} {A : Option Addr} {x : List S87} {c : Nat} (hb : base ≤ W.heap.size) (h : Kd.F k87 W ok A x.length x) (hc : x.length ≤ c) :
    Kd.N (Kd.slice 87 k87) 85 (W.alloc (.cells #[.slice A x.length c] 85)) base (fun _ => True) (.slice (some ⟨W.heap.size, 0, none⟩) 1 1) [x] := by
  refine ⟨fun _ _ => trivial, [[.slice A x.length c]], rfl, ⟨fun k hk => hk.symm, ?_⟩, fun j y d hy hd => ?_⟩
  · have := OwnRow.lit (R := fun (x : List Value) (cs : List Value) => cs = x ∧ cs.length = 1 ∧ ∀ u ∈ cs, u.oneCell' = true) (e := 85) (size := 1) (ps := [[Value.slice A x.length c]]) W base (inner := [.slice A x.length c]) ⟨by simp, fun j p hj => by
      rcases j with _ | j
      · simp at hj
        subst hj
        simp [Value.oneCell']
      · simp at hj⟩ hb (by simp)
    exact this
  · rcases j with _ | j
    · simp at hy hd
      subst hy hd
      exact Kd.FK_mono (Kd.FK_bound (slice_FK (Kd.F_alloc (Kd.F_bound h) _) hc)) (fun k hk => ⟨trivial, fun e => by
        have e' : k = W.heap.size := by simpa [Value.ownBlock] using e
        have := hk.1.2
        omega⟩)
    · simp at hy
/-- What stands while the chain is made. -/
structure CO (w W : World) (vo : Value) (out : List (List S87)) (Ap : Option Addr) (cp : Nat) (p : List S87) (Aq : Option Addr) (cq : Nat) (q : List S87) : Prop where
  no : Kd.N (Kd.slice 87 k87) 85 W w.heap.size (fun _ => True) vo out
  fp : Kd.F k87 W (fun k => True ∧ some k ≠ vo.ownBlock) Ap p.length p
  fq : Kd.F k87 W (fun k => True ∧ some k ≠ vo.ownBlock) Aq q.length q
  lp : p.length ≤ cp
  lq : q.length ≤ cq
  below : Below w.heap.size w W
/-- .. and its last one's signs are turned. -/
structure CN (w W : World) (B : Nat) (vo : Value) (out : List (List S87)) (Aq : Option Addr) (cq : Nat) (q : List S87) (vn : Value) (nl : List S87) : Prop where
  no : Kd.N (Kd.slice 87 k87) 85 W w.heap.size (fun k => True ∧ k < B) vo out
  fq : Kd.F k87 W (fun k => (True ∧ some k ≠ vo.ownBlock) ∧ k < B) Aq q.length q
  lq : q.length ≤ cq
  nn : Kd.N k87 87 W B (fun k => ((True ∧ some k ≠ vo.ownBlock) ∧ k < B) ∨ B ≤ k) vn nl
  old : ∀ k, vo.ownBlock = some k → k < B
  base : w.heap.size ≤ B
  below : Below w.heap.size w W
def negTo (l : List S87) : Nat → List S87
  | 0 => l
  | i + 1 => (negTo l i).set i (negS (rd_T87 (negTo l i) i))
theorem negTo_length (l : List S87) : ∀ i, (negTo l i).length = l.length
  | 0 => rfl
  | i + 1 => by rw [negTo, List.length_set, negTo_length l i]
theorem negTo_get (l : List S87) : ∀ i, i ≤ l.length → ∀ j, (negTo l i)[j]? = if j < i then l[j]?.map negS else l[j]?
  | 0, _, j => by simp [negTo]
  | i + 1, h, j => by
    have ih := negTo_get l i (by omega)
    rw [negTo, List.getElem?_set]
    by_cases hj : i = j
    · subst hj
      have hl := negTo_length l i
      have h2 := ih i
      rw [if_neg (Nat.lt_irrefl _)] at h2
      rw [if_pos rfl, if_pos (by omega), if_pos (Nat.lt_succ_self _), rd_T87, Int.toNat_natCast, List.getD_eq_getElem?_getD, h2, List.getElem?_eq_getElem (by omega)]
      rfl
    · rw [if_neg hj, ih j]
      by_cases h1 : j < i
      · rw [if_pos h1, if_pos (by omega)]
      · rw [if_neg h1, if_neg (by omega)]
theorem negTo_all (l : List S87) : negTo l l.length = l.map negS := by
  apply List.ext_getElem?
  intro j
  rw [negTo_get l l.length (Nat.le_refl _) j, List.getElem?_map]
  by_cases h : j < l.length
  · rw [if_pos h]
  · rw [if_neg h, List.getElem?_eq_none (by omega)]; rfl
theorem N_sign {W : World} {base n cap g : Nat} {ok : Nat → Prop} {l : List S87} (h : Kd.N k87 87 W base ok (.slice (some ⟨g, 0, none⟩) n cap) l) (i : Nat) (hi : i < n) (s : Int) :
    Kd.N k87 87 (W.setCell ⟨g, i * 2, none⟩ (.int .i64 s)) base ok (.slice (some ⟨g, 0, none⟩) n cap) (l.set i ⟨s, (rd_T87 l i).f1⟩) ∧ W.grownBy (W.setCell ⟨g, i * 2, none⟩ (.int .i64 s)) (some g) := by
  obtain ⟨c7, hc7, hF7, hcc7, hfr⟩ := Kd.N_elem h z87 (i : Int) (by omega) (by omega)
  obtain ⟨Ax, cx, rfl, hcx, hFx⟩ := k87_openF hF7
  have := Kd.N_seg h (i : Int) (by omega) (by omega) (c := _) (seg := [.int .i64 s]) (j := 0) (okp := fun k => ok k ∧ k ≠ g) hc7 hcc7 (by show 0 + 1 ≤ 2; omega) (x' := ⟨s, (rd_T87 l i).f1⟩) (k87_mkF W _ ⟨s, (rd_T87 l i).f1⟩ hcx hFx) (fun k hk => hk)
  rw [Int.toNat_natCast] at this
  simpa [World.setCells, k87, Kd.iso, Kd.pair, Kd.slice, Kd.int, Kd.scalar] using this
theorem CN.sign {w W : World} {B : Nat} {vo : Value} {out : List (List S87)} {Aq : Option Addr} {cq : Nat} {q : List S87} {g n c : Nat} {nl : List S87} (h : CN w W B vo out Aq cq q (.slice (some ⟨g, 0, none⟩) n c) nl) (i : Nat) (hi : i < n) (a : Addr) (ha : a = ⟨g, i * 2, none⟩) (u : Value) (hu : u = .int .i64 (wrap64 (-(rd_T87 nl i).f0))) :
    CN w (W.setCell a u) B vo out Aq cq q (.slice (some ⟨g, 0, none⟩) n c) (nl.set i (negS (rd_T87 nl i))) := by
  subst ha hu
  have hg : B ≤ g := Kd.N_base h.nn g rfl
  obtain ⟨h1, h2⟩ := N_sign h.nn i hi (wrap64 (-(rd_T87 nl i).f0))
  exact ⟨Kd.N_grown h.no h2 (fun k hk e => by injection e with e; have := hk.2; omega), Kd.F_grown h.fq h2 (fun k hk e => by injection e with e; have := hk.2; omega), h.lq, h1, h.old, h.base, h.below.setCell (Nat.le_trans h.base hg) _⟩

set_option maxHeartbeats 20000000 in
set_option maxRecDepth 100000 in
theorem chain_calls (k m f : Nat) (A0 : Option Addr) (c0 : Nat) (l : List Int) (r : List (List S87)) (w : World) (hr0 : Kd.C (Kd.int .i64) w A0 l.length l) (hc0 : l.length ≤ c0) (h : chainF k m f l = some r) :
    Calls Tryd.prog 60 #[.slice A0 l.length c0] w fun e w' => ∃ v : Value, e = .returned v ∧ Kd.N (Kd.slice 87 k87) 85 w' w.heap.size (fun _ => True) v r ∧ Below w.heap.size w w' := by
  unfold chainF at h
  by_cases hl : l.length ≤ 1000
  · rw [if_pos hl] at h
    obtain ⟨p0, hp0, h1⟩ := Option.bind_eq_some_iff.1 h
    obtain ⟨q0, hq0, h2⟩ := Option.bind_eq_some_iff.1 h1
    have H := Aside0.mk h2
    clear h1 h2
    have HP0 := Aside0.mk hp0
    have HQ0 := Aside0.mk hq0
    have HC := Aside0.mk hr0
    clear h hp0 hq0 hr0
    go_enter Tryd.func60, Tryd.ntmps60
    go_wp2_with fail
    go_loopg [3, 4, 12] l.length (fun gk t3 t4 t12 W => ∃ (i : Nat) (vp vq : Value) (p q : List S87), i ≤ l.length ∧ gk = l.length - i ∧ t3 = vp ∧ t4 = vq ∧ t12 = .int .i64 i ∧ Aside0 (pTo k l i = some p) ∧ Aside0 (qTo k l i = some q) ∧ Aside0 (CQ w W vp vq p q))
    case atStart => exact ⟨0, _, _, [], [], Nat.zero_le _, by omega, rfl, rfl, rfl, ⟨rfl⟩, ⟨rfl⟩, ⟨⟨Kd.N_nil _ _ _ _ _, Kd.N_nil _ _ _ _ _, Below.refl _ _⟩⟩⟩
    case round =>
      obtain ⟨i, vp, vq, p, q, hi, hgi, rfl, rfl, rfl, HPT, HQT, HI⟩ := hrel
      obtain ⟨Ap, cp, ep⟩ := Kd.N_slice HI.out.np
      obtain ⟨Aq, cq, eq⟩ := Kd.N_slice HI.out.nq
      subst ep
      subst eq
      by_cases hil : i < l.length
      · have hpe : pTo k l ((i + 1) + (l.length - (i + 1))) = some p0 := by rw [Nat.add_sub_cancel' hil]; exact HP0.out
        have hqe : qTo k l ((i + 1) + (l.length - (i + 1))) = some q0 := by rw [Nat.add_sub_cancel' hil]; exact HQ0.out
        obtain ⟨p1, hp1⟩ := pTo_some hpe
        obtain ⟨q1, hq1⟩ := qTo_some hqe
        clear hpe hqe
        have hp2 := hp1
        rw [pTo, HPT.out] at hp2
        obtain ⟨t, ht, hp2⟩ := Option.map_eq_some_iff.1 hp2
        have HT := Aside0.mk ht
        have HP1 := Aside0.mk hp1
        have HP2 := Aside0.mk hp2
        have HQ1 := Aside0.mk hq1
        have hq2 := hq1
        rw [qTo, HQT.out] at hq2
        have HQ2 := Aside0.mk hq2
        have HLP := Aside0.mk (pTo_length HPT.out)
        have hlp : p.length ≤ 1000 := by have := HLP.out; omega
        have hlq := qTo_length HQT.out
        obtain ⟨ad, e, hcell⟩ := Kd.at_int (Kd.C_below HC.out HI.out.below) i (by omega) (by omega)
        subst e
        rw [Int.toNat_natCast] at hcell
        have d1 : decide ((i : Int) < l.length) = true := decide_eq_true (by omega)
        have hi0 : (0 : Int) ≤ i := by omega
        have hi1 : (i : Int) < l.length := by omega
        clear ht hp1 hp2 hq1 hq2
        go_upto_region 6 with (first
          | (go_at_call 76; refine (tones_whole.calls k _ t.1 t.2 _ HT.out).mono ?_; rintro e w1 ⟨v1, rfl, hR1, hB1⟩; obtain ⟨A1, c1, e1⟩ := Kd.R_slice hR1; subst e1; have HR1 := Aside0.mk hR1; have HB1 := Aside0.mk hB1; clear hR1 hB1)
          | ((with_reducible refine gate_builtin (b := .append) (xs := #[.tmp 17, .tmp 20]) rfl ?_); at_builtin; refine Kd.N_append k87 (w0 := w) w.heap.size rfl (.tmp 17) (.tmp 20) 85 87 (.agg #[.int .i64 0, .slice none 0 0]) 32 rfl Tryd.underlying85 info87 rfl (by decide) (by decide) (.slice Ap p.length cp) p (mkS t) [.int .i64 t.1, .slice A1 t.2.length c1] (fun k => True ∧ some k ≠ (Value.slice Aq q.length cq).ownBlock) (fun k => wr.heap.size ≤ k ∧ k < w1.heap.size) rfl rfl ?hp ?hokp ?hfresh (HI.out.below_ HB1.out).np (HI.out.below_ HB1.out).below (HI.out.below_ HB1.out).below.size (by omega) ?_; (case hp => exact (mkS_F HR1.out).2); (case hokp => exact fun k hk => ⟨⟨trivial, own_new (Kd.N_lt HI.out.nq) hk.1⟩, own_new (Kd.N_lt HI.out.np) hk.1⟩); (case hfresh => exact fun k hk => ⟨trivial, own_new (Kd.N_lt (HI.out.below_ HB1.out).nq) hk⟩); intro v2 w2 hN hB hg hat; have HN2 := Aside0.mk hN; have HB2 := Aside0.mk hB; have HG2 := Aside0.mk hg; have HA2 := Aside0.mk hat; clear hN hB hg hat))
        have HI2 := Aside0.mk (show CQ w w2 v2 (.slice Aq q.length cq) (p ++ [mkS t]) q from ⟨HN2.out, Kd.N_after (HI.out.below_ HB1.out).nq HG2.out HA2.out, HB2.out⟩)
        clear HN2 HG2 HA2 HB2
        by_cases hpos : 0 < i
        · have hq2 := HQ2.out
          rw [Option.bind_some, if_pos hpos] at hq2
          obtain ⟨t', ht', hq2⟩ := Option.map_eq_some_iff.1 hq2
          have HT' := Aside0.mk ht'
          have HQ3 := Aside0.mk hq2
          have d2 : decide ((0 : Int) < i) = true := decide_eq_true (by omega)
          clear hq2 ht' HQ2
          go_wp2_with (first
            | (go_at_call 76; refine (tones_whole.calls k _ t'.1 t'.2 _ HT'.out).mono ?_; rintro e w3 ⟨v3, rfl, hR3, hB3⟩; obtain ⟨A3, c3, e3⟩ := Kd.R_slice hR3; subst e3; have HR3 := Aside0.mk hR3; have HB3 := Aside0.mk hB3; clear hR3 hB3)
            | ((with_reducible refine gate_builtin (b := .append) (xs := #[.tmp 24, .tmp 29]) rfl ?_); at_builtin; refine Kd.N_append k87 (w0 := w) w.heap.size rfl (.tmp 24) (.tmp 29) 85 87 (.agg #[.int .i64 0, .slice none 0 0]) 32 rfl Tryd.underlying85 info87 rfl (by decide) (by decide) (.slice Aq q.length cq) q (mkS t') [.int .i64 t'.1, .slice A3 t'.2.length c3] (fun k => True ∧ some k ≠ v2.ownBlock) (fun k => w2.heap.size ≤ k ∧ k < w3.heap.size) rfl rfl ?hp ?hokp ?hfresh (HI2.out.below_ HB3.out).nq (HI2.out.below_ HB3.out).below (HI2.out.below_ HB3.out).below.size (by omega) ?_; (case hp => exact (mkS_F HR3.out).2); (case hokp => exact fun k hk => ⟨⟨trivial, own_new (Kd.N_lt HI2.out.np) hk.1⟩, own_new (Kd.N_lt HI2.out.nq) hk.1⟩); (case hfresh => exact fun k hk => ⟨trivial, own_new (Kd.N_lt (HI2.out.below_ HB3.out).np) hk⟩); intro v4 w4 hN hB hg hat; have HN4 := Aside0.mk hN; have HB4 := Aside0.mk hB; have HG4 := Aside0.mk hg; have HA4 := Aside0.mk hat; clear hN hB hg hat))
          go_roundg (l.length - (i + 1))
          case measure => omega
          case rel => exact ⟨i + 1, v2, v4, p ++ [mkS t], q ++ [mkS t'], by omega, rfl, rfl, rfl, by go_num, ⟨by rw [HP2.out]; exact HP1.out⟩, ⟨by rw [HQ3.out]; exact HQ1.out⟩, ⟨⟨Kd.N_after (HI2.out.below_ HB3.out).np HG4.out HA4.out, HN4.out, HB4.out⟩⟩⟩
        · have hq2 := HQ2.out
          rw [Option.bind_some, if_neg hpos] at hq2
          injection hq2 with hq2
          subst hq2
          have d2 : decide ((0 : Int) < i) = false := decide_eq_false (by omega)
          go_wp2_with fail
          go_roundg (l.length - (i + 1))
          case measure => omega
          case rel => exact ⟨i + 1, v2, _, p ++ [mkS t], q, by omega, rfl, rfl, rfl, by go_num, ⟨by rw [HP2.out]; exact HP1.out⟩, HQ1, HI2⟩
      · have hie : i = l.length := by omega
        subst hie
        have hpp : p = p0 := by
          have h1 := HPT.out
          rw [HP0.out] at h1
          injection h1 with h1
          exact h1.symm
        have hqq : q = q0 := by
          have h1 := HQT.out
          rw [HQ0.out] at h1
          injection h1 with h1
          exact h1.symm
        subst hpp
        subst hqq
        have hlq := qTo_length HQT.out
        have HLP := Aside0.mk (pTo_length HPT.out)
        have d1 : decide ((l.length : Int) < l.length) = false := decide_eq_false (by omega)
        have hcq : q.length ≤ cq := (Kd.N_reads' HI.out.nq).2.1
        have hle := trimLen_le q q.length
        clear HP0 HQ0 HPT HQT
        go_upto_region 11 with (go_at_call 77; refine (trimL_calls Aq q.length cq q _ (by omega) hcq (fun i hi => by
          obtain ⟨ad, Ai, ci, eA, p0, -⟩ := at_T87 (Kd.N_reads' HI.out.nq).2.2 (i : Int) (by omega) (by omega)
          rw [Int.toNat_natCast] at p0
          exact ⟨ad, eA, cell_alloc_far' _ p0⟩)).mono ?_; rintro e w2 ⟨rfl, rfl⟩)
        have HH := Aside0.mk (show CO w (wr.alloc (.cells #[.slice Ap p.length cp] 85)) (.slice (some ⟨wr.heap.size, 0, none⟩) 1 1) [p] Ap cp p Aq cq (q.take (trimLen q q.length)) from by
          have hfar : ∀ {ok : Nat → Prop}, ∀ k, ok k ∧ k < wr.heap.size → True ∧ some k ≠ (Value.slice (some ⟨wr.heap.size, 0, none⟩) 1 1).ownBlock := fun k hk => ⟨trivial, fun e => by
            have e' : k = wr.heap.size := by simpa [Value.ownBlock] using e
            have := hk.2
            omega⟩
          have hlt : (q.take (trimLen q q.length)).length = trimLen q q.length := by rw [List.length_take]; omega
          have hnq : Kd.N k87 87 wr w.heap.size (fun k => True ∧ some k ≠ (Value.slice Ap p.length cp).ownBlock) (.slice Aq (q.take (trimLen q q.length)).length cq) (q.take (trimLen q q.length)) := by rw [hlt]; exact Kd.N_take HI.out.nq hle
          exact ⟨N_one HI.out.below.size (Kd.N_F HI.out.np) (Kd.N_reads' HI.out.np).2.1, Kd.F_alloc (Kd.F_mono (Kd.F_bound (Kd.N_F HI.out.np)) hfar) _, Kd.F_alloc (Kd.F_mono (Kd.F_bound (Kd.N_F hnq)) hfar) _, (Kd.N_reads' HI.out.np).2.1, by omega, below_alloc HI.out.below _⟩)
        have htl : (q.take (trimLen q q.length)).length = trimLen q q.length := by rw [List.length_take]; omega
        clear HI
        go_loopg [3, 4, 7] f (fun gk t3 t4 t7 W => ∃ (f' : Nat) (Ao : Option Addr) (co : Nat) (out : List (List S87)) (Ap : Option Addr) (cp : Nat) (p : List S87) (Aq : Option Addr) (cq : Nat) (q : List S87), gk = f' ∧ t3 = .slice Ap p.length cp ∧ t4 = .slice Aq q.length cq ∧ t7 = .slice Ao out.length co ∧ Aside0 (chainL k m f' p q out = some r) ∧ Aside0 (CO w W (.slice Ao out.length co) out Ap cp p Aq cq q))
        case atStart => exact ⟨f, _, _, [p], Ap, cp, p, Aq, cq, q.take (trimLen q q.length), rfl, rfl, by rw [htl], rfl, H, HH⟩
        case round =>
          clear HH H htl hle hcq hlq d1 hgi
          obtain ⟨f', Ao, co, out, Ap2, cp2, p2, Aq2, cq2, q2, hgk, rfl, rfl, rfl, H, HO⟩ := hrel
          by_cases hq2 : 0 < q2.length
          · obtain ⟨f2, rfl⟩ : ∃ f2, f' = f2 + 1 := by
              cases f' with
              | zero => have := H.out; simp [chainL] at this
              | succ f2 => exact ⟨f2, rfl⟩
            have h := H.out
            rw [chainL, if_pos hq2] at h
            obtain ⟨r2, hrest, h⟩ := Option.bind_eq_some_iff.1 h
            by_cases hbd : r2.length ≤ 1000 ∧ out.length ≤ 1000
            · rw [if_pos hbd] at h
              obtain ⟨hr2, hol⟩ := hbd
              have HRE := Aside0.mk hrest
              have HH := Aside0.mk h
              clear h hrest H
              have d3 : decide ((0 : Int) < q2.length) = true := decide_eq_true (by omega)
              go_wp2_with (first
                | ((with_reducible refine gate_builtin (b := .append) (xs := #[.tmp 39, .tmp 41]) rfl ?_); at_builtin; refine Kd.N_append (Kd.slice 87 k87) (w0 := w) w.heap.size rfl (.tmp 39) (.tmp 41) 67 85 (.slice none 0 0) 24 rfl underlying67_ info85 rfl (by decide) (by decide) (.slice Ao out.length co) out q2 [.slice Aq2 q2.length cq2] (fun _ => True) (fun k => True ∧ some k ≠ (Value.slice Ao out.length co).ownBlock) rfl rfl (slice_FK HO.out.fq HO.out.lq) (fun k hk => hk) (fun _ _ => trivial) HO.out.no HO.out.below HO.out.below.size (by omega) ?_; intro v4 w4 hN hB hg hat; have HN4 := Aside0.mk hN; have HB4 := Aside0.mk hB; have HFP := Aside0.mk (Kd.F_after HO.out.fp hg hat); have HFQ := Aside0.mk (Kd.F_after HO.out.fq hg hat); clear hN hB hg hat)
                | (go_at_call 78; refine (rest_calls (fun k => (True ∧ some k ≠ v4.ownBlock) ∧ k < w4.heap.size) k m Ap2 cp2 p2 Aq2 cq2 q2 r2 _ ⟨_, _, rfl, HO.out.lp, Kd.F_bound HFP.out⟩ (Kd.F_now HFQ.out) HO.out.lq HRE.out).mono ?_; rintro e w5 ⟨v5, rfl, hN5, hB5⟩; obtain ⟨A5, c5, e5⟩ := Kd.N_slice hN5; subst e5; have HCN := Aside0.mk (show CN w w5 w4.heap.size v4 (out ++ [q2]) Aq2 cq2 q2 (.slice A5 r2.length c5) r2 from ⟨Kd.N_below (Kd.N_bound HN4.out) hB5, Kd.F_below (Kd.F_bound HFQ.out) hB5, HO.out.lq, hN5, Kd.N_lt HN4.out, HB4.out.size, below_then HB4.out HB4.out.size hB5⟩); clear hN5 hB5))
              go_loopg [48] r2.length (fun gk t48 W => ∃ i : Nat, i ≤ r2.length ∧ gk = r2.length - i ∧ t48 = .int .i64 i ∧ Aside0 (CN w W w4.heap.size v4 (out ++ [q2]) Aq2 cq2 q2 (.slice A5 r2.length c5) (negTo r2 i)))
              case atStart => exact ⟨0, Nat.zero_le _, by omega, rfl, HCN⟩
              case round =>
                clear HCN
                obtain ⟨i, hi, hgi, rfl, HC3⟩ := hrel
                by_cases hir : i < r2.length
                · obtain ⟨g, cap, e0, hgb, hgl, cells, hcells⟩ := Kd.N_form HC3.out.nn (by rw [negTo_length]; omega)
                  injection e0 with e0 _ e1
                  clear e1
                  subst e0
                  obtain ⟨Ai, ci, p0, p1, hci, hFi, fr0, fr1⟩ := N_cells HC3.out.nn i hir
                  have d4 : decide ((i : Int) < r2.length) = true := decide_eq_true (by omega)
                  have hi0 : (0 : Int) ≤ i := by omega
                  have hi1 : (i : Int) < r2.length := by omega
                  clear hcells hFi
                  go_wp2_with fail
                  go_roundg (r2.length - (i + 1))
                  case measure => omega
                  case rel => exact ⟨i + 1, by omega, rfl, by go_num, ⟨HC3.out.sign i hir _ (by rfl) _ (by rw [← i64_w])⟩⟩
                · have hie : i = r2.length := by omega
                  subst hie
                  have d4 : decide ((r2.length : Int) < r2.length) = false := decide_eq_false (by omega)
                  go_wp2_with fail
                  obtain ⟨A4, c4, e4⟩ := Kd.N_slice HC3.out.no
                  have hml : (r2.map negS).length = r2.length := List.length_map ..
                  go_roundg f2
                  case measure => omega
                  case rel =>
                    refine ⟨f2, A4, c4, out ++ [q2], Aq2, cq2, q2, A5, c5, r2.map negS, rfl, rfl, by rw [hml], e4, HH, ⟨?_⟩⟩
                    rw [← e4]
                    have hnn := HC3.out.nn
                    rw [negTo_all] at hnn
                    have hnl := Kd.N_reads' hnn
                    refine ⟨Kd.N_mono HC3.out.no (fun _ _ => trivial), Kd.F_mono HC3.out.fq (fun k hk => hk.1), ?_, HC3.out.lq, by rw [hml]; exact hnl.2.1, HC3.out.below⟩
                    rw [hml]
                    exact Kd.F_mono (Kd.N_F hnn) (fun k hk => by
                      rcases hk with hk | hk
                      · exact hk.1
                      · exact ⟨trivial, own_new HC3.out.old hk⟩)
            · rw [if_neg hbd] at h
              cases h
          · have h := H.out
            cases f' with
            | zero => simp [chainL] at h
            | succ f2 =>
              rw [chainL, if_neg hq2] at h
              injection h with h
              subst h
              have d3 : decide ((0 : Int) < q2.length) = false := decide_eq_false (by omega)
              go_wp2_with fail
              go_ret
              exact ⟨_, rfl, HO.out.no, HO.out.below⟩
  · rw [if_neg hl] at h
    cases h
end Go.Proofs.YtglalkenkmijkaaDoor.Hand
/- slices.Min, slices.Max at ints; asked: walks. -/
namespace Go.Proofs.YtglalkenkmijkaaDoor.Hand
open Go.RowKit Go.Proofs.YtglalkenkmijkaaDoorW.PrintWords Go.Proofs.YtglalkenkmijkaaDoorW.PrintLast Go.Proofs.YtglalkenkmijkaaDoorW.PrintMore
set_option linter.unusedVariables false
set_option linter.unusedSimpArgs false

def minTo (l : List Int) : Nat → Int
  | 0 => rd l 0
  | j + 1 => if rd l ((j + 1 : Nat) : Int) < minTo l j then rd l ((j + 1 : Nat) : Int) else minTo l j
def maxTo (l : List Int) : Nat → Int
  | 0 => rd l 0
  | j + 1 => if maxTo l j < rd l ((j + 1 : Nat) : Int) then rd l ((j + 1 : Nat) : Int) else maxTo l j

set_option maxHeartbeats 4000000 in
theorem min_calls (A : Option Addr) (c : Nat) (l : List Int) (w : World) (hC : Kd.C (Kd.int .i64) w A l.length l) (hl : 0 < l.length) (hl8 : l.length ≤ 8) :
    Calls Tryd.prog 74 #[.slice A l.length c] w fun e w' => e = .returned (.int .i64 (minTo l (l.length - 1))) ∧ w = w' := by
  obtain ⟨ad, e, he⟩ := Kd.at_int hC 0 (by omega) (by omega)
  subst e
  have he' : w.cell? ad = some (.int .i64 (rd l 0)) := by simpa [Addr.add] using he
  clear he
  have hd : decide ((l.length : Int) < 1) = false := by simp; omega
  have HC := Aside0.mk hC
  clear hC
  go_enter Tryd.func74, Tryd.ntmps74
  go_wp2_with fail
  go_loopg [3, 4] l.length (fun gk v3 v4 W => ∃ k : Nat, k + 1 ≤ l.length ∧ gk = l.length - k ∧ v3 = .int .i64 (minTo l k) ∧ v4 = .int .i64 (k + 1) ∧ Aside0 (W = w))
  case atStart => exact ⟨0, by omega, rfl, rfl, rfl, ⟨rfl⟩⟩
  case round =>
    obtain ⟨k, hk, rfl, rfl, rfl, HW⟩ := hrel
    have hw := HW.out
    subst hw
    clear HW
    by_cases hlt : k + 1 < l.length
    · obtain ⟨ad', e, hel⟩ := Kd.at_int HC.out ((k : Int) + 1) (by omega) (by omega)
      injection e with e
      subst e
      have hw1 : IntKind.i64.wrap ((k : Int) + 1 + 1) = k + 1 + 1 := IntWalk.i64_in _ (by omega)
      have hel' : wr.cell? (ad.add (k + 1)) = some (.int .i64 (rd l (k + 1))) := by
        have e : ((k : Int) + 1).toNat = k + 1 := by omega
        rw [e] at hel
        exact hel
      have hel2 : wr.cell? ⟨ad.block, ad.off + (k + 1), none⟩ = some (.int .i64 (rd l (k + 1))) := by simpa [Addr.add] using hel'
      clear hel
      go_wp2_with fail
      all_goals
        go_roundg (l.length - (k + 1))
        case measure => omega
        case rel => exact ⟨k + 1, by omega, rfl, by simp only [minTo, Int.natCast_add, Int.cast_ofNat_Int]; first | rw [if_pos (by omega)] | rw [if_neg (by omega)], by go_num, ⟨rfl⟩⟩
    · have hke : l.length - 1 = k := by omega
      go_wp2_with fail
      go_ret
      exact ⟨by rw [hke]; rfl, rfl⟩
set_option maxHeartbeats 4000000 in
theorem max_calls (A : Option Addr) (c : Nat) (l : List Int) (w : World) (hC : Kd.C (Kd.int .i64) w A l.length l) (hl : 0 < l.length) (hl8 : l.length ≤ 8) :
    Calls Tryd.prog 75 #[.slice A l.length c] w fun e w' => e = .returned (.int .i64 (maxTo l (l.length - 1))) ∧ w = w' := by
  obtain ⟨ad, e, he⟩ := Kd.at_int hC 0 (by omega) (by omega)
  subst e
  have he' : w.cell? ad = some (.int .i64 (rd l 0)) := by simpa [Addr.add] using he
  clear he
  have hd : decide ((l.length : Int) < 1) = false := by simp; omega
  have HC := Aside0.mk hC
  clear hC
  go_enter Tryd.func75, Tryd.ntmps75
  go_wp2_with fail
  go_loopg [3, 4] l.length (fun gk v3 v4 W => ∃ k : Nat, k + 1 ≤ l.length ∧ gk = l.length - k ∧ v3 = .int .i64 (maxTo l k) ∧ v4 = .int .i64 (k + 1) ∧ Aside0 (W = w))
  case atStart => exact ⟨0, by omega, rfl, rfl, rfl, ⟨rfl⟩⟩
  case round =>
    obtain ⟨k, hk, rfl, rfl, rfl, HW⟩ := hrel
    have hw := HW.out
    subst hw
    clear HW
    by_cases hlt : k + 1 < l.length
    · obtain ⟨ad', e, hel⟩ := Kd.at_int HC.out ((k : Int) + 1) (by omega) (by omega)
      injection e with e
      subst e
      have hw1 : IntKind.i64.wrap ((k : Int) + 1 + 1) = k + 1 + 1 := IntWalk.i64_in _ (by omega)
      have hel' : wr.cell? (ad.add (k + 1)) = some (.int .i64 (rd l (k + 1))) := by
        have e : ((k : Int) + 1).toNat = k + 1 := by omega
        rw [e] at hel
        exact hel
      have hel2 : wr.cell? ⟨ad.block, ad.off + (k + 1), none⟩ = some (.int .i64 (rd l (k + 1))) := by simpa [Addr.add] using hel'
      clear hel
      go_wp2_with fail
      all_goals
        go_roundg (l.length - (k + 1))
        case measure => omega
        case rel => exact ⟨k + 1, by omega, rfl, by simp only [maxTo, Int.natCast_add, Int.cast_ofNat_Int]; first | rw [if_pos (by omega)] | rw [if_neg (by omega)], by go_num, ⟨rfl⟩⟩
    · have hke : l.length - 1 = k := by omega
      go_wp2_with fail
      go_ret
      exact ⟨by rw [hke]; rfl, rfl⟩

def askedF (l : List Int) : Int := if 8 < l.length then 3 else if 0 < l.length ∧ (rd l (l.length - 1) = 0 ∨ minTo l (l.length - 1) < -10000 ∨ 10000 < maxTo l (l.length - 1)) then 2 else 0
set_option maxHeartbeats 4000000 in
theorem asked_calls (A0 : Option Addr) (c0 : Nat) (l0 : List Int) (r : Int) (w : World) (hr0 : Kd.C (Kd.int .i64) w A0 l0.length l0) (hc0 : l0.length ≤ c0) (h : askedF l0 = r) :
    Calls Tryd.prog 58 #[.slice A0 l0.length c0] w fun e w' => e = .returned (.int .i64 r) ∧ w = w' := by
  unfold askedF at h
  have HC := Aside0.mk hr0
  clear hr0
  by_cases h8 : 8 < l0.length
  · rw [if_pos h8] at h
    subst h
    have d8 : decide ((8 : Int) < l0.length) = true := by simp; omega
    go_enter Tryd.func58, Tryd.ntmps58
    go_wp2_with fail
    go_ret
    exact ⟨rfl, rfl⟩
  · rw [if_neg h8] at h
    have d8 : decide ((8 : Int) < l0.length) = false := by simp; omega
    by_cases h0 : 0 < l0.length
    · have d0 : decide ((0 : Int) < l0.length) = true := by simp; omega
      obtain ⟨ad, e, hel⟩ := Kd.at_int HC.out ((l0.length : Int) - 1) (by omega) (by omega)
      subst e
      have hw1 : IntKind.i64.wrap ((l0.length : Int) - 1) = l0.length - 1 := IntWalk.i64_in _ (by omega)
      have hel' : w.cell? (ad.add (l0.length - 1)) = some (.int .i64 (rd l0 (l0.length - 1))) := by
        have e : ((l0.length : Int) - 1).toNat = l0.length - 1 := by omega
        rw [e] at hel
        exact hel
      clear hel
      by_cases hz : rd l0 (l0.length - 1) = 0
      · rw [if_pos ⟨h0, .inl hz⟩] at h
        subst h
        have dz : (rd l0 (l0.length - 1) == 0) = true := by simpa using hz
        clear h8
        rw [hz] at hel'
        go_enter Tryd.func58, Tryd.ntmps58
        go_wp2_with fail
        go_ret
        exact ⟨rfl, rfl⟩
      · have dz : (rd l0 (l0.length - 1) == 0) = false := by simpa using hz
        generalize hm : minTo l0 (l0.length - 1) = mi at h
        generalize hx : maxTo l0 (l0.length - 1) = ma at h
        have hm' : ∀ w, Kd.C (Kd.int .i64) w (some ad) l0.length l0 → Calls Tryd.prog 74 #[.slice (some ad) l0.length c0] w fun e w' => e = .returned (.int .i64 mi) ∧ w = w' := fun w q => hm ▸ min_calls _ _ _ w q h0 (by omega)
        have hx' : ∀ w, Kd.C (Kd.int .i64) w (some ad) l0.length l0 → Calls Tryd.prog 75 #[.slice (some ad) l0.length c0] w fun e w' => e = .returned (.int .i64 ma) ∧ w = w' := fun w q => hx ▸ max_calls _ _ _ w q h0 (by omega)
        have Hm := Aside0.mk hm'
        have Hx := Aside0.mk hx'
        clear hm' hx' hm hx
        by_cases c1 : mi < -10000
        · rw [if_pos ⟨h0, .inr (.inl c1)⟩] at h
          subst h
          have dm : decide (mi < -10000) = true := decide_eq_true c1
          go_enter Tryd.func58, Tryd.ntmps58
          go_wp2_with (first
            | (go_at_call 74; refine (Hm.out _ HC.out).mono ?_; rintro e w' ⟨rfl, rfl⟩)
            | (go_at_call 75; refine (Hx.out _ HC.out).mono ?_; rintro e w' ⟨rfl, rfl⟩))
          go_ret
          exact ⟨rfl, rfl⟩
        · have dm : decide (mi < -10000) = false := decide_eq_false c1
          by_cases c2 : 10000 < ma
          · rw [if_pos ⟨h0, .inr (.inr c2)⟩] at h
            subst h
            have dx : decide (10000 < ma) = true := decide_eq_true c2
            go_enter Tryd.func58, Tryd.ntmps58
            go_wp2_with (first
              | (go_at_call 74; refine (Hm.out _ HC.out).mono ?_; rintro e w' ⟨rfl, rfl⟩)
              | (go_at_call 75; refine (Hx.out _ HC.out).mono ?_; rintro e w' ⟨rfl, rfl⟩))
            go_ret
            exact ⟨rfl, rfl⟩
          · rw [if_neg (fun q => q.2.elim hz (fun q => q.elim c1 c2))] at h
            subst h
            have dx : decide (10000 < ma) = false := decide_eq_false c2
            go_enter Tryd.func58, Tryd.ntmps58
            go_wp2_with (first
              | (go_at_call 74; refine (Hm.out _ HC.out).mono ?_; rintro e w' ⟨rfl, rfl⟩)
              | (go_at_call 75; refine (Hx.out _ HC.out).mono ?_; rintro e w' ⟨rfl, rfl⟩))
            go_ret
            exact ⟨rfl, rfl⟩
    · rw [if_neg (fun q => h0 q.1)] at h
      subst h
      have d0 : decide ((0 : Int) < l0.length) = false := decide_eq_false (by omega)
      go_enter Tryd.func58, Tryd.ntmps58
      go_wp2_with fail
      go_ret
      exact ⟨rfl, rfl⟩
end Go.Proofs.YtglalkenkmijkaaDoor.Hand
/- The contract of 'at', in the printed form. -/
namespace Go.Proofs.YtglalkenkmijkaaDoor.PAll
open Go.RowKit Go.Proofs.YtglalkenkmijkaaDoorW.PrintWords Go.Proofs.YtglalkenkmijkaaDoorW.PrintLast Go.Proofs.YtglalkenkmijkaaDoorW.PrintMore
open Hand
set_option linter.unusedVariables false
set_option linter.unusedSimpArgs false
/-- All values that so many rounds of 'at' can bring, whatever numbers of the list come: none if one of them fails. -/
def lvl (k : Nat) (X : Int × List Int) (l : List S87) : Nat → Option (List (Int × List Int))
  | 0 => some [(0, [])]
  | m + 1 => (lvl k X l m).bind fun L => (L.flatMap fun a => l.map fun b => (a, b)).mapM fun p => stepF k X p.1 p.2
def tones_list_at.f (k : Nat) (l0 : List S87) (a1 : Int) : Option Int :=
  (tones_whole.f k a1).bind fun X => if l0.length ≤ 1000 then (lvl k X l0 l0.length).bind fun _ => (accOf k X l0.reverse).map (·.1) else none
theorem mapM_mem {α β : Type} {f : α → Option β} : ∀ {l : List α} {r : List β}, l.mapM f = some r → ∀ a, a ∈ l → ∃ b, f a = some b ∧ b ∈ r
  | [], _, _, a, ha => by cases ha
  | x :: l, r, h, a, ha => by
    rw [List.mapM_cons] at h
    obtain ⟨b, hb, h⟩ := Option.bind_eq_some_iff.1 h
    obtain ⟨rs, hrs, h⟩ := Option.bind_eq_some_iff.1 h
    injection h with h
    subst h
    rcases List.mem_cons.1 ha with rfl | ha
    · exact ⟨b, hb, List.mem_cons_self⟩
    · obtain ⟨c, hc, hm⟩ := mapM_mem hrs a ha
      exact ⟨c, hc, List.mem_cons_of_mem _ hm⟩
theorem mapM_mono {α β : Type} {f g : α → Option β} (h : ∀ a, LeO (f a) (g a)) : ∀ l : List α, LeO (l.mapM f) (l.mapM g)
  | [] => LeO.refl _
  | x :: l => by
    rw [List.mapM_cons, List.mapM_cons]
    exact LeO.bind (h x) fun _ => LeO.bind (mapM_mono h l) fun _ => LeO.refl _
theorem stepF_mono (k : Nat) (X acc : Int × List Int) (b : S87) : LeO (stepF k X acc b) (stepF (k + 1) X acc b) :=
  LeO.bind (tones_big_times.mono _ _ _ _ _) fun _ => tones_big_plus.mono _ _ _ _ _
theorem foldF_mono (k : Nat) (X : Int × List Int) : ∀ (l : List S87) (a : Int × List Int), LeO (l.foldlM (stepF k X) a) (l.foldlM (stepF (k + 1) X) a)
  | [], a => LeO.refl _
  | b :: l, a => by
    rw [List.foldlM_cons, List.foldlM_cons]
    exact LeO.bind (stepF_mono k X a b) fun a' => foldF_mono k X l a'
theorem lvl_mono (k : Nat) (X : Int × List Int) (l : List S87) : ∀ m, LeO (lvl k X l m) (lvl (k + 1) X l m)
  | 0 => LeO.refl _
  | m + 1 => LeO.bind (lvl_mono k X l m) fun _ => mapM_mono (fun (p : (Int × List Int) × S87) => stepF_mono k X p.1 p.2) _
theorem lvl_le (k : Nat) (X : Int × List Int) (l : List S87) : ∀ d m, (lvl k X l (m + d)).isSome = true → (lvl k X l m).isSome = true
  | 0, m, h => h
  | d + 1, m, h => lvl_le k X l d m (by
      rw [Option.isSome_iff_exists] at h ⊢
      obtain ⟨L, h⟩ := h
      obtain ⟨L', h1, _⟩ := Option.bind_eq_some_iff.1 (show (lvl k X l (m + d)).bind _ = some L from h)
      exact ⟨L', h1⟩)
theorem tones_list_at.mono : ∀ a0 a1 k, LeO (tones_list_at.f k a0 a1) (tones_list_at.f (k + 1) a0 a1) := by
  intro a0 a1 k
  unfold tones_list_at.f
  exact LeO.bind (tones_whole.mono _ _) fun X => LeO.ite (LeO.bind (lvl_mono k X a0 _) fun _ => LeO.map _ (foldF_mono k X _ _)) (LeO.refl _)
theorem tones_list_at.calls (k : Nat) (A0 : Option Addr) (c0 : Nat) (l0 : List S87) (a1 r : Int) (w : World) (hr0 : Kd.C k87 w A0 l0.length l0) (hc0 : l0.length ≤ c0) (h : tones_list_at.f k l0 a1 = some r) :
    Calls Tryd.prog 97 #[.slice A0 l0.length c0, .int .i64 a1] w fun e w' => e = .returned (.int .i64 r) ∧ Below w.heap.size w w' := by
  unfold tones_list_at.f at h
  obtain ⟨X, hX, h⟩ := Option.bind_eq_some_iff.1 h
  by_cases hl : l0.length ≤ 1000
  · rw [if_pos hl] at h
    obtain ⟨LL, hL, h⟩ := Option.bind_eq_some_iff.1 h
    obtain ⟨acc, ha, hr⟩ := Option.map_eq_some_iff.1 h
    refine at_calls k A0 c0 l0 a1 r w hr0 hc0 hl X hX (fun m acc => ∃ L, lvl k X l0 m = some L ∧ acc ∈ L) ⟨_, rfl, List.mem_singleton.2 rfl⟩ ?_ acc ha hr
    rintro m hm acc ⟨L, h1, h2⟩ b hb
    have h3 := lvl_le k X l0 (l0.length - (m + 1)) (m + 1) (by rw [Nat.add_sub_cancel' hm, hL]; rfl)
    obtain ⟨L', h3⟩ := Option.isSome_iff_exists.1 h3
    have h4 : (L.flatMap fun a => l0.map fun b => (a, b)).mapM (fun p => stepF k X p.1 p.2) = some L' := by
      have := h3
      rw [lvl, h1] at this
      exact this
    obtain ⟨c, hc, hm'⟩ := mapM_mem h4 (acc, b) (List.mem_flatMap.2 ⟨acc, h2, List.mem_map.2 ⟨b, hb, rfl⟩⟩)
    exact ⟨c, hc, L', h3, hm'⟩
  · rw [if_neg hl] at h
    cases h
end Go.Proofs.YtglalkenkmijkaaDoor.PAll
namespace Go.Proofs.YtglalkenkmijkaaDoor.PAll
open Go.RowKit Go.Proofs.YtglalkenkmijkaaDoorW.PrintWords Go.Proofs.YtglalkenkmijkaaDoorW.PrintLast Go.Proofs.YtglalkenkmijkaaDoorW.PrintMore
attribute [local go_sem] max2_int min2_int max_two min_two max_three min_three max_four min_four   -- for this text's walks alone
set_option linter.unusedVariables false
set_option linter.unusedSimpArgs false

/-! ### tones_list_near: function 79 -/
mutual
def tones_list_near.l0 : Nat → List (S87) → Int → Option (Int)
  | 0, _, _ => none
  | k + 1, x0, x1 => if (x0.length : Int) > 0 then ((tones_list_at.f k x0 x1).bind fun t192 => (if t192 = 0 then (tones_list_near.l1 k x1 ([] : List (S87)) x0 (x0.length : Int) 0) else (some t192))) else (some 0)
def tones_list_near.l1 : Nat → Int → List (S87) → List (S87) → Int → Int → Option (Int)
  | 0, _, _, _, _, _ => none
  | k + 1, x1, x6, x18, x19, x20 => if x20 < x19 then (if 0 ≤ x20 then (if x20 < (x18.length : Int) then (if x20 > 0 then ((tones_whole.f k x20).bind fun bt195 => ((tones_big_times.f k ((rd_T87 x18 x20).f0) ((rd_T87 x18 x20).f1) bt195.1 bt195.2).bind fun bt199 => (if x6.length < 4398046511104 then (tones_list_near.l1 k x1 (x6 ++ [(⟨bt199.1, bt199.2⟩ : S87)]) x18 x19 (wrap64 (x20 + 1))) else (none)))) else (tones_list_near.l1 k x1 x6 x18 x19 (wrap64 (x20 + 1)))) else (none)) else (none)) else (tones_list_near.l0 k x6 x1)
end
def tones_list_near.f (k : Nat) (l0 : List (S87)) (a1 : Int) : Option (Int) := tones_list_near.l0 k l0 a1
theorem tones_list_near.mono_l : ∀ k, (∀ y0 y1, LeO (tones_list_near.l0 k y0 y1) (tones_list_near.l0 (k + 1) y0 y1)) ∧ (∀ y0 y1 y2 y3 y4, LeO (tones_list_near.l1 k y0 y1 y2 y3 y4) (tones_list_near.l1 (k + 1) y0 y1 y2 y3 y4))
  | 0 => ⟨fun _ _ r h => by simp [tones_list_near.l0] at h, fun _ _ _ _ _ r h => by simp [tones_list_near.l1] at h⟩
  | k + 1 => by
    obtain ⟨ih0, ih1⟩ := tones_list_near.mono_l k
    refine ⟨?_, ?_⟩
    · intro y0 y1
      unfold tones_list_near.l0
      repeat' first
      | (with_reducible exact ih0 _ _)
      | (with_reducible exact ih1 _ _ _ _ _)
      | (with_reducible exact tones_big_times.mono _ _ _ _ _)
      | (with_reducible exact tones_list_at.mono _ _ _)
      | (with_reducible exact tones_whole.mono _ _)
      | (with_reducible exact LeO.refl _)
      | (with_reducible exact LeO.none _)
      | (with_reducible refine LeO.ite ?_ ?_)
      | (with_reducible refine LeO.bind ?_ (fun _ => ?_))
      | exact ih0 _ _
      | exact ih1 _ _ _ _ _
      | exact tones_big_times.mono _ _ _ _ _
      | exact tones_list_at.mono _ _ _
      | exact tones_whole.mono _ _
      | exact LeO.none _
      | refine LeO.ite ?_ ?_
      | refine LeO.bind ?_ (fun _ => ?_)
    · intro y0 y1 y2 y3 y4
      unfold tones_list_near.l1
      repeat' first
      | (with_reducible exact ih0 _ _)
      | (with_reducible exact ih1 _ _ _ _ _)
      | (with_reducible exact tones_big_times.mono _ _ _ _ _)
      | (with_reducible exact tones_list_at.mono _ _ _)
      | (with_reducible exact tones_whole.mono _ _)
      | (with_reducible exact LeO.refl _)
      | (with_reducible exact LeO.none _)
      | (with_reducible refine LeO.ite ?_ ?_)
      | (with_reducible refine LeO.bind ?_ (fun _ => ?_))
      | exact ih0 _ _
      | exact ih1 _ _ _ _ _
      | exact tones_big_times.mono _ _ _ _ _
      | exact tones_list_at.mono _ _ _
      | exact tones_whole.mono _ _
      | exact LeO.none _
      | refine LeO.ite ?_ ?_
      | refine LeO.bind ?_ (fun _ => ?_)
theorem tones_list_near.mono : ∀ a0 a1 k, LeO (tones_list_near.f k a0 a1) (tones_list_near.f (k + 1) a0 a1) := by
  intro a0 a1 k
  obtain ⟨ih0, ih1⟩ := tones_list_near.mono_l k
  unfold tones_list_near.f
  repeat' first
      | (with_reducible exact ih0 _ _)
      | (with_reducible exact ih1 _ _ _ _ _)
      | (with_reducible exact tones_big_times.mono _ _ _ _ _)
      | (with_reducible exact tones_list_at.mono _ _ _)
      | (with_reducible exact tones_whole.mono _ _)
      | (with_reducible exact LeO.refl _)
      | (with_reducible exact LeO.none _)
      | (with_reducible refine LeO.ite ?_ ?_)
      | (with_reducible refine LeO.bind ?_ (fun _ => ?_))
      | exact ih0 _ _
      | exact ih1 _ _ _ _ _
      | exact tones_big_times.mono _ _ _ _ _
      | exact tones_list_at.mono _ _ _
      | exact tones_whole.mono _ _
      | exact LeO.none _
      | refine LeO.ite ?_ ?_
      | refine LeO.bind ?_ (fun _ => ?_)
def tones_list_near.T10 : Bool × List (List Nat × List Nat) := (true, [([], []), ([], []), ([], []), ([2], [2]), ([1, 3, 3], [1, 3]), ([4], [4]), ([0, 5, 4], [0, 5]), ([6, 6, 0, 1, 2, 3, 4, 5, 6], [0, 6])])
def tones_list_near.B10 : List Nat := [0, 0, 0, 4, 14, 30, 63, 127]
theorem tones_list_near.tab10 : rtab .any (opsOf Tryd.f79 10) = tones_list_near.T10 := by kernel_rfl
theorem tones_list_near.bits10 : waitsOk tones_list_near.T10.2 tones_list_near.B10 = true := by kernel_rfl
set_option maxHeartbeats 8000000 in
set_option maxRecDepth 100000 in
theorem tones_list_near.calls (k : Nat) (P0_ : Nat → Prop) (A0 : Option Addr) (c0 : Nat) (l0 : List (S87)) (a1 : Int) (r : Int) (w : World) (hs0 : Kd.V k87 87 w w.heap.size (fun k_ => P0_ k_) (.slice A0 l0.length c0) l0) (h : tones_list_near.f k l0 a1 = some r) :
    Calls Tryd.prog 79 #[.slice A0 l0.length c0, .int .i64 a1] w fun e w' => e = .returned (.int .i64 r) ∧ Below w.heap.size w w' := by
  have hu87 := Tryd.underlying87
  have HO0 := Aside0.mk (show Kd.V k87 87 w w.heap.size (fun k_ => (P0_ k_ ∨ w.heap.size ≤ k_)) (.slice A0 l0.length c0) l0 from Kd.V_mono hs0 (fun k_ hk => .inl hk))
  have HB := Aside0.mk (Below.refl w.heap.size w)
  have H : (tones_list_near.l0 k l0 a1) = some r := h
  clear h
  have H' := Aside0.mk H
  clear H
  go_enter Tryd.func79, Tryd.ntmps79
  go_wp2
  go_loopg [0] k (fun kq v0 w' => ∃ (x0_1 : List (S87)), Aside0 (tones_list_near.l0 kq x0_1 a1 = some r) ∧ Aside0 (kq ≤ k) ∧ Aside0 (Kd.V k87 87 w' w.heap.size (fun k_ => (P0_ k_ ∨ w.heap.size ≤ k_)) v0 x0_1) ∧ Aside0 (Below w.heap.size w w'))
  case atStart => exact ⟨(l0), H', ⟨Nat.le_refl _⟩, ⟨by (with_reducible repeat (first | apply Kd.V_alloc | apply Kd.V_drewN | apply Kd.V_drew)); exact HO0.out⟩, ⟨by repeat (first | (with_reducible first | exact HB.out | apply below_alloc | apply pw_below_drewN | apply below_drew1) | exact HB.out)⟩⟩
  case round =>
    clear H'
    try clear p2
    obtain ⟨x0_1, HA, HK1, HO_0, HB⟩ := hrel
    cases gk with
    | zero => exact absurd HA.out (by simp [tones_list_near.l0])
    | succ k1 =>
      have H := HA.out
      clear HA
      simp only [tones_list_near.l0] at H
      by_cases c3 : (x0_1.length : Int) > 0
      · rw [if_pos c3] at H
        have c3b0 : decide (0 < (x0_1.length : Int)) = true := decide_eq_true c3
        have c3b1 : decide (0 < x0_1.length) = true := decide_eq_true (by omega)
        clear c3
        replace H := Option.bind_eq_some_iff.mp H
        obtain ⟨t192, A40, H⟩ := H
        replace H : (if t192 = 0 then (tones_list_near.l1 k1 a1 ([] : List (S87)) x0_1 (x0_1.length : Int) 0) else (some t192)) = some r := H
        have A4 := Aside0.mk A40
        clear A40
        by_cases c5 : t192 = 0
        · rw [if_pos c5] at H
          have c5b0 : (t192 == 0) = true := beq_iff_eq.mpr c5
          have c5b1 : (t192 != 0) = false := bne_eq_false_iff_eq.mpr c5
          clear c5
          have H' := Aside0.mk H
          clear H
          obtain ⟨Ao6, co6, eo6⟩ := Kd.V_slice HO_0.out
          subst eo6
          go_wp2_with (first | ((with_reducible refine gate_callee (f := 97) rfl ?_); refine goesL_ (some 14) rfl rfl Tryd.func97 (by kernel_rfl) rfl #[.slice Ao6 x0_1.length co6, .int .i64 a1] rfl (by (try simp only [List.map_toArray, List.map_cons, List.map_nil]); first | done | rfl | (simp only [List.length_drop, List.length_take]; rfl)) ?_; (with_reducible refine (tones_list_at.calls k1 _ _ x0_1 a1 t192 _ ?side1 ?side2 A4.out).mono ?_); (case side1 => repeat (first | exact (Kd.V_reads' HO_0.out).2.2 | (with_reducible refine Kd.C_alloc ?_ _) | (with_reducible refine Kd.C_drewN ?_ _) | (with_reducible refine Kd.C_drew ?_))); (case side2 => exact (Kd.V_reads' HO_0.out).2.1); rintro e w7 ⟨rfl, hb⟩; refine ⟨_, rfl, ?_⟩; have n0_ := Aside0.mk (Kd.V_below (by (with_reducible repeat (first | apply Kd.V_alloc | apply Kd.V_drewN | apply Kd.V_drew)); exact HO_0.out) hb); have n1_ := Aside0.mk (below_step (by repeat (first | (with_reducible first | exact HB.out | apply below_alloc | apply pw_below_drewN | apply below_drew1) | exact HB.out)) hb); clear HO_0; clear HB; have HO_0 := n0_; have HB := n1_; clear n0_ n1_; (try clear hb); (try clear hb2); (try clear hk); (try clear hi)))
          go_loopg [6, 20] k1 (fun kq v6 v20 w' => ∃ (x6_2 : List (S87)) (x20_2 : Int), v20 = .int .i64 x20_2 ∧ Aside0 (tones_list_near.l1 kq a1 x6_2 x0_1 (x0_1.length : Int) x20_2 = some r) ∧ Aside0 (kq ≤ k1) ∧ Aside0 (Kd.N k87 87 w' w.heap.size (fun k_ => (P0_ k_ ∨ w.heap.size ≤ k_)) v6 x6_2) ∧ Aside0 (Kd.V k87 87 w' w.heap.size (fun k_ => (P0_ k_ ∨ w.heap.size ≤ k_) ∧ some k_ ≠ (v6 : Value).ownBlock) (.slice Ao6 x0_1.length co6) x0_1) ∧ Aside0 (Below w.heap.size w w'))
          case atStart => exact ⟨(([] : List (S87))), (0), (by first | rfl | (simp; done) | (simp [*]; done)), H', ⟨Nat.le_refl _⟩, ⟨by first | exact Kd.S_nil _ _ _ _ _ | exact Kd.N_nil _ _ _ _ _ | exact Kd.V_nil _ _ _ _ _ | exact Kd.Q_nil _ _ _ _ _ | exact Kd.R_nil _ _ _ _ _⟩, ⟨by (with_reducible repeat (first | apply Kd.V_alloc | apply Kd.V_drewN | apply Kd.V_drew)); exact Kd.V_mono HO_0.out (fun _ hk => ⟨hk, (by simp [Value.ownBlock])⟩)⟩, ⟨by repeat (first | (with_reducible first | exact HB.out | apply below_alloc | apply pw_below_drewN | apply below_drew1) | exact HB.out)⟩⟩
          case round =>
            clear H'
            try clear p2
            try clear c3
            try clear c3b0
            try clear c3b1
            try clear c5
            try clear c5b0
            try clear c5b1
            try clear c7
            try clear p2
            obtain ⟨x6_2, x20_2, rfl, HA, HK2, HO_6, HO_18, HB⟩ := hrel
            cases gk with
            | zero => exact absurd HA.out (by simp [tones_list_near.l1])
            | succ k2 =>
              have H := HA.out
              clear HA
              simp only [tones_list_near.l1] at H
              by_cases c8 : x20_2 < (x0_1.length : Int)
              · rw [if_pos c8] at H
                have c8b0 : decide (x20_2 < (x0_1.length : Int)) = true := decide_eq_true c8
                clear c8
                by_cases c9 : 0 ≤ x20_2
                · rw [if_pos c9] at H
                  have c9b0 : decide (0 ≤ x20_2) = true := decide_eq_true c9
                  clear c9
                  by_cases c10 : x20_2 < (x0_1.length : Int)
                  · rw [if_pos c10] at H
                    have c10b0 : decide (x20_2 < (x0_1.length : Int)) = true := decide_eq_true c10
                    clear c10
                    by_cases c11 : x20_2 > 0
                    · rw [if_pos c11] at H
                      have c11b0 : decide (0 < x20_2) = true := decide_eq_true c11
                      clear c11
                      replace H := Option.bind_eq_some_iff.mp H
                      obtain ⟨⟨t195, t196⟩, A120, H⟩ := H
                      replace H : ((tones_big_times.f k2 ((rd_T87 x0_1 x20_2).f0) ((rd_T87 x0_1 x20_2).f1) t195 t196).bind fun bt199 => (if x6_2.length < 4398046511104 then (tones_list_near.l1 k2 a1 (x6_2 ++ [(⟨bt199.1, bt199.2⟩ : S87)]) x0_1 (x0_1.length : Int) (wrap64 (x20_2 + 1))) else (none))) = some r := H
                      have A12 := Aside0.mk A120
                      clear A120
                      replace H := Option.bind_eq_some_iff.mp H
                      obtain ⟨⟨t199, t200⟩, A130, H⟩ := H
                      replace H : (if x6_2.length < 4398046511104 then (tones_list_near.l1 k2 a1 (x6_2 ++ [(⟨t199, t200⟩ : S87)]) x0_1 (x0_1.length : Int) (wrap64 (x20_2 + 1))) else (none)) = some r := H
                      have A13 := Aside0.mk A130
                      clear A130
                      by_cases c14 : x6_2.length < 4398046511104
                      · rw [if_pos c14] at H
                        have LMc14 := Aside0.mk c14
                        clear c14
                        obtain ⟨y203, hy203⟩ : ∃ y_ : List (S87), y_ = (x6_2 ++ [(⟨t199, t200⟩ : S87)]) := ⟨_, rfl⟩
                        replace H : (tones_list_near.l1 k2 a1 y203 x0_1 (x0_1.length : Int) (wrap64 (x20_2 + 1))) = some r := by first | (rw [hy203]; with_reducible exact H) | (have H2_ := (Option.bind_some _ _).symm.trans H; rw [hy203]; with_reducible exact H2_) | (have H2_ := (Option.bind_some _ _).symm.trans H; with_reducible exact H2_) | with_reducible exact H | (rw [hy203]; exact H) | exact H
                        have Ny203 := Aside0.mk hy203
                        clear hy203
                        have H' := Aside0.mk H
                        clear H
                        have p193 : 0 ≤ (x20_2 : Int) := of_decide_eq_true (by first | (with_reducible assumption) | assumption)
                        have q193 : x20_2 < (x0_1.length : Int) := of_decide_eq_true (by first | (with_reducible assumption) | assumption)
                        obtain ⟨ad193, A193_1, c193_1, e193, hx193_0, hx193_1, hl193_1, hi193_1⟩ := at_T87 (Kd.V_reads' HO_18.out).2.2 x20_2 p193 q193
                        cases e193
                        obtain ⟨ce193, hce193, hMe193, hcc193⟩ := Kd.V_get HO_18.out z87 x20_2 p193 (by first | exact q193 | exact of_decide_eq_true (by first | (with_reducible assumption) | assumption) | (have e_ := (Kd.V_reads' HO_18.out).1; omega))
                        obtain ⟨ua193_1, uc193_1, rfl, ul193_1, ge193_1⟩ := k87_openF hMe193
                        have hv193_1 := hcc193 1 _ rfl
                        rw [add_field _ _ 1 (by omega)] at hv193_1
                        replace hv193_1 := Option.some.inj (hv193_1.symm.trans hx193_1)
                        injection hv193_1 with hva_ hvn_ hvc_
                        rw [hva_] at ge193_1
                        rw [hvc_] at ul193_1
                        have HL193_1 := Aside0.mk (show Kd.V (Kd.int .i64) 3 _ w.heap.size _ _ ((rd_T87 x0_1 x20_2).f1) from Kd.V_mk ul193_1 ge193_1)
                        clear hva_ hvn_ hvc_ ge193_1 ul193_1
                        clear hcc193 hce193
                        have HR193_1 := Aside0.mk hi193_1
                        have HC193_1 := Aside0.mk hl193_1
                        clear hi193_1 hl193_1
                        replace p193 := eq_true p193
                        replace q193 := eq_true q193
                        try go_wp2_with (first | ((with_reducible refine gate_dst (N := 8) rfl ?_); refine box_event ?hg (N := 8) ?hd (cs := #[.int .i64 0, .slice none 0 0]) (t := 87) ?hr ?_; (case hd => rfl); (case hg => rfl); (case hr => first | (go_simp; done) | (go_simp; rfl)); intro gb194 hg w15 hbox hb; have n0_ := Aside0.mk (Kd.N_below (Kd.N_elderB (by (with_reducible repeat (first | apply Kd.N_alloc | apply Kd.N_drewN | apply Kd.N_drew)); exact HO_6.out) gb194 (Nat.le_of_eq hg.symm)) hb); have n1_ := Aside0.mk (Kd.V_below (Kd.V_elderB (by (with_reducible repeat (first | apply Kd.V_alloc | apply Kd.V_drewN | apply Kd.V_drew)); exact HO_18.out) gb194 (Nat.le_of_eq hg.symm)) hb); have n2_ := Aside0.mk (Kd.V_below (Kd.V_elderB (by (with_reducible repeat (first | apply Kd.V_alloc | apply Kd.V_drewN | apply Kd.V_drew)); exact HL193_1.out) gb194 (Nat.le_of_eq hg.symm)) hb); have n3_ := Aside0.mk (Kd.C_below (by repeat (first | (with_reducible exact HR193_1.out) | (with_reducible refine Kd.C_alloc ?_ _) | (with_reducible refine Kd.C_drewN ?_ _) | (with_reducible refine Kd.C_drew ?_) | exact HR193_1.out)) hb); have n4_ := Aside0.mk (below_step (by repeat (first | (with_reducible first | exact HB.out | apply below_alloc | apply pw_below_drewN | apply below_drew1) | exact HB.out)) hb); have n5_ := Aside0.mk (hbox); have n6_ := Aside0.mk ((by rw [hg]; exact (below_size (by repeat (first | (with_reducible first | exact HB.out | apply below_alloc | apply pw_below_drewN | apply below_drew1) | exact HB.out))) : w.heap.size ≤ gb194)); have n7_ := Aside0.mk ((by rw [hg]; exact (below_size (by repeat (first | (with_reducible first | exact HB.out | apply below_alloc | apply pw_below_drewN | apply below_drew1) | exact HB.out))) : w.heap.size ≤ gb194)); clear HO_6; clear HO_18; clear HL193_1; clear HR193_1; clear HB; have HO_6 := n0_; have HO_18 := n1_; have HL193_1 := n2_; have HR193_1 := n3_; have HB := n4_; have BK194 := n5_; have GW194 := n6_; have GE194 := n7_; clear n0_ n1_ n2_ n3_ n4_ n5_ n6_ n7_; clear hb hbox hg; have hcz16_0 : w15.cell? ⟨gb194, 0, none⟩ = some (.int .i64 0) := (blk_cell BK194.out 0).trans rfl; have hcz16_1 : w15.cell? ⟨gb194, 1, none⟩ = some (.slice none 0 0) := (blk_cell BK194.out 1).trans rfl; have hfz16_0 := blk_frozen BK194.out 0; have hfz16_1 := blk_frozen BK194.out 1))
                        have n0_ : Aside0 (Kd.N k87 87 ((w15.setCell ⟨gb194, 0, none⟩ (.int .i64 ((rd_T87 x0_1 x20_2).f0))).setCell ⟨gb194, 1, none⟩ (.slice A193_1 ((rd_T87 x0_1 x20_2).f1).length c193_1)) w.heap.size (fun k_ => (P0_ k_ ∨ w.heap.size ≤ k_) ∧ k_ ≠ gb194) u6 x6_2) := ⟨by (with_reducible repeat (first | apply Kd.N_alloc | apply Kd.N_drewN | apply Kd.N_drew)); exact Kd.N_mono (Kd.N_far (p := ⟨gb194, 1, none⟩) (Kd.N_far (p := ⟨gb194, 0, none⟩) (Kd.N_mono HO_6.out (fun k_ hk => (⟨hk, hk.2⟩ : _ ∧ k_ ≠ gb194))) (fun _ hk => hk.2) (.int .i64 ((rd_T87 x0_1 x20_2).f0))) (fun _ hk => hk.2) (.slice A193_1 ((rd_T87 x0_1 x20_2).f1).length c193_1)) (fun _ hk => ⟨hk.1.1, hk.1.2⟩)⟩
                        have n1_ : Aside0 (Kd.V k87 87 ((w15.setCell ⟨gb194, 0, none⟩ (.int .i64 ((rd_T87 x0_1 x20_2).f0))).setCell ⟨gb194, 1, none⟩ (.slice A193_1 ((rd_T87 x0_1 x20_2).f1).length c193_1)) w.heap.size (fun k_ => (P0_ k_ ∨ w.heap.size ≤ k_) ∧ some k_ ≠ (u6 : Value).ownBlock ∧ k_ ≠ gb194) (.slice (some ad193) x0_1.length co6) x0_1) := ⟨by (with_reducible repeat (first | apply Kd.V_alloc | apply Kd.V_drewN | apply Kd.V_drew)); exact Kd.V_mono (Kd.V_far (p := ⟨gb194, 1, none⟩) (Kd.V_far (p := ⟨gb194, 0, none⟩) (Kd.V_mono HO_18.out (fun k_ hk => (⟨hk, hk.2⟩ : _ ∧ k_ ≠ gb194))) (fun _ hk => hk.2) (.int .i64 ((rd_T87 x0_1 x20_2).f0))) (fun _ hk => hk.2) (.slice A193_1 ((rd_T87 x0_1 x20_2).f1).length c193_1)) (fun _ hk => ⟨hk.1.1.1, ⟨hk.1.1.2, hk.1.2⟩⟩)⟩
                        have n2_ : Aside0 (Kd.V (Kd.int .i64) 3 ((w15.setCell ⟨gb194, 0, none⟩ (.int .i64 ((rd_T87 x0_1 x20_2).f0))).setCell ⟨gb194, 1, none⟩ (.slice A193_1 ((rd_T87 x0_1 x20_2).f1).length c193_1)) w.heap.size (fun k_ => (P0_ k_ ∨ w.heap.size ≤ k_) ∧ some k_ ≠ (u6 : Value).ownBlock ∧ k_ ≠ gb194) (.slice A193_1 ((rd_T87 x0_1 x20_2).f1).length c193_1) ((rd_T87 x0_1 x20_2).f1)) := ⟨by (with_reducible repeat (first | apply Kd.V_alloc | apply Kd.V_drewN | apply Kd.V_drew)); exact Kd.V_mono (Kd.V_far (p := ⟨gb194, 1, none⟩) (Kd.V_far (p := ⟨gb194, 0, none⟩) (Kd.V_mono HL193_1.out (fun k_ hk => (⟨hk, hk.2⟩ : _ ∧ k_ ≠ gb194))) (fun _ hk => hk.2) (.int .i64 ((rd_T87 x0_1 x20_2).f0))) (fun _ hk => hk.2) (.slice A193_1 ((rd_T87 x0_1 x20_2).f1).length c193_1)) (fun _ hk => ⟨hk.1.1.1, ⟨hk.1.1.2, hk.1.2⟩⟩)⟩
                        have n3_ : Aside0 (((w15.setCell ⟨gb194, 0, none⟩ (.int .i64 ((rd_T87 x0_1 x20_2).f0))).setCell ⟨gb194, 1, none⟩ (.slice A193_1 ((rd_T87 x0_1 x20_2).f1).length c193_1)).heap[gb194]? = some (.cells #[.int .i64 ((rd_T87 x0_1 x20_2).f0), .slice A193_1 ((rd_T87 x0_1 x20_2).f1).length c193_1] 87 (0, 0))) := ⟨by (with_reducible repeat (first | refine blk_drewN ?_ _ | refine blk_drew ?_ | refine blk_alloc ?_ _)); refine blk_put (cs := #[.int .i64 ((rd_T87 x0_1 x20_2).f0), .slice none 0 0]) ?_ 1 _ rfl; (with_reducible repeat (first | refine blk_drewN ?_ _ | refine blk_drew ?_ | refine blk_alloc ?_ _)); refine blk_put (cs := #[.int .i64 0, .slice none 0 0]) ?_ 0 _ rfl; (with_reducible repeat (first | refine blk_drewN ?_ _ | refine blk_drew ?_ | refine blk_alloc ?_ _)); exact BK194.out⟩
                        have n4_ : Aside0 (Below w.heap.size w ((w15.setCell ⟨gb194, 0, none⟩ (.int .i64 ((rd_T87 x0_1 x20_2).f0))).setCell ⟨gb194, 1, none⟩ (.slice A193_1 ((rd_T87 x0_1 x20_2).f1).length c193_1))) := ⟨by repeat (first | (with_reducible first | exact HB.out | apply below_alloc | apply pw_below_drewN | apply below_drew1 | refine below_set ?_ GE194.out) | exact HB.out)⟩
                        (try clear HO_6)
                        (try clear HO_18)
                        (try clear HL193_1)
                        (try clear BK194)
                        (try clear HB)
                        generalize ((w15.setCell ⟨gb194, 0, none⟩ (.int .i64 ((rd_T87 x0_1 x20_2).f0))).setCell ⟨gb194, 1, none⟩ (.slice A193_1 ((rd_T87 x0_1 x20_2).f1).length c193_1)) = w17 at n0_ n1_ n2_ n3_ n4_ ⊢
                        have HO_6 := n0_
                        have HO_18 := n1_
                        have HL193_1 := n2_
                        have BK194 := n3_
                        have HB := n4_
                        clear n0_ n1_ n2_ n3_ n4_
                        have n0_ := Aside0.mk (Kd.N_drew HO_6.out)
                        have n1_ := Aside0.mk (Kd.V_drew HO_18.out)
                        have n2_ := Aside0.mk (Kd.V_drew HL193_1.out)
                        have n3_ := Aside0.mk (blk_drew BK194.out)
                        have n4_ := Aside0.mk (below_drew1 HB.out)
                        clear HO_6
                        clear HO_18
                        clear HL193_1
                        clear BK194
                        clear HB
                        have HO_6 := n0_
                        have HO_18 := n1_
                        have HL193_1 := n2_
                        have BK194 := n3_
                        have HB := n4_
                        clear n0_ n1_ n2_ n3_ n4_
                        refine start_ (n := 8) (S := fun w' => w'.cell? ⟨gb194, 0, none⟩ = some (.int .i64 ((rd_T87 x0_1 x20_2).f0)) ∧ w'.cell? ⟨gb194, 1, none⟩ = some (.slice A193_1 ((rd_T87 x0_1 x20_2).f1).length c193_1)) (ds := []) #[false, false, false, false, false, false, false, false] (by kernel_rfl) rfl rfl ⟨(blk_cell BK194.out 0).trans rfl, (blk_cell BK194.out 1).trans rfl⟩ (fun hHeld => ?_); refine with_tabW tones_list_near.tab10 tones_list_near.bits10 (fun HT_ HW_ => ?_)
                        generalize w17.drew = w18 at HO_6 HO_18 HL193_1 BK194 HB hHeld ⊢
                        refine pure_ (i := 0) (N := some 27) (v := ?_) (a' := ?_) #[true, false, false, false, false, false, false, false] rfl rfl (any_of HT_.out (by kernel_rfl)) (fun _ _ _ h => h) (Or.inl ⟨by rfl, ?_⟩) ?_ ?_
                        rotate_left
                        · intro w'
                          go_simp
                          with_reducible rfl
                        rotate_left
                        · simp only [Act.put, List.setIfInBounds_toArray, List.set_cons_zero, List.set_cons_succ, i64_w, i32_w]
                          rfl
                        refine pure_ (i := 2) (N := some 29) (v := ?_) (a' := ?_) #[true, false, true, false, false, false, false, false] rfl rfl (any_of HT_.out (by kernel_rfl)) (fun _ _ _ h => h) (Or.inl ⟨by rfl, ?_⟩) ?_ ?_
                        rotate_left
                        · intro w'
                          go_simp
                          with_reducible rfl
                        rotate_left
                        · simp only [Act.put, List.setIfInBounds_toArray, List.set_cons_zero, List.set_cons_succ, i64_w, i32_w]
                          rfl
                        refine take_ (i := 1) (N := some 28) (v := ?_) (a' := ?_) #[true, true, true, false, false, false, false, false] rfl rfl (take_ofW HT_.out HW_.out (by kernel_rfl)) (fun _ _ _ h => h) (Or.inl ⟨by rfl, ?_⟩) hHeld ?_ ?_
                        rotate_left
                        · rintro w' ⟨s0, s1⟩
                          go_simp
                          with_reducible rfl
                        rotate_left
                        · simp only [Act.put, List.setIfInBounds_toArray, List.set_cons_zero, List.set_cons_succ, i64_w, i32_w]
                          rfl
                        refine one_ (i := 3) (N := some 30) #[true, true, true, true, false, false, false, false] rfl rfl (one_of HT_.out (by kernel_rfl)) (by decide) (fun K hK => ?_)
                        refine goes_ Tryd.func76 (by kernel_rfl) rfl #[.int .i64 x20_2] (by rfl) rfl rfl (by (try simp only [List.map_toArray, List.map_cons, List.map_nil]); first | done | rfl | (simp only [List.length_drop, List.length_take]; rfl)) ?_
                        with_reducible refine (tones_whole.calls k2 x20_2 t195 t196 _ A12.out).mono ?_
                        rintro e w19 ⟨v197, rfl, ho0, hb⟩
                        refine ⟨_, rfl, ?_⟩
                        have n0_ := Aside0.mk (Kd.N_elder' (by (with_reducible repeat (first | apply Kd.N_alloc | apply Kd.N_drewN | apply Kd.N_drew)); exact HO_6.out) (Kd.R_base ho0) hb)
                        have n1_ := Aside0.mk (Kd.V_elder' (by (with_reducible repeat (first | apply Kd.V_alloc | apply Kd.V_drewN | apply Kd.V_drew)); exact HO_18.out) (Kd.R_base ho0) hb)
                        have n2_ := Aside0.mk (Kd.V_elder' (by (with_reducible repeat (first | apply Kd.V_alloc | apply Kd.V_drewN | apply Kd.V_drew)); exact HL193_1.out) (Kd.R_base ho0) hb)
                        have n3_ := Aside0.mk (Kd.R_lower (Kd.R_newM (M := fun k_ => (w.heap.size ≤ k_)) ho0 (below_size (by repeat (first | (with_reducible first | exact HB.out | apply below_alloc | apply pw_below_drewN | apply below_drew1 | refine below_set ?_ GE194.out) | exact HB.out))) (fun k_ h_ => h_)) (below_size (by repeat (first | (with_reducible first | exact HB.out | apply below_alloc | apply pw_below_drewN | apply below_drew1 | refine below_set ?_ GE194.out) | exact HB.out))))
                        have n4_ := Aside0.mk (blk_below (g := gb194) (o := .cells #[.int .i64 ((rd_T87 x0_1 x20_2).f0), .slice A193_1 ((rd_T87 x0_1 x20_2).f1).length c193_1] 87 (0, 0)) (by (with_reducible repeat (first | refine blk_drewN ?_ _ | refine blk_drew ?_ | refine blk_alloc ?_ _)); exact BK194.out) hb)
                        have n5_ := Aside0.mk (below_step (by repeat (first | (with_reducible first | exact HB.out | apply below_alloc | apply pw_below_drewN | apply below_drew1 | refine below_set ?_ GE194.out) | exact HB.out)) hb)
                        clear HO_6
                        clear HO_18
                        clear HL193_1
                        clear BK194
                        clear HB
                        have HO_6 := n0_
                        have HO_18 := n1_
                        have HL193_1 := n2_
                        have HO198 := n3_
                        have BK194 := n4_
                        have HB := n5_
                        clear n0_ n1_ n2_ n3_ n4_ n5_
                        (try clear hb)
                        (try clear hb2)
                        (try clear hk)
                        (try clear hi)
                        (try clear ho0)
                        obtain ⟨Ao20, co20, eo20⟩ := Kd.R_slice HO198.out
                        (first | subst eo20 | (injection eo20 with f1_ f2_ f3_; have f4_ := f1_.symm; have f5_ := f3_.symm; clear f1_ f2_ f3_; subst f4_; subst f5_))
                        refine hK.out _ _ ⟨(blk_cell BK194.out 0).trans rfl, (blk_cell BK194.out 1).trans rfl⟩ (fun hHeld => ?_)
                        clear hK K
                        refine norm_ (a' := ?_) ?_ ?_
                        rotate_left
                        · show Act.put _ (some 30) _ = _
                          simp only [Act.put, List.setIfInBounds_toArray, List.set_cons_zero, List.set_cons_succ, i64_w, i32_w]
                          rfl
                        refine one_ (i := 4) (N := some 31) #[true, true, true, true, true, false, false, false] rfl rfl (one_of HT_.out (by kernel_rfl)) (by decide) (fun K hK => ?_)
                        refine goes_ Tryd.func95 (by kernel_rfl) rfl #[.agg #[.int .i64 ((rd_T87 x0_1 x20_2).f0), .slice A193_1 ((rd_T87 x0_1 x20_2).f1).length c193_1], .agg #[.int .i64 t195, .slice Ao20 t196.length co20]] (by rfl) rfl rfl (by (try simp only [List.map_toArray, List.map_cons, List.map_nil]); first | done | rfl | (simp only [List.length_drop, List.length_take]; rfl)) ?_
                        with_reducible refine (tones_big_times.calls k2 ((rd_T87 x0_1 x20_2).f0) _ _ ((rd_T87 x0_1 x20_2).f1) t195 _ _ t196 t199 t200 _ ?side1 ?side2 ?side3 ?side4 A13.out).mono ?_
                        (case side1 => repeat (first | exact ((Kd.V_reads' (by (with_reducible repeat (first | apply Kd.V_alloc | apply Kd.V_drewN | apply Kd.V_drew)); exact HL193_1.out)).2.2) | (with_reducible refine Kd.C_alloc ?_ _) | (with_reducible refine Kd.C_drewN ?_ _) | (with_reducible refine Kd.C_drew ?_)))
                        (case side2 => exact HC193_1.out)
                        (case side3 => repeat (first | exact (Kd.R_reads' HO198.out).2.2 | (with_reducible refine Kd.C_alloc ?_ _) | (with_reducible refine Kd.C_drewN ?_ _) | (with_reducible refine Kd.C_drew ?_)))
                        (case side4 => exact (Kd.R_reads' HO198.out).2.1)
                        rintro e w21 ⟨v201, rfl, ho0, hb⟩
                        refine ⟨_, rfl, ?_⟩
                        have n0_ := Aside0.mk (Kd.N_below (by (with_reducible repeat (first | apply Kd.N_alloc | apply Kd.N_drewN | apply Kd.N_drew)); exact HO_6.out) hb)
                        have n1_ := Aside0.mk (Kd.V_below (by (with_reducible repeat (first | apply Kd.V_alloc | apply Kd.V_drewN | apply Kd.V_drew)); exact HO_18.out) hb)
                        have n2_ := Aside0.mk (Kd.V_below (by (with_reducible repeat (first | apply Kd.V_alloc | apply Kd.V_drewN | apply Kd.V_drew)); exact HL193_1.out) hb)
                        have n3_ := Aside0.mk (Kd.R_below (by (with_reducible repeat (first | apply Kd.R_alloc | apply Kd.R_drewN | apply Kd.R_drew)); exact HO198.out) hb)
                        have n4_ := Aside0.mk (Kd.V_lower (Kd.V_mono (ok' := fun k_ => (P0_ k_ ∨ w.heap.size ≤ k_) ∧ some k_ ≠ (u6 : Value).ownBlock ∧ some k_ ≠ (.slice Ao20 t196.length co20 : Value).ownBlock ∧ k_ ≠ gb194) ho0 (fun k_ hk_ => ⟨(.inr (Nat.le_trans (below_size (by repeat (first | (with_reducible first | exact HB.out | apply below_alloc | apply pw_below_drewN | apply below_drew1 | refine below_set ?_ GE194.out) | exact HB.out))) hk_)), (Kd.fresh' (Kd.N_lt (by (with_reducible repeat (first | apply Kd.N_alloc | apply Kd.N_drewN | apply Kd.N_drew)); exact HO_6.out)) k_ hk_), (Kd.fresh' (Kd.R_lt (by (with_reducible repeat (first | apply Kd.R_alloc | apply Kd.R_drewN | apply Kd.R_drew)); exact HO198.out)) k_ hk_), (Kd.freshB (g := gb194) (o := .cells #[.int .i64 ((rd_T87 x0_1 x20_2).f0), .slice A193_1 ((rd_T87 x0_1 x20_2).f1).length c193_1] 87 (0, 0)) (by (with_reducible repeat (first | refine blk_drewN ?_ _ | refine blk_drew ?_ | refine blk_alloc ?_ _)); exact BK194.out) k_ hk_)⟩)) (below_size (by repeat (first | (with_reducible first | exact HB.out | apply below_alloc | apply pw_below_drewN | apply below_drew1 | refine below_set ?_ GE194.out) | exact HB.out))))
                        have n5_ := Aside0.mk (blk_below (g := gb194) (o := .cells #[.int .i64 ((rd_T87 x0_1 x20_2).f0), .slice A193_1 ((rd_T87 x0_1 x20_2).f1).length c193_1] 87 (0, 0)) (by (with_reducible repeat (first | refine blk_drewN ?_ _ | refine blk_drew ?_ | refine blk_alloc ?_ _)); exact BK194.out) hb)
                        have n6_ := Aside0.mk (below_step (by repeat (first | (with_reducible first | exact HB.out | apply below_alloc | apply pw_below_drewN | apply below_drew1 | refine below_set ?_ GE194.out) | exact HB.out)) hb)
                        clear HO_6
                        clear HO_18
                        clear HL193_1
                        clear HO198
                        clear BK194
                        clear HB
                        have HO_6 := n0_
                        have HO_18 := n1_
                        have HL193_1 := n2_
                        have HO198 := n3_
                        have HO202 := n4_
                        have BK194 := n5_
                        have HB := n6_
                        clear n0_ n1_ n2_ n3_ n4_ n5_ n6_
                        (try clear hb)
                        (try clear hb2)
                        (try clear hk)
                        (try clear hi)
                        (try clear ho0)
                        obtain ⟨Ao23, co23, eo23⟩ := Kd.V_slice HO202.out
                        (first | subst eo23 | (injection eo23 with f1_ f2_ f3_; have f4_ := f1_.symm; have f5_ := f3_.symm; clear f1_ f2_ f3_; subst f4_; subst f5_))
                        refine hK.out _ _ ⟨(blk_cell BK194.out 0).trans rfl, (blk_cell BK194.out 1).trans rfl⟩ (fun hHeld => ?_)
                        clear hK K
                        refine norm_ (a' := ?_) ?_ ?_
                        rotate_left
                        · show Act.put _ (some 31) _ = _
                          simp only [Act.put, List.setIfInBounds_toArray, List.set_cons_zero, List.set_cons_succ, i64_w, i32_w]
                          rfl
                        refine one_ (i := 5) (N := some 32) #[true, true, true, true, true, true, false, false] rfl rfl (one_of HT_.out (by kernel_rfl)) (by decide) (fun K hK => ?_)
                        refine value_ (w1 := ?_) (v := ?_) (by rfl) rfl ?_ ?_
                        rotate_left 2
                        · go_simp
                          constructor
                          · rfl
                          · rfl
                        refine hK.out _ _ ⟨(blk_cell (blk_alloc BK194.out _) 0).trans rfl, (blk_cell (blk_alloc BK194.out _) 1).trans rfl⟩ (fun hHeld => ?_)
                        clear hK K
                        refine norm_ (a' := ?_) ?_ ?_
                        rotate_left
                        · show Act.put _ (some 32) _ = _
                          simp only [Act.put, List.setIfInBounds_toArray, List.set_cons_zero, List.set_cons_succ, i64_w, i32_w]
                          rfl
                        refine one_ (i := 6) (N := some 33) #[true, true, true, true, true, true, true, false] rfl rfl (one_of HT_.out (by kernel_rfl)) (by decide) (fun K hK => ?_)
                        refine Kd.N_append_step k87 (w0 := w) w.heap.size (by rfl) (.tmp 27) (.tmp 32) 85 87 (.agg #[(.int .i64 0), (.slice none 0 0)]) 32 rfl Tryd.underlying85 info87 rfl (by decide) (by omega) u6 x6_2 (⟨t199, t200⟩ : S87) [.int .i64 t199, .slice Ao23 t200.length co23] (fun k_ => (P0_ k_ ∨ w.heap.size ≤ k_) ∧ some k_ ≠ (.slice Ao20 t196.length co20 : Value).ownBlock ∧ k_ ≠ gb194) (fun k_ => ((fun k_ => (P0_ k_ ∨ w.heap.size ≤ k_) ∧ some k_ ≠ (.slice Ao20 t196.length co20 : Value).ownBlock ∧ k_ ≠ gb194)) k_ ∧ some k_ ≠ (u6 : Value).ownBlock) rfl rfl ?aP (fun _ hk => hk) ?aF ?aO ?aB ?aS ?aL ?_
                        (case aP => exact (k87_mkF _ _ (⟨t199, t200⟩ : S87) (Kd.V_reads' (Kd.V_mono (ok' := (fun k_ => ((fun k_ => (P0_ k_ ∨ w.heap.size ≤ k_) ∧ some k_ ≠ (.slice Ao20 t196.length co20 : Value).ownBlock ∧ k_ ≠ gb194)) k_ ∧ some k_ ≠ (u6 : Value).ownBlock)) (HO202.out) (fun k_ hk => ⟨⟨hk.1, ⟨hk.2.2.1, hk.2.2.2⟩⟩, hk.2.1⟩))).2.1 (Kd.V_F (Kd.V_mono (ok' := (fun k_ => ((fun k_ => (P0_ k_ ∨ w.heap.size ≤ k_) ∧ some k_ ≠ (.slice Ao20 t196.length co20 : Value).ownBlock ∧ k_ ≠ gb194)) k_ ∧ some k_ ≠ (u6 : Value).ownBlock)) (HO202.out) (fun k_ hk => ⟨⟨hk.1, ⟨hk.2.2.1, hk.2.2.2⟩⟩, hk.2.1⟩)))))
                        (case aB => exact (by repeat (first | (with_reducible first | exact HB.out | apply below_alloc | apply pw_below_drewN | apply below_drew1 | refine below_set ?_ GE194.out) | exact HB.out)))
                        (case aF => exact (fun k_ hk => ⟨(.inr (Nat.le_trans (below_size (by repeat (first | (with_reducible first | exact HB.out | apply below_alloc | apply pw_below_drewN | apply below_drew1 | refine below_set ?_ GE194.out) | exact HB.out))) hk)), Kd.fresh' (Kd.R_lt (by (with_reducible repeat (first | apply Kd.R_alloc | apply Kd.R_drewN | apply Kd.R_drew)); exact HO198.out)) k_ hk, Kd.freshB (g := gb194) (o := .cells #[.int .i64 ((rd_T87 x0_1 x20_2).f0), .slice A193_1 ((rd_T87 x0_1 x20_2).f1).length c193_1] 87 (0, 0)) (by (with_reducible repeat (first | refine blk_drewN ?_ _ | refine blk_drew ?_ | refine blk_alloc ?_ _)); exact BK194.out) k_ hk⟩))
                        (case aO => exact (by (with_reducible repeat (first | apply Kd.N_alloc | apply Kd.N_drewN | apply Kd.N_drew)); exact Kd.N_mono HO_6.out (fun _ hk => ⟨hk.1.1, ⟨hk.2, hk.1.2⟩⟩)))
                        (case aS => exact (below_size (by repeat (first | (with_reducible first | exact HB.out | apply below_alloc | apply pw_below_drewN | apply below_drew1 | refine below_set ?_ GE194.out) | exact HB.out))))
                        (case aL => have := LMc14.out; omega)
                        intro v204 w22 ho hb hg hat
                        rw [← Ny203.out] at ho
                        have n0_ := Aside0.mk (Kd.V_afterv (ok := (fun k_ => (P0_ k_ ∨ w.heap.size ≤ k_) ∧ some k_ ≠ (.slice Ao20 t196.length co20 : Value).ownBlock ∧ k_ ≠ gb194)) (by (with_reducible repeat (first | apply Kd.V_alloc | apply Kd.V_drewN | apply Kd.V_drew)); exact Kd.V_mono HO_18.out (fun _ hk => ⟨⟨hk.1.1, ⟨hk.2, hk.1.2.2⟩⟩, hk.1.2.1⟩)) hg hat)
                        have n1_ := Aside0.mk (Kd.V_afterv (ok := (fun k_ => (P0_ k_ ∨ w.heap.size ≤ k_) ∧ some k_ ≠ (.slice Ao20 t196.length co20 : Value).ownBlock ∧ k_ ≠ gb194)) (by (with_reducible repeat (first | apply Kd.V_alloc | apply Kd.V_drewN | apply Kd.V_drew)); exact Kd.V_mono HL193_1.out (fun _ hk => ⟨⟨hk.1.1, ⟨hk.2, hk.1.2.2⟩⟩, hk.1.2.1⟩)) hg hat)
                        have n2_ := Aside0.mk (blk_grown (g := gb194) (o := .cells #[.int .i64 ((rd_T87 x0_1 x20_2).f0), .slice A193_1 ((rd_T87 x0_1 x20_2).f1).length c193_1] 87 (0, 0)) (by (with_reducible repeat (first | refine blk_drewN ?_ _ | refine blk_drew ?_ | refine blk_alloc ?_ _)); exact BK194.out) hg (Kd.N_away HO_6.out (fun _ hk => hk.1.2)))
                        have n3_ := Aside0.mk (Kd.R_over' (by (with_reducible repeat (first | apply Kd.R_alloc | apply Kd.R_drewN | apply Kd.R_drew)); exact HO198.out) (Kd.N_typed (by (with_reducible repeat (first | apply Kd.N_alloc | apply Kd.N_drewN | apply Kd.N_drew)); exact HO_6.out)) (by decide) hg)
                        have n4_ := Aside0.mk (Kd.V_afterv (ok := (fun k_ => (P0_ k_ ∨ w.heap.size ≤ k_) ∧ some k_ ≠ (.slice Ao20 t196.length co20 : Value).ownBlock ∧ k_ ≠ gb194)) (by (with_reducible repeat (first | apply Kd.V_alloc | apply Kd.V_drewN | apply Kd.V_drew)); exact Kd.V_mono HO202.out (fun _ hk => ⟨⟨hk.1, ⟨hk.2.2.1, hk.2.2.2⟩⟩, hk.2.1⟩)) hg hat)
                        have n5_ := Aside0.mk (hb)
                        have n6_ := Aside0.mk (ho)
                        clear HO_18
                        clear HL193_1
                        clear BK194
                        clear HO198
                        clear HO202
                        clear HB
                        clear HO_6
                        have HO_18 := n0_
                        have HL193_1 := n1_
                        have BK194 := n2_
                        have HO198 := n3_
                        have HO202 := n4_
                        have HB := n5_
                        have HO205 := n6_
                        clear n0_ n1_ n2_ n3_ n4_ n5_ n6_
                        clear ho hb hg hat
                        refine hK.out _ _ ⟨(blk_cell BK194.out 0).trans rfl, (blk_cell BK194.out 1).trans rfl⟩ (fun hHeld => ?_)
                        clear hK K
                        refine norm_ (a' := ?_) ?_ ?_
                        rotate_left
                        · show Act.put _ (some 33) _ = _
                          simp only [Act.put, List.setIfInBounds_toArray, List.set_cons_zero, List.set_cons_succ, i64_w, i32_w]
                          rfl
                        refine pure_ (i := 7) (N := some 6) (v := ?_) (a' := ?_) #[true, true, true, true, true, true, true, true] rfl rfl (any_of HT_.out (by kernel_rfl)) (fun _ _ _ h => h) (Or.inl ⟨by rfl, ?_⟩) ?_ ?_
                        rotate_left
                        · intro w'
                          go_simp
                          with_reducible rfl
                        rotate_left
                        · simp only [Act.put, List.setIfInBounds_toArray, List.set_cons_zero, List.set_cons_succ, i64_w, i32_w]
                          rfl
                        refine done_ (done_of HT_.out (by kernel_rfl)) ?_
                        try go_wp2
                        go_roundg k2
                        case measure => have := HK1.out; have := HK2.out; omega
                        case rel => exact ⟨(y203), (wrap64 (x20_2 + 1)), (by first | rfl | (simp; done) | (simp [*]; done)), H', ⟨by have := HK1.out; have := HK2.out; omega⟩, ⟨by (with_reducible repeat (first | apply Kd.N_alloc | apply Kd.N_drewN | apply Kd.N_drew)); exact Kd.N_mono HO205.out (fun _ hk => hk.1)⟩, ⟨by (with_reducible repeat (first | apply Kd.V_alloc | apply Kd.V_drewN | apply Kd.V_drew)); exact Kd.V_mono HO_18.out (fun _ hk => ⟨hk.1.1, hk.2⟩)⟩, ⟨by repeat (first | (with_reducible first | exact HB.out | apply below_alloc | apply pw_below_drewN | apply below_drew1 | refine below_set ?_ GE194.out) | exact HB.out)⟩⟩
                      · rw [if_neg c14] at H
                        exact absurd H (by simp)
                    · rw [if_neg c11] at H
                      have c11b0 : decide (0 < x20_2) = false := decide_eq_false c11
                      clear c11
                      have H' := Aside0.mk H
                      clear H
                      have p193 : 0 ≤ (x20_2 : Int) := of_decide_eq_true (by first | (with_reducible assumption) | assumption)
                      have q193 : x20_2 < (x0_1.length : Int) := of_decide_eq_true (by first | (with_reducible assumption) | assumption)
                      obtain ⟨ad193, A193_1, c193_1, e193, hx193_0, hx193_1, hl193_1, hi193_1⟩ := at_T87 (Kd.V_reads' HO_18.out).2.2 x20_2 p193 q193
                      cases e193
                      obtain ⟨ce193, hce193, hMe193, hcc193⟩ := Kd.V_get HO_18.out z87 x20_2 p193 (by first | exact q193 | exact of_decide_eq_true (by first | (with_reducible assumption) | assumption) | (have e_ := (Kd.V_reads' HO_18.out).1; omega))
                      obtain ⟨ua193_1, uc193_1, rfl, ul193_1, ge193_1⟩ := k87_openF hMe193
                      have hv193_1 := hcc193 1 _ rfl
                      rw [add_field _ _ 1 (by omega)] at hv193_1
                      replace hv193_1 := Option.some.inj (hv193_1.symm.trans hx193_1)
                      injection hv193_1 with hva_ hvn_ hvc_
                      rw [hva_] at ge193_1
                      rw [hvc_] at ul193_1
                      have HL193_1 := Aside0.mk (show Kd.V (Kd.int .i64) 3 _ w.heap.size _ _ ((rd_T87 x0_1 x20_2).f1) from Kd.V_mk ul193_1 ge193_1)
                      clear hva_ hvn_ hvc_ ge193_1 ul193_1
                      clear hcc193 hce193
                      have HR193_1 := Aside0.mk hi193_1
                      have HC193_1 := Aside0.mk hl193_1
                      clear hi193_1 hl193_1
                      replace p193 := eq_true p193
                      replace q193 := eq_true q193
                      go_wp2_with (first | ((with_reducible refine gate_dst (N := 8) rfl ?_); refine box_event ?hg (N := 8) ?hd (cs := #[.int .i64 0, .slice none 0 0]) (t := 87) ?hr ?_; (case hd => rfl); (case hg => rfl); (case hr => first | (go_simp; done) | (go_simp; rfl)); intro gb194 hg w24 hbox hb; have n0_ := Aside0.mk (Kd.N_below (Kd.N_elderB (by (with_reducible repeat (first | apply Kd.N_alloc | apply Kd.N_drewN | apply Kd.N_drew)); exact HO_6.out) gb194 (Nat.le_of_eq hg.symm)) hb); have n1_ := Aside0.mk (Kd.V_below (Kd.V_elderB (by (with_reducible repeat (first | apply Kd.V_alloc | apply Kd.V_drewN | apply Kd.V_drew)); exact HO_18.out) gb194 (Nat.le_of_eq hg.symm)) hb); have n2_ := Aside0.mk (Kd.V_below (Kd.V_elderB (by (with_reducible repeat (first | apply Kd.V_alloc | apply Kd.V_drewN | apply Kd.V_drew)); exact HL193_1.out) gb194 (Nat.le_of_eq hg.symm)) hb); have n3_ := Aside0.mk (Kd.C_below (by repeat (first | (with_reducible exact HR193_1.out) | (with_reducible refine Kd.C_alloc ?_ _) | (with_reducible refine Kd.C_drewN ?_ _) | (with_reducible refine Kd.C_drew ?_) | exact HR193_1.out)) hb); have n4_ := Aside0.mk (below_step (by repeat (first | (with_reducible first | exact HB.out | apply below_alloc | apply pw_below_drewN | apply below_drew1) | exact HB.out)) hb); have n5_ := Aside0.mk (hbox); have n6_ := Aside0.mk ((by rw [hg]; exact (below_size (by repeat (first | (with_reducible first | exact HB.out | apply below_alloc | apply pw_below_drewN | apply below_drew1) | exact HB.out))) : w.heap.size ≤ gb194)); have n7_ := Aside0.mk ((by rw [hg]; exact (below_size (by repeat (first | (with_reducible first | exact HB.out | apply below_alloc | apply pw_below_drewN | apply below_drew1) | exact HB.out))) : w.heap.size ≤ gb194)); clear HO_6; clear HO_18; clear HL193_1; clear HR193_1; clear HB; have HO_6 := n0_; have HO_18 := n1_; have HL193_1 := n2_; have HR193_1 := n3_; have HB := n4_; have BK194 := n5_; have GW194 := n6_; have GE194 := n7_; clear n0_ n1_ n2_ n3_ n4_ n5_ n6_ n7_; clear hb hbox hg; have hcz25_0 : w24.cell? ⟨gb194, 0, none⟩ = some (.int .i64 0) := (blk_cell BK194.out 0).trans rfl; have hcz25_1 : w24.cell? ⟨gb194, 1, none⟩ = some (.slice none 0 0) := (blk_cell BK194.out 1).trans rfl; have hfz25_0 := blk_frozen BK194.out 0; have hfz25_1 := blk_frozen BK194.out 1))
                      go_roundg k2
                      case measure => have := HK1.out; have := HK2.out; omega
                      case rel => exact ⟨(x6_2), (wrap64 (x20_2 + 1)), (by first | rfl | (simp; done) | (simp [*]; done)), H', ⟨by have := HK1.out; have := HK2.out; omega⟩, ⟨by (with_reducible repeat (first | apply Kd.N_alloc | apply Kd.N_drewN | apply Kd.N_drew)); exact Kd.N_mono (Kd.N_far (p := ⟨gb194, 1, none⟩) (Kd.N_far (p := ⟨gb194, 0, none⟩) (Kd.N_mono HO_6.out (fun k_ hk => (⟨hk, hk.2⟩ : _ ∧ k_ ≠ gb194))) (fun _ hk => hk.2) (.int .i64 ((rd_T87 x0_1 x20_2).f0))) (fun _ hk => hk.2) (.slice A193_1 ((rd_T87 x0_1 x20_2).f1).length c193_1)) (fun _ hk => hk.1.1)⟩, ⟨by (with_reducible repeat (first | apply Kd.V_alloc | apply Kd.V_drewN | apply Kd.V_drew)); exact Kd.V_mono (Kd.V_far (p := ⟨gb194, 1, none⟩) (Kd.V_far (p := ⟨gb194, 0, none⟩) (Kd.V_mono HO_18.out (fun k_ hk => (⟨hk, hk.2⟩ : _ ∧ k_ ≠ gb194))) (fun _ hk => hk.2) (.int .i64 ((rd_T87 x0_1 x20_2).f0))) (fun _ hk => hk.2) (.slice A193_1 ((rd_T87 x0_1 x20_2).f1).length c193_1)) (fun _ hk => ⟨hk.1.1.1, hk.1.1.2⟩)⟩, ⟨by repeat (first | (with_reducible first | exact HB.out | apply below_alloc | apply pw_below_drewN | apply below_drew1 | refine below_set ?_ GE194.out) | exact HB.out)⟩⟩
                  · rw [if_neg c10] at H
                    exact absurd H (by simp)
                · rw [if_neg c9] at H
                  exact absurd H (by simp)
              · rw [if_neg c8] at H
                have c8b0 : decide (x20_2 < (x0_1.length : Int)) = false := decide_eq_false c8
                clear c8
                have H' := Aside0.mk H
                clear H
                go_wp2
                go_roundg k2
                case measure => have := HK1.out; have := HK2.out; omega
                case rel => exact ⟨(x6_2), H', ⟨by have := HK1.out; have := HK2.out; omega⟩, ⟨Kd.N_V (by (with_reducible repeat (first | apply Kd.N_alloc | apply Kd.N_drewN | apply Kd.N_drew)); exact HO_6.out)⟩, ⟨by repeat (first | (with_reducible first | exact HB.out | apply below_alloc | apply pw_below_drewN | apply below_drew1) | exact HB.out)⟩⟩
        · rw [if_neg c5] at H
          have c5b0 : (t192 == 0) = false := beq_eq_false_iff_ne.mpr c5
          have c5b1 : (t192 != 0) = true := bne_iff_ne.mpr c5
          obtain rfl := Option.some.inj H
          obtain ⟨Ao26, co26, eo26⟩ := Kd.V_slice HO_0.out
          subst eo26
          go_wp2_with (first | ((with_reducible refine gate_callee (f := 97) rfl ?_); refine goesL_ (some 14) rfl rfl Tryd.func97 (by kernel_rfl) rfl #[.slice Ao26 x0_1.length co26, .int .i64 a1] rfl (by (try simp only [List.map_toArray, List.map_cons, List.map_nil]); first | done | rfl | (simp only [List.length_drop, List.length_take]; rfl)) ?_; (with_reducible refine (tones_list_at.calls k1 _ _ x0_1 a1 t192 _ ?side1 ?side2 A4.out).mono ?_); (case side1 => repeat (first | exact (Kd.V_reads' HO_0.out).2.2 | (with_reducible refine Kd.C_alloc ?_ _) | (with_reducible refine Kd.C_drewN ?_ _) | (with_reducible refine Kd.C_drew ?_))); (case side2 => exact (Kd.V_reads' HO_0.out).2.1); rintro e w27 ⟨rfl, hb⟩; refine ⟨_, rfl, ?_⟩; have n0_ := Aside0.mk (Kd.V_below (by (with_reducible repeat (first | apply Kd.V_alloc | apply Kd.V_drewN | apply Kd.V_drew)); exact HO_0.out) hb); have n1_ := Aside0.mk (below_step (by repeat (first | (with_reducible first | exact HB.out | apply below_alloc | apply pw_below_drewN | apply below_drew1) | exact HB.out)) hb); clear HO_0; clear HB; have HO_0 := n0_; have HB := n1_; clear n0_ n1_; (try clear hb); (try clear hb2); (try clear hk); (try clear hi)))
          go_ret
          exact ⟨by first | rfl | (simp [errW_none, errW_some] <;> rfl) | (simp [*, errW_none, errW_some] <;> rfl), by repeat (first | (with_reducible first | exact HB.out | apply below_alloc | apply pw_below_drewN | apply below_drew1) | exact HB.out)⟩
      · rw [if_neg c3] at H
        have c3b0 : decide (0 < (x0_1.length : Int)) = false := decide_eq_false c3
        have c3b1 : decide (0 < x0_1.length) = false := decide_eq_false (by omega)
        clear c3
        obtain rfl := Option.some.inj H
        obtain ⟨Ao28, co28, eo28⟩ := Kd.V_slice HO_0.out
        subst eo28
        go_wp2
        go_ret
        exact ⟨by first | rfl | (simp [errW_none, errW_some] <;> rfl) | (simp [*, errW_none, errW_some] <;> rfl), by repeat (first | (with_reducible first | exact HB.out | apply below_alloc | apply pw_below_drewN | apply below_drew1) | exact HB.out)⟩

/-! ### tones_sturm_changes: function 61 -/
def tones_sturm_changes.l0 : Nat → Int → Int → Int → List (List (S87)) → Int → Int → Option (Int)
  | 0, _, _, _, _, _, _ => none
  | k + 1, x1, x5, x6, x10, x11, x12 => if x12 < x11 then (if 0 ≤ x12 then (if x12 < (x10.length : Int) then ((tones_list_near.f k (rd_L3 x10 x12) x1).bind fun t207 => (if t207 = (wrap64 (-x6)) then (tones_sturm_changes.l0 k x1 (wrap64 (x5 + 1)) t207 x10 x11 (wrap64 (x12 + 1))) else (tones_sturm_changes.l0 k x1 x5 t207 x10 x11 (wrap64 (x12 + 1))))) else (none)) else (none)) else (some x5)
def tones_sturm_changes.f (k : Nat) (l0 : List (List (S87))) (a1 : Int) : Option (Int) := tones_sturm_changes.l0 k a1 0 0 l0 (l0.length : Int) 0
theorem tones_sturm_changes.mono_l : ∀ k, (∀ y0 y1 y2 y3 y4 y5, LeO (tones_sturm_changes.l0 k y0 y1 y2 y3 y4 y5) (tones_sturm_changes.l0 (k + 1) y0 y1 y2 y3 y4 y5))
  | 0 => fun _ _ _ _ _ _ r h => by simp [tones_sturm_changes.l0] at h
  | k + 1 => by
    have ih0 := tones_sturm_changes.mono_l k
    · intro y0 y1 y2 y3 y4 y5
      unfold tones_sturm_changes.l0
      repeat' first
      | (with_reducible exact ih0 _ _ _ _ _ _)
      | (with_reducible exact tones_list_near.mono _ _ _)
      | (with_reducible exact LeO.refl _)
      | (with_reducible exact LeO.none _)
      | (with_reducible refine LeO.ite ?_ ?_)
      | (with_reducible refine LeO.bind ?_ (fun _ => ?_))
      | exact ih0 _ _ _ _ _ _
      | exact tones_list_near.mono _ _ _
      | exact LeO.none _
      | refine LeO.ite ?_ ?_
      | refine LeO.bind ?_ (fun _ => ?_)
theorem tones_sturm_changes.mono : ∀ a0 a1 k, LeO (tones_sturm_changes.f k a0 a1) (tones_sturm_changes.f (k + 1) a0 a1) := by
  intro a0 a1 k
  have ih0 := tones_sturm_changes.mono_l k
  unfold tones_sturm_changes.f
  repeat' first
      | (with_reducible exact ih0 _ _ _ _ _ _)
      | (with_reducible exact tones_list_near.mono _ _ _)
      | (with_reducible exact LeO.refl _)
      | (with_reducible exact LeO.none _)
      | (with_reducible refine LeO.ite ?_ ?_)
      | (with_reducible refine LeO.bind ?_ (fun _ => ?_))
      | exact ih0 _ _ _ _ _ _
      | exact tones_list_near.mono _ _ _
      | exact LeO.none _
      | refine LeO.ite ?_ ?_
      | refine LeO.bind ?_ (fun _ => ?_)
set_option maxHeartbeats 8000000 in
set_option maxRecDepth 100000 in
theorem tones_sturm_changes.calls (k : Nat) (A0 : Option Addr) (c0 : Nat) (l0 : List (List (S87))) (a1 : Int) (r : Int) (w : World) (hr0 : Kd.C (Kd.slice 87 k87) w A0 l0.length l0) (hc0 : l0.length ≤ c0) (h : tones_sturm_changes.f k l0 a1 = some r) :
    Calls Tryd.prog 61 #[.slice A0 l0.length c0, .int .i64 a1] w fun e w' => e = .returned (.int .i64 r) ∧ Below w.heap.size w w' := by
  have HR0 := Aside0.mk hr0
  have HC0 := Aside0.mk hc0
  clear hr0 hc0
  have HB := Aside0.mk (Below.refl w.heap.size w)
  have H : (tones_sturm_changes.l0 k a1 0 0 l0 (l0.length : Int) 0) = some r := h
  clear h
  have H' := Aside0.mk H
  clear H
  go_enter Tryd.func61, Tryd.ntmps61
  go_wp2
  go_loopg [5, 6, 12] k (fun kq v5 v6 v12 w' => ∃ (x5_1 : Int) (x6_1 : Int) (x12_1 : Int), v5 = .int .i64 x5_1 ∧ v6 = .int .i64 x6_1 ∧ v12 = .int .i64 x12_1 ∧ Aside0 (tones_sturm_changes.l0 kq a1 x5_1 x6_1 l0 (l0.length : Int) x12_1 = some r) ∧ Aside0 (kq ≤ k) ∧ Aside0 (Below w.heap.size w w'))
  case atStart => exact ⟨(0), (0), (0), (by first | rfl | (simp; done) | (simp [*]; done)), (by first | rfl | (simp; done) | (simp [*]; done)), (by first | rfl | (simp; done) | (simp [*]; done)), H', ⟨Nat.le_refl _⟩, ⟨by repeat (first | (with_reducible first | exact HB.out | apply below_alloc | apply pw_below_drewN | apply below_drew1) | exact HB.out)⟩⟩
  case round =>
    clear H'
    try clear p2
    obtain ⟨x5_1, x6_1, x12_1, rfl, rfl, rfl, HA, HK1, HB⟩ := hrel
    cases gk with
    | zero => exact absurd HA.out (by simp [tones_sturm_changes.l0])
    | succ k1 =>
      have H := HA.out
      clear HA
      simp only [tones_sturm_changes.l0] at H
      by_cases c3 : x12_1 < (l0.length : Int)
      · rw [if_pos c3] at H
        have c3b0 : decide (x12_1 < (l0.length : Int)) = true := decide_eq_true c3
        clear c3
        by_cases c4 : 0 ≤ x12_1
        · rw [if_pos c4] at H
          have c4b0 : decide (0 ≤ x12_1) = true := decide_eq_true c4
          clear c4
          by_cases c5 : x12_1 < (l0.length : Int)
          · rw [if_pos c5] at H
            have c5b0 : decide (x12_1 < (l0.length : Int)) = true := decide_eq_true c5
            clear c5
            replace H := Option.bind_eq_some_iff.mp H
            obtain ⟨t207, A60, H⟩ := H
            replace H : (if t207 = (wrap64 (-x6_1)) then (tones_sturm_changes.l0 k1 a1 (wrap64 (x5_1 + 1)) t207 l0 (l0.length : Int) (wrap64 (x12_1 + 1))) else (tones_sturm_changes.l0 k1 a1 x5_1 t207 l0 (l0.length : Int) (wrap64 (x12_1 + 1)))) = some r := H
            have A6 := Aside0.mk A60
            clear A60
            by_cases c7 : t207 = (wrap64 (-x6_1))
            · rw [if_pos c7] at H
              have c7b0 : (t207 == (wrap64 (-x6_1))) = true := beq_iff_eq.mpr c7
              have c7b1 : (t207 != (wrap64 (-x6_1))) = false := bne_eq_false_iff_eq.mpr c7
              clear c7
              have H' := Aside0.mk H
              clear H
              have p206 : 0 ≤ (x12_1 : Int) := of_decide_eq_true (by first | (with_reducible assumption) | assumption)
              have q206 : x12_1 < (l0.length : Int) := of_decide_eq_true (by first | (with_reducible assumption) | assumption)
              obtain ⟨ad206, A206_0, c206_0, e206, hx206_0, hl206_0, hi206_0⟩ := at_L3 HR0.out x12_1 p206 q206
              cases e206
              replace hx206_0 := (HB.out.cell (World.block_lt_of_cell? w _ hx206_0)).trans hx206_0
              have HR206_0 := Aside0.mk hi206_0
              have HC206_0 := Aside0.mk hl206_0
              clear hi206_0 hl206_0
              replace p206 := eq_true p206
              replace q206 := eq_true q206
              go_wp2_with (first | ((with_reducible refine gate_callee (f := 79) rfl ?_); refine goesL_ (some 18) rfl rfl Tryd.func79 (by kernel_rfl) rfl #[.slice A206_0 (rd_L3 l0 x12_1).length c206_0, .int .i64 a1] rfl (by (try simp only [List.map_toArray, List.map_cons, List.map_nil]); first | done | rfl | (simp only [List.length_drop, List.length_take]; rfl)) ?_; (with_reducible refine (tones_list_near.calls k1 (fun k_ => k_ < w.heap.size) _ _ (rd_L3 l0 x12_1) a1 t207 _ ?side1 A6.out).mono ?_); (case side1 => exact Kd.V_mk HC206_0.out (Kd.F_below (Kd.C_F k87_heap HR206_0.out) (by repeat (first | (with_reducible first | exact HB.out | apply below_alloc | apply pw_below_drewN | apply below_drew1) | exact HB.out)))); rintro e w8 ⟨rfl, hb⟩; refine ⟨_, rfl, ?_⟩; have n0_ := Aside0.mk (below_step (by repeat (first | (with_reducible first | exact HB.out | apply below_alloc | apply pw_below_drewN | apply below_drew1) | exact HB.out)) hb); clear HB; have HB := n0_; clear n0_; (try clear hb); (try clear hb2); (try clear hk); (try clear hi)))
              go_roundg k1
              case measure => have := HK1.out; omega
              case rel => exact ⟨(wrap64 (x5_1 + 1)), (t207), (wrap64 (x12_1 + 1)), (by first | rfl | (simp; done) | (simp [*]; done)), (by first | rfl | (simp; done) | (simp [*]; done)), (by first | rfl | (simp; done) | (simp [*]; done)), H', ⟨by have := HK1.out; omega⟩, ⟨by repeat (first | (with_reducible first | exact HB.out | apply below_alloc | apply pw_below_drewN | apply below_drew1) | exact HB.out)⟩⟩
            · rw [if_neg c7] at H
              have c7b0 : (t207 == (wrap64 (-x6_1))) = false := beq_eq_false_iff_ne.mpr c7
              have c7b1 : (t207 != (wrap64 (-x6_1))) = true := bne_iff_ne.mpr c7
              have H' := Aside0.mk H
              clear H
              have p206 : 0 ≤ (x12_1 : Int) := of_decide_eq_true (by first | (with_reducible assumption) | assumption)
              have q206 : x12_1 < (l0.length : Int) := of_decide_eq_true (by first | (with_reducible assumption) | assumption)
              obtain ⟨ad206, A206_0, c206_0, e206, hx206_0, hl206_0, hi206_0⟩ := at_L3 HR0.out x12_1 p206 q206
              cases e206
              replace hx206_0 := (HB.out.cell (World.block_lt_of_cell? w _ hx206_0)).trans hx206_0
              have HR206_0 := Aside0.mk hi206_0
              have HC206_0 := Aside0.mk hl206_0
              clear hi206_0 hl206_0
              replace p206 := eq_true p206
              replace q206 := eq_true q206
              go_wp2_with (first | ((with_reducible refine gate_callee (f := 79) rfl ?_); refine goesL_ (some 18) rfl rfl Tryd.func79 (by kernel_rfl) rfl #[.slice A206_0 (rd_L3 l0 x12_1).length c206_0, .int .i64 a1] rfl (by (try simp only [List.map_toArray, List.map_cons, List.map_nil]); first | done | rfl | (simp only [List.length_drop, List.length_take]; rfl)) ?_; (with_reducible refine (tones_list_near.calls k1 (fun k_ => k_ < w.heap.size) _ _ (rd_L3 l0 x12_1) a1 t207 _ ?side1 A6.out).mono ?_); (case side1 => exact Kd.V_mk HC206_0.out (Kd.F_below (Kd.C_F k87_heap HR206_0.out) (by repeat (first | (with_reducible first | exact HB.out | apply below_alloc | apply pw_below_drewN | apply below_drew1) | exact HB.out)))); rintro e w9 ⟨rfl, hb⟩; refine ⟨_, rfl, ?_⟩; have n0_ := Aside0.mk (below_step (by repeat (first | (with_reducible first | exact HB.out | apply below_alloc | apply pw_below_drewN | apply below_drew1) | exact HB.out)) hb); clear HB; have HB := n0_; clear n0_; (try clear hb); (try clear hb2); (try clear hk); (try clear hi)))
              go_roundg k1
              case measure => have := HK1.out; omega
              case rel => exact ⟨(x5_1), (t207), (wrap64 (x12_1 + 1)), (by first | rfl | (simp; done) | (simp [*]; done)), (by first | rfl | (simp; done) | (simp [*]; done)), (by first | rfl | (simp; done) | (simp [*]; done)), H', ⟨by have := HK1.out; omega⟩, ⟨by repeat (first | (with_reducible first | exact HB.out | apply below_alloc | apply pw_below_drewN | apply below_drew1) | exact HB.out)⟩⟩
          · rw [if_neg c5] at H
            exact absurd H (by simp)
        · rw [if_neg c4] at H
          exact absurd H (by simp)
      · rw [if_neg c3] at H
        have c3b0 : decide (x12_1 < (l0.length : Int)) = false := decide_eq_false c3
        clear c3
        obtain rfl := Option.some.inj H
        go_wp2
        go_ret
        exact ⟨by first | rfl | (simp [errW_none, errW_some] <;> rfl) | (simp [*, errW_none, errW_some] <;> rfl), by repeat (first | (with_reducible first | exact HB.out | apply below_alloc | apply pw_below_drewN | apply below_drew1) | exact HB.out)⟩

/-! ### clocheref08_Same: function 29 -/
def clocheref08_Same.l0 : Nat → List Int → List Int → Int → Option (Bool)
  | 0, _, _, _ => none
  | k + 1, x0, x1, x5 => if x5 < (x0.length : Int) then (if 0 ≤ x5 then (if x5 < (x1.length : Int) then (if (rd x0 x5) = (rd x1 x5) then (clocheref08_Same.l0 k x0 x1 (wrap64 (x5 + 1))) else (some false)) else (none)) else (none)) else (some true)
def clocheref08_Same.f (k : Nat) (l0 : List Int) (l1 : List Int) : Option (Bool) := if (l0.length : Int) = (l1.length : Int) then (clocheref08_Same.l0 k l0 l1 0) else (some false)
theorem clocheref08_Same.mono_l : ∀ k, (∀ y0 y1 y2, LeO (clocheref08_Same.l0 k y0 y1 y2) (clocheref08_Same.l0 (k + 1) y0 y1 y2))
  | 0 => fun _ _ _ r h => by simp [clocheref08_Same.l0] at h
  | k + 1 => by
    have ih0 := clocheref08_Same.mono_l k
    · intro y0 y1 y2
      unfold clocheref08_Same.l0
      repeat' first
      | (with_reducible exact ih0 _ _ _)
      | (with_reducible exact LeO.refl _)
      | (with_reducible exact LeO.none _)
      | (with_reducible refine LeO.ite ?_ ?_)
      | (with_reducible refine LeO.bind ?_ (fun _ => ?_))
      | exact ih0 _ _ _
      | exact LeO.none _
      | refine LeO.ite ?_ ?_
      | refine LeO.bind ?_ (fun _ => ?_)
theorem clocheref08_Same.mono : ∀ a0 a1 k, LeO (clocheref08_Same.f k a0 a1) (clocheref08_Same.f (k + 1) a0 a1) := by
  intro a0 a1 k
  have ih0 := clocheref08_Same.mono_l k
  unfold clocheref08_Same.f
  repeat' first
      | (with_reducible exact ih0 _ _ _)
      | (with_reducible exact LeO.refl _)
      | (with_reducible exact LeO.none _)
      | (with_reducible refine LeO.ite ?_ ?_)
      | (with_reducible refine LeO.bind ?_ (fun _ => ?_))
      | exact ih0 _ _ _
      | exact LeO.none _
      | refine LeO.ite ?_ ?_
      | refine LeO.bind ?_ (fun _ => ?_)
set_option maxHeartbeats 8000000 in
set_option maxRecDepth 100000 in
theorem clocheref08_Same.calls (k : Nat) (A0 : Option Addr) (c0 : Nat) (l0 : List Int) (A1 : Option Addr) (c1 : Nat) (l1 : List Int) (r : Bool) (w : World) (hr0 : Kd.C (Kd.int .i64) w A0 l0.length l0) (hc0 : l0.length ≤ c0) (hr1 : Kd.C (Kd.int .i64) w A1 l1.length l1) (hc1 : l1.length ≤ c1) (h : clocheref08_Same.f k l0 l1 = some r) :
    Calls Tryd.prog 29 #[.slice A0 l0.length c0, .slice A1 l1.length c1] w fun e w' => e = .returned (.bool r) ∧ Drawn0 w w' := by
  have HR0 := Aside0.mk hr0
  have HC0 := Aside0.mk hc0
  clear hr0 hc0
  have HR1 := Aside0.mk hr1
  have HC1 := Aside0.mk hc1
  clear hr1 hc1
  have H : (if (l0.length : Int) = (l1.length : Int) then (clocheref08_Same.l0 k l0 l1 0) else (some false)) = some r := h
  clear h
  by_cases c3 : (l0.length : Int) = (l1.length : Int)
  · rw [if_pos c3] at H
    have c3b0 : ((l0.length : Int) == (l1.length : Int)) = true := beq_iff_eq.mpr c3
    have c3b1 : ((l0.length : Int) != (l1.length : Int)) = false := bne_eq_false_iff_eq.mpr c3
    have c3b2 : (l0.length == l1.length) = true := by first | simpa using c3 | (simp at c3 ⊢; omega)
    clear c3
    have H' := Aside0.mk H
    clear H
    go_enter Tryd.func29, Tryd.ntmps29
    go_wp2
    repeat (go_quiet (fail); try go_wp2)
    go_loopg [5] k (fun kq v5 w' => ∃ (x5_1 : Int), v5 = .int .i64 x5_1 ∧ Aside0 (clocheref08_Same.l0 kq l0 l1 x5_1 = some r) ∧ Aside0 (kq ≤ k) ∧ Drawn0 w w')
    case atStart => exact ⟨(0), (by first | rfl | (simp; done) | (simp [*]; done)), H', ⟨Nat.le_refl _⟩, by repeat (first | exact Drawn0.refl _ | apply Drawn0.step)⟩
    case round =>
      clear H'
      try clear c1
      try clear c2
      try clear p2
      try clear c3
      try clear c3b0
      try clear c3b1
      try clear c3b2
      obtain ⟨x5_1, rfl, HA, HK1, ⟨m1, rfl⟩⟩ := hrel
      cases gk with
      | zero => exact absurd HA.out (by simp [clocheref08_Same.l0])
      | succ k1 =>
        have H := HA.out
        clear HA
        simp only [clocheref08_Same.l0] at H
        by_cases c4 : x5_1 < (l0.length : Int)
        · rw [if_pos c4] at H
          have c4b0 : decide (x5_1 < (l0.length : Int)) = true := decide_eq_true c4
          clear c4
          by_cases c5 : 0 ≤ x5_1
          · rw [if_pos c5] at H
            have c5b0 : decide (0 ≤ x5_1) = true := decide_eq_true c5
            clear c5
            by_cases c6 : x5_1 < (l1.length : Int)
            · rw [if_pos c6] at H
              have c6b0 : decide (x5_1 < (l1.length : Int)) = true := decide_eq_true c6
              clear c6
              by_cases c7 : (rd l0 x5_1) = (rd l1 x5_1)
              · rw [if_pos c7] at H
                have c7b0 : ((rd l0 x5_1) == (rd l1 x5_1)) = true := beq_iff_eq.mpr c7
                have c7b1 : ((rd l0 x5_1) != (rd l1 x5_1)) = false := bne_eq_false_iff_eq.mpr c7
                clear c7
                have H' := Aside0.mk H
                clear H
                have p208 : 0 ≤ (x5_1 : Int) := of_decide_eq_true (by first | (with_reducible assumption) | assumption)
                have q208 : x5_1 < (l0.length : Int) := of_decide_eq_true (by first | (with_reducible assumption) | assumption)
                obtain ⟨ad208, e208, hx208_0⟩ := Kd.at_int HR0.out x5_1 p208 q208
                cases e208
                replace p208 := eq_true p208
                replace q208 := eq_true q208
                have p209 : 0 ≤ (x5_1 : Int) := of_decide_eq_true (by first | (with_reducible assumption) | assumption)
                have q209 : x5_1 < (l1.length : Int) := of_decide_eq_true (by first | (with_reducible assumption) | assumption)
                obtain ⟨ad209, e209, hx209_0⟩ := Kd.at_int HR1.out x5_1 p209 q209
                cases e209
                replace p209 := eq_true p209
                replace q209 := eq_true q209
                go_wp2
                repeat (go_quiet (fail); try go_wp2)
                go_roundg k1
                case measure => have := HK1.out; omega
                case rel => exact ⟨(wrap64 (x5_1 + 1)), (by first | rfl | (simp; done) | (simp [*]; done)), H', ⟨by have := HK1.out; omega⟩, by repeat (first | exact Drawn0.refl _ | apply Drawn0.step)⟩
              · rw [if_neg c7] at H
                have c7b0 : ((rd l0 x5_1) == (rd l1 x5_1)) = false := beq_eq_false_iff_ne.mpr c7
                have c7b1 : ((rd l0 x5_1) != (rd l1 x5_1)) = true := bne_iff_ne.mpr c7
                obtain rfl := Option.some.inj H
                have p208 : 0 ≤ (x5_1 : Int) := of_decide_eq_true (by first | (with_reducible assumption) | assumption)
                have q208 : x5_1 < (l0.length : Int) := of_decide_eq_true (by first | (with_reducible assumption) | assumption)
                obtain ⟨ad208, e208, hx208_0⟩ := Kd.at_int HR0.out x5_1 p208 q208
                cases e208
                replace p208 := eq_true p208
                replace q208 := eq_true q208
                have p209 : 0 ≤ (x5_1 : Int) := of_decide_eq_true (by first | (with_reducible assumption) | assumption)
                have q209 : x5_1 < (l1.length : Int) := of_decide_eq_true (by first | (with_reducible assumption) | assumption)
                obtain ⟨ad209, e209, hx209_0⟩ := Kd.at_int HR1.out x5_1 p209 q209
                cases e209
                replace p209 := eq_true p209
                replace q209 := eq_true q209
                go_wp2
                repeat (go_quiet (fail); try go_wp2)
                go_ret
                exact ⟨by first | rfl | (simp; done) | (simp [*]; done), by repeat (first | exact Drawn0.refl _ | apply Drawn0.step)⟩
            · rw [if_neg c6] at H
              exact absurd H (by simp)
          · rw [if_neg c5] at H
            exact absurd H (by simp)
        · rw [if_neg c4] at H
          have c4b0 : decide (x5_1 < (l0.length : Int)) = false := decide_eq_false c4
          clear c4
          obtain rfl := Option.some.inj H
          go_wp2
          repeat (go_quiet (fail); try go_wp2)
          go_ret
          exact ⟨by first | rfl | (simp; done) | (simp [*]; done), by repeat (first | exact Drawn0.refl _ | apply Drawn0.step)⟩
  · rw [if_neg c3] at H
    have c3b0 : ((l0.length : Int) == (l1.length : Int)) = false := beq_eq_false_iff_ne.mpr c3
    have c3b1 : ((l0.length : Int) != (l1.length : Int)) = true := bne_iff_ne.mpr c3
    have c3b2 : (l0.length == l1.length) = false := by first | simpa using c3 | (simp at c3 ⊢; omega)
    obtain rfl := Option.some.inj H
    go_enter Tryd.func29, Tryd.ntmps29
    go_wp2
    repeat (go_quiet (fail); try go_wp2)
    go_ret
    exact ⟨by first | rfl | (simp; done) | (simp [*]; done), by repeat (first | exact Drawn0.refl _ | apply Drawn0.step)⟩

/-! ### clochelaw08_star: function 49 -/
def clochelaw08_star.f  : Option (List Int) := some (([30, 1, 1, 1, 1] : List Int))
set_option maxHeartbeats 8000000 in
set_option maxRecDepth 100000 in
theorem clochelaw08_star.calls  (r : List Int) (w : World) (h : clochelaw08_star.f  = some r) :
    Calls Tryd.prog 49 #[] w fun e w' => ∃ v0_ : Value, e = .returned (v0_) ∧ Kd.R (Kd.int .i64) 3 w' w.heap.size (fun _ => True) v0_ r ∧ Below w.heap.size w w' := by
  have HB := Aside0.mk (Below.refl w.heap.size w)
  have H : (some (([30, 1, 1, 1, 1] : List Int))) = some r := h
  clear h
  obtain ⟨y210, hy210⟩ : ∃ y_ : List Int, y_ = (([30, 1, 1, 1, 1] : List Int)) := ⟨_, rfl⟩
  replace H : (some y210) = some r := by first | (rw [hy210]; with_reducible exact H) | (have H2_ := (Option.bind_some _ _).symm.trans H; rw [hy210]; with_reducible exact H2_) | (have H2_ := (Option.bind_some _ _).symm.trans H; with_reducible exact H2_) | with_reducible exact H | (rw [hy210]; exact H) | exact H
  have Ny210 := Aside0.mk hy210
  clear hy210
  obtain rfl := Option.some.inj H
  go_enter Tryd.func49, Tryd.ntmps49
  go_wp2_with (first | ((with_reducible refine gate_dst (N := 1) rfl ?_); refine Kd.R_lit (Kd.int .i64) _ 3 ?hg (N := 1) ?hd (xs := ([30, 1, 1, 1, 1] : List Int)) (inner := [.int .i64 30, .int .i64 1, .int .i64 1, .int .i64 1, .int .i64 1]) (ok := fun _ => True) (okp := fun _ => True) ?hr ?hp (fun _ hk => hk) trivial (Below.refl _ _) (Nat.le_refl _) (by simp) ?_; (case hd => rfl); (case hg => rfl); (case hr => first | (go_simp; done) | (go_simp; rfl)); (case hp => exact (Reps.one (show Kd.M (Kd.int .i64) _ _ _ 30 [.int .i64 30] from rfl) (Reps.one (show Kd.M (Kd.int .i64) _ _ _ 1 [.int .i64 1] from rfl) (Reps.one (show Kd.M (Kd.int .i64) _ _ _ 1 [.int .i64 1] from rfl) (Reps.one (show Kd.M (Kd.int .i64) _ _ _ 1 [.int .i64 1] from rfl) (Reps.one (show Kd.M (Kd.int .i64) _ _ _ 1 [.int .i64 1] from rfl) (Reps.none _ _))))))); intro v211 w1 ho2 hb hg_ hnew_; clear hg_ hnew_; (first | rw [← Ny210.out] at ho2 | (simp only [Int.reduceToNat] at ho2; rw [← Ny210.out] at ho2)); have n0_ := Aside0.mk (Kd.R_lower ho2 (below_size (by repeat (first | (with_reducible first | exact HB.out | apply below_alloc | apply pw_below_drewN | apply below_drew1) | exact HB.out)))); have n1_ := Aside0.mk (below_step (by repeat (first | (with_reducible first | exact HB.out | apply below_alloc | apply pw_below_drewN | apply below_drew1) | exact HB.out)) hb); clear HB; have HO212 := n0_; have HB := n1_; clear n0_ n1_; clear hb ho2))
  go_ret
  exact ⟨_, by first | rfl | (simp [errW_none, errW_some] <;> rfl) | (simp [*, errW_none, errW_some] <;> rfl), by (with_reducible repeat (first | apply Kd.R_alloc | apply Kd.R_drewN | apply Kd.R_drew)); exact HO212.out, by repeat (first | (with_reducible first | exact HB.out | apply below_alloc | apply pw_below_drewN | apply below_drew1) | exact HB.out)⟩

/-! ### clochelaw08_ring: function 50 -/
def clochelaw08_ring.f  : Option (List Int) := some (([10, 5, 10, 5, 0] : List Int))
set_option maxHeartbeats 8000000 in
set_option maxRecDepth 100000 in
theorem clochelaw08_ring.calls  (r : List Int) (w : World) (h : clochelaw08_ring.f  = some r) :
    Calls Tryd.prog 50 #[] w fun e w' => ∃ v0_ : Value, e = .returned (v0_) ∧ Kd.R (Kd.int .i64) 3 w' w.heap.size (fun _ => True) v0_ r ∧ Below w.heap.size w w' := by
  have HB := Aside0.mk (Below.refl w.heap.size w)
  have H : (some (([10, 5, 10, 5, 0] : List Int))) = some r := h
  clear h
  obtain ⟨y213, hy213⟩ : ∃ y_ : List Int, y_ = (([10, 5, 10, 5, 0] : List Int)) := ⟨_, rfl⟩
  replace H : (some y213) = some r := by first | (rw [hy213]; with_reducible exact H) | (have H2_ := (Option.bind_some _ _).symm.trans H; rw [hy213]; with_reducible exact H2_) | (have H2_ := (Option.bind_some _ _).symm.trans H; with_reducible exact H2_) | with_reducible exact H | (rw [hy213]; exact H) | exact H
  have Ny213 := Aside0.mk hy213
  clear hy213
  obtain rfl := Option.some.inj H
  go_enter Tryd.func50, Tryd.ntmps50
  go_wp2_with (first | ((with_reducible refine gate_dst (N := 1) rfl ?_); refine Kd.R_lit (Kd.int .i64) _ 3 ?hg (N := 1) ?hd (xs := ([10, 5, 10, 5, 0] : List Int)) (inner := [.int .i64 10, .int .i64 5, .int .i64 10, .int .i64 5, .int .i64 0]) (ok := fun _ => True) (okp := fun _ => True) ?hr ?hp (fun _ hk => hk) trivial (Below.refl _ _) (Nat.le_refl _) (by simp) ?_; (case hd => rfl); (case hg => rfl); (case hr => first | (go_simp; done) | (go_simp; rfl)); (case hp => exact (Reps.one (show Kd.M (Kd.int .i64) _ _ _ 10 [.int .i64 10] from rfl) (Reps.one (show Kd.M (Kd.int .i64) _ _ _ 5 [.int .i64 5] from rfl) (Reps.one (show Kd.M (Kd.int .i64) _ _ _ 10 [.int .i64 10] from rfl) (Reps.one (show Kd.M (Kd.int .i64) _ _ _ 5 [.int .i64 5] from rfl) (Reps.one (show Kd.M (Kd.int .i64) _ _ _ 0 [.int .i64 0] from rfl) (Reps.none _ _))))))); intro v214 w1 ho2 hb hg_ hnew_; clear hg_ hnew_; (first | rw [← Ny213.out] at ho2 | (simp only [Int.reduceToNat] at ho2; rw [← Ny213.out] at ho2)); have n0_ := Aside0.mk (Kd.R_lower ho2 (below_size (by repeat (first | (with_reducible first | exact HB.out | apply below_alloc | apply pw_below_drewN | apply below_drew1) | exact HB.out)))); have n1_ := Aside0.mk (below_step (by repeat (first | (with_reducible first | exact HB.out | apply below_alloc | apply pw_below_drewN | apply below_drew1) | exact HB.out)) hb); clear HB; have HO215 := n0_; have HB := n1_; clear n0_ n1_; clear hb ho2))
  go_ret
  exact ⟨_, by first | rfl | (simp [errW_none, errW_some] <;> rfl) | (simp [*, errW_none, errW_some] <;> rfl), by (with_reducible repeat (first | apply Kd.R_alloc | apply Kd.R_drewN | apply Kd.R_drew)); exact HO215.out, by repeat (first | (with_reducible first | exact HB.out | apply below_alloc | apply pw_below_drewN | apply below_drew1) | exact HB.out)⟩

end Go.Proofs.YtglalkenkmijkaaDoor.PAll
/- Zeros: the walk. -/
namespace Go.Proofs.YtglalkenkmijkaaDoor.Hand
open Go.RowKit Go.Proofs.YtglalkenkmijkaaDoorW.PrintWords Go.Proofs.YtglalkenkmijkaaDoorW.PrintLast Go.Proofs.YtglalkenkmijkaaDoorW.PrintMore
open PAll
set_option linter.unusedVariables false
set_option linter.unusedSimpArgs false

def farB (x : Int) : Bool := decide (x < -100 ∨ 100 < x)
theorem far_eq (x : Int) : tones_far.f x = some (farB x) := by
  unfold tones_far.f farB
  split
  · simp; omega
  · congr 1
    simp; omega
theorem far_calls (x : Int) (b : Bool) (hb : farB x = b) (w : World) : Calls Tryd.prog 59 #[.int .i64 x] w fun e w' => e = .returned (.bool b) ∧ Drawn0 w w' := tones_far.calls x b w (by rw [far_eq, hb])
def zerosF (k : Nat) (l : List Int) (lo hi : Int) : Option (Int × Int) :=
  if askedF l = 0 then if l.length = 0 then some (0, 9) else if farB lo = true then some (0, 2) else if farB hi = true then some (0, 2) else if hi < lo then some (0, 2) else
    (chainF k k k l).bind fun s => (tones_sturm_changes.f k s lo).bind fun a => (tones_sturm_changes.f k s hi).bind fun b => some (wrap64 (a - b), 0)
  else some (0, askedF l)
set_option maxHeartbeats 4000000 in
set_option maxRecDepth 100000 in
theorem zeros_calls (k : Nat) (A0 : Option Addr) (c0 : Nat) (l : List Int) (lo hi r1 r2 : Int) (w : World) (hr0 : Kd.C (Kd.int .i64) w A0 l.length l) (hc0 : l.length ≤ c0) (h : zerosF k l lo hi = some (r1, r2)) :
    Calls Tryd.prog 25 #[.slice A0 l.length c0, .int .i64 lo, .int .i64 hi] w fun e w' => e = .returned (.tuple #[.int .i64 r1, .int .i64 r2]) ∧ Below w.heap.size w w' := by
  unfold zerosF at h
  have HC := Aside0.mk hr0
  have hlm := hr0.2.1
  clear hr0
  by_cases ha : askedF l = 0
  · rw [if_pos ha] at h
    have HA := Aside0.mk ha
    clear ha
    by_cases h0 : l.length = 0
    · rw [if_pos h0] at h
      injection h with h
      injection h with h1 h2
      subst h1
      subst h2
      have hz : ((l.length : Int) == 0) = true := by rw [h0]; rfl
      clear h0
      go_enter Tryd.func25, Tryd.ntmps25
      go_wp2_with (go_at_call 58; refine (asked_calls A0 c0 l 0 _ HC.out hc0 HA.out).mono ?_; rintro e w1 ⟨rfl, rfl⟩)
      go_ret2
      exact ⟨rfl, Below.refl _ _⟩
    · rw [if_neg h0] at h
      have hz : ((l.length : Int) == 0) = false := by simpa using h0
      clear h0
      cases hl1 : farB lo with
      | true =>
        rw [hl1, if_pos rfl] at h
        injection h with h
        injection h with h1 h2
        subst h1
        subst h2
        have HL1 := Aside0.mk hl1
        clear hl1
        go_enter Tryd.func25, Tryd.ntmps25
        go_wp2_with (first
          | (go_at_call 58; refine (asked_calls A0 c0 l 0 _ HC.out hc0 HA.out).mono ?_; rintro e w1 ⟨rfl, rfl⟩)
          | (go_at_call 59; refine (far_calls lo true HL1.out _).mono ?_; rintro e w1 ⟨rfl, ⟨n1, rfl⟩⟩))
        go_ret2
        exact ⟨rfl, by repeat (first | exact Below.refl _ _ | apply pw_below_drewN)⟩
      | false =>
        rw [hl1, if_neg (by decide)] at h
        have HL1 := Aside0.mk hl1
        clear hl1
        cases hl2 : farB hi with
        | true =>
          rw [hl2, if_pos rfl] at h
          injection h with h
          injection h with h1 h2
          subst h1
          subst h2
          have HL2 := Aside0.mk hl2
          clear hl2
          go_enter Tryd.func25, Tryd.ntmps25
          go_wp2_with (first
            | (go_at_call 58; refine (asked_calls A0 c0 l 0 _ HC.out hc0 HA.out).mono ?_; rintro e w1 ⟨rfl, rfl⟩)
            | (go_at_call 59; ((with_reducible refine (far_calls lo false HL1.out _).mono ?_); rintro e w1 ⟨rfl, ⟨n1, rfl⟩⟩))
            | (go_at_call 59; refine (far_calls hi true HL2.out _).mono ?_; rintro e w1 ⟨rfl, ⟨n2, rfl⟩⟩))
          go_ret2
          exact ⟨rfl, by repeat (first | exact Below.refl _ _ | apply pw_below_drewN)⟩
        | false =>
          rw [hl2, if_neg (by decide)] at h
          have HL2 := Aside0.mk hl2
          clear hl2
          by_cases hlt : hi < lo
          · rw [if_pos hlt] at h
            injection h with h
            injection h with h1 h2
            subst h1
            subst h2
            have d1 : decide (hi < lo) = true := decide_eq_true hlt
            go_enter Tryd.func25, Tryd.ntmps25
            go_wp2_with (first
              | (go_at_call 58; refine (asked_calls A0 c0 l 0 _ HC.out hc0 HA.out).mono ?_; rintro e w1 ⟨rfl, rfl⟩)
              | (go_at_call 59; ((with_reducible refine (far_calls lo false HL1.out _).mono ?_); rintro e w1 ⟨rfl, ⟨n1, rfl⟩⟩))
              | (go_at_call 59; refine (far_calls hi false HL2.out _).mono ?_; rintro e w1 ⟨rfl, ⟨n2, rfl⟩⟩))
            go_ret2
            exact ⟨rfl, by repeat (first | exact Below.refl _ _ | apply pw_below_drewN)⟩
          · rw [if_neg hlt] at h
            obtain ⟨s, hs, h1⟩ := Option.bind_eq_some_iff.1 h
            obtain ⟨a, hca, h2⟩ := Option.bind_eq_some_iff.1 h1
            obtain ⟨b, hcb, h3⟩ := Option.bind_eq_some_iff.1 h2
            injection h3 with h3
            injection h3 with h4 h5
            subst h4
            subst h5
            have HS := Aside0.mk hs
            have HCA := Aside0.mk hca
            have HCB := Aside0.mk hcb
            clear h h1 h2 hs hca hcb
            have d1 : decide (hi < lo) = false := decide_eq_false hlt
            go_enter Tryd.func25, Tryd.ntmps25
            go_wp2_with (first
              | (go_at_call 58; refine (asked_calls A0 c0 l 0 _ HC.out hc0 HA.out).mono ?_; rintro e w1 ⟨rfl, rfl⟩)
              | (go_at_call 59; ((with_reducible refine (far_calls lo false HL1.out _).mono ?_); rintro e w1 ⟨rfl, ⟨n1, rfl⟩⟩))
              | (go_at_call 59; refine (far_calls hi false HL2.out _).mono ?_; rintro e w1 ⟨rfl, ⟨n2, rfl⟩⟩)
              | (go_at_call 60; refine (chain_calls k k k A0 c0 l s _ (Kd.C_below HC.out (by repeat (first | exact Below.refl _ _ | apply pw_below_drewN))) hc0 HS.out).mono ?_; rintro e w2 ⟨v2, rfl, hN, hB⟩; have hb2 : Below w.heap.size w w2 := below_then (pw_below_drewN (Below.refl _ _) (n1 + n2)) (Nat.le_refl _) hB; have HB2 := Aside0.mk hb2; obtain ⟨A2, c2, e2, hl2, hC2⟩ := Kd.N_reads hN; subst e2; have HC2 := Aside0.mk hC2; clear hN hB hb2 hC2)
              | (go_at_call 61; ((with_reducible refine (tones_sturm_changes.calls k A2 c2 s lo a _ HC2.out hl2 HCA.out).mono ?_); rintro e w3 ⟨rfl, hB3⟩; have HB3 := Aside0.mk hB3; clear hB3))
              | (go_at_call 61; refine (tones_sturm_changes.calls k A2 c2 s hi b _ (Kd.C_below HC2.out HB3.out) hl2 HCB.out).mono ?_; rintro e w4 ⟨rfl, hB4⟩; have HB4 := Aside0.mk hB4; clear hB4))
            go_ret2
            exact ⟨rfl, below_then (below_then HB2.out HB2.out.size HB3.out) (Nat.le_trans HB2.out.size HB3.out.size) HB4.out⟩
  · rw [if_neg ha] at h
    injection h with h
    injection h with h1 h2
    subst h1
    obtain ⟨q, hq⟩ : ∃ q, askedF l = q := ⟨_, rfl⟩
    rw [hq] at h2 ha
    subst h2
    have HA := Aside0.mk hq
    have hz : (q == 0) = false := by simpa using ha
    clear hq ha
    go_enter Tryd.func25, Tryd.ntmps25
    go_wp2_with (go_at_call 58; refine (asked_calls A0 c0 l q _ HC.out hc0 HA.out).mono ?_; rintro e w1 ⟨rfl, rfl⟩)
    go_ret2
    exact ⟨rfl, Below.refl _ _⟩
end Go.Proofs.YtglalkenkmijkaaDoor.Hand
/- The closure 'more' of 'over': a walk. -/
namespace Go.Proofs.YtglalkenkmijkaaDoor.Hand
open Go.RowKit Go.Proofs.YtglalkenkmijkaaDoorW.PrintWords Go.Proofs.YtglalkenkmijkaaDoorW.PrintLast Go.Proofs.YtglalkenkmijkaaDoorW.PrintMore
open PAll (info3)
set_option linter.unusedVariables false
set_option linter.unusedSimpArgs false

/-- What 'more' holds of the world: the variable 'out', its row, all else kept. -/
structure MInv (w0 w W : World) (P : Nat → Prop) (Bo : Nat) (v : Value) (xs : List Int) : Prop where
  var : W.heap[Bo]? = some (.cells #[v] 22 (0, 0))
  row : Kd.R (Kd.int .i64) 3 W w0.heap.size (fun k => P k ∨ w.heap.size ≤ k) v xs
  kept : Kept w W P
  below : Below w0.heap.size w0 W

theorem more_keep {w0 w W w1 : World} {P : Nat → Prop} {Bo : Nat} {v : Value} {xs : List Int} (h : MInv w0 w W P Bo v xs) (hg : W.grownBy w1 v.ownBlock) : w1.heap[Bo]? = some (.cells #[v] 22 (0, 0)) :=
  (hg.block Bo (lt_of_block h.var) (Kd.R_ne h.row h.var (by decide))).trans h.var

theorem more_put {w0 w W w1 : World} {P : Nat → Prop} {Bo : Nat} {v v1 : Value} {xs ys : List Int} (h : MInv w0 w W P Bo v xs) (hg : W.grownBy w1 v.ownBlock)
    (hr : Kd.R (Kd.int .i64) 3 w1 w0.heap.size (fun k => P k ∨ w.heap.size ≤ k) v1 ys) (hb : Below w0.heap.size w0 w1) (hv : w1.heap[Bo]? = some (.cells #[v] 22 (0, 0))) (hP : P Bo) (hBo : w0.heap.size ≤ Bo) :
    MInv w0 w (w1.setCell ⟨Bo, 0, none⟩ v1) P Bo v1 ys where
  var := one_setCell hv
  row := Kd.R_set hr hv (by decide) 0 v1
  kept := (Kept.of_grown hg h.kept (fun k e => h.row.1 k e)).setCell (.inl hP) v1
  below := hb.setCell hBo v1

theorem more_add {w0 w W : World} {P : Nat → Prop} {Bo gb co j kn : Nat} {g : Int → Int} {l out xs : List Int} (h : MInv w0 w W P Bo (.slice (some ⟨gb, 0, none⟩) xs.length co) xs) (hp : ¬ xs.length ≤ j + kn)
    (hx : padTo (j + kn) xs = padTo (j + kn) (moreTo g kn l out j))
    (h2 : Kd.R (Kd.int .i64) 3 (W.setCell ⟨gb, ((j : Int) + kn).toNat, none⟩ (.int .i64 (wrap64 (rd xs ((j : Int) + kn) + g (rd l j))))) w0.heap.size (fun k => P k ∨ w.heap.size ≤ k) (.slice (some ⟨gb, 0, none⟩) xs.length co) (xs.set ((j : Int) + kn).toNat (wrap64 (rd xs ((j : Int) + kn) + g (rd l j)))) ∧ W.grownBy (W.setCell ⟨gb, ((j : Int) + kn).toNat, none⟩ (.int .i64 (wrap64 (rd xs ((j : Int) + kn) + g (rd l j))))) (some gb)) (a : Addr) (ha : a = ⟨gb, ((j : Int) + kn).toNat, none⟩) (u : Value) (hu : u = .int .i64 (wrap64 (rd xs ((j : Int) + kn) + g (rd l j)))) :
    MInv w0 w (W.setCell a u).drew P Bo (.slice (some ⟨gb, 0, none⟩) xs.length co) (moreTo g kn l out (j + 1)) := by
  subst ha hu
  have e : moreTo g kn l out (j + 1) = xs.set ((j : Int) + kn).toNat (wrap64 (rd xs ((j : Int) + kn) + g (rd l j))) := by
    show addAt (j + kn) _ _ = _
    unfold addAt
    rw [← hx, padTo_id _ _ (by omega), show ((j : Int) + kn).toNat = j + kn from by omega]
    rfl
  rw [e]
  have hb : w0.heap.size ≤ gb := own_base h.row.2.choose_spec.1 gb rfl
  exact ⟨(h2.2.block Bo (lt_of_block h.var) (Kd.R_ne h.row h.var (by decide))).trans h.var, Kd.R_drew h2.1, Kept.drew (Kept.of_grown h2.2 h.kept (fun k e => by cases e; exact h.row.1 _ rfl)), below_drew1 (h.below.setCell hb _)⟩

set_option maxHeartbeats 4000000 in
set_option maxRecDepth 100000 in
theorem more_calls (G : FuncId) (g : Int → Int) (hgc : ∀ s W, Sem.run Tryd.prog (callFunc G #[.int .i64 s]) W = .ok (.enter G #[.int .i64 s]) W) (hg : ∀ s w, Calls Tryd.prog G #[.int .i64 s] w fun e w' => e = .returned (.int .i64 (g s)) ∧ w = w')
    (kn : Nat) (A : Option Addr) (c : Nat) (l : List Int) (Bo : Nat) (v : Value) (out : List Int) (w0 w : World) (P : Nat → Prop)
    (hP : P Bo) (hBo : w0.heap.size ≤ Bo) (hl : ∀ W_, Kept w W_ P → Kd.C (Kd.int .i64) W_ A l.length l) (hlen : l.length ≤ 1000) (hkn : kn ≤ 1000) (hout : out.length ≤ 1000)
    (hI : MInv w0 w w P Bo v out) :
    Calls Tryd.prog 92 #[.int .i64 kn, .slice A l.length c, .func (.func G) #[] #[], .pointer (some ⟨Bo, 0, none⟩)] w fun e w' => e = .returned (.tuple #[]) ∧ ∃ v', MInv w0 w w' P Bo v' (moreL g kn l out) := by
  have HL := Aside0.mk hl
  have HI := Aside0.mk hI
  have HP := Aside0.mk hP
  have HG := Aside0.mk hg
  clear hl hI hP hg
  go_enter Tryd.func92, Tryd.ntmps92
  go_wp2
  go_loopg [11] l.length (fun gk v11 W => ∃ j : Nat, j ≤ l.length ∧ gk = l.length - j ∧ v11 = .int .i64 j ∧ Aside0 (∃ v, MInv w0 w W P Bo v (moreTo g kn l out j)))
  case atStart => exact ⟨0, by omega, by omega, rfl, ⟨v, HI.out⟩⟩
  case round =>
    obtain ⟨j, hj, rfl, rfl, HJ⟩ := hrel
    by_cases hlt : j < l.length
    · obtain ⟨v, hM⟩ := HJ.out
      clear HJ HI
      obtain ⟨ad, e, hcell⟩ := Kd.at_int (HL.out _ hM.kept) j (by omega) (by omega)
      cases e
      have hcell' : wr.cell? (ad.add j) = some (.int .i64 (rd l j)) := by simpa using hcell
      have hj0 : (0 : Int) ≤ j := by omega
      have hjl : (j : Int) < l.length := by omega
      have HM := Aside0.mk hM
      clear hM hcell
      go_wp2
      go_loopg [] (2001 - (moreTo g kn l out j).length) (fun gk W => ∃ (v : Value) (xs : List Int), gk = 2001 - xs.length ∧ xs.length ≤ 2001 ∧ Aside0 (padTo (j + kn) xs = padTo (j + kn) (moreTo g kn l out j)) ∧ Aside0 (MInv w0 w W P Bo v xs))
      case atStart => exact ⟨v, _, rfl, by have := moreTo_length_le g kn l out 2000 (by omega) j (by omega); omega, ⟨rfl⟩, HM⟩
      case round =>
        obtain ⟨v, xs, rfl, hx, HX, HM⟩ := hrel
        have hc := cell_of_one HM.out.var
        have hf := free_of_one HM.out.var
        obtain ⟨Ao, co, eo⟩ := Kd.R_slice HM.out.row
        subst eo
        by_cases hp : xs.length ≤ j + kn
        · have hlo : w.heap.size ≤ wr.heap.size := HM.out.kept.1
          have hlb : w0.heap.size ≤ wr.heap.size := HM.out.below.size
          have hp' : (xs.length : Int) ≤ j + kn := by omega
          go_wp2_with (at_builtin; go_must (refine Kd.R_append (Kd.int .i64) (w0 := w0) w0.heap.size rfl (.tmp 22) (.tmp 23) 22 3 (.int .i64 0) 8 rfl Tryd.underlying22 info3 rfl (by decide) (by omega) (.slice Ao xs.length co) xs 0 [.int .i64 0] (fun k => P k ∨ w.heap.size ≤ k) (fun _ => False) rfl rfl ?aP (fun _ hk => hk.elim) ?aF ?aO ?aB ?aS ?aL ?_; (case aP => exact rfl); (case aF => exact fun k hk => .inr (by omega)); (case aO => exact HM.out.row); (case aB => exact HM.out.below); (case aS => exact hlb); (case aL => omega); intro v1 w1 ho hb hg hat; obtain ⟨A1, c1, e1⟩ := Kd.R_slice ho; subst e1; have HO := Aside0.mk ho; have HBl := Aside0.mk hb; have HGr := Aside0.mk hg; have hvar1 : w1.heap[Bo]? = some (.cells #[.slice Ao xs.length co] 22 (0, 0)) := more_keep HM.out hg; clear ho hb hg hat; have hc1 := cell_of_one hvar1; have hf1 := free_of_one hvar1; have HV := Aside0.mk hvar1; clear hvar1))
          have HO2 : Kd.R (Kd.int .i64) 3 w1 w0.heap.size (fun k => P k ∨ w.heap.size ≤ k) (.slice A1 (xs.length + 1) c1) (xs ++ [0]) := by have := HO.out; rwa [List.length_append] at this
          have HO3 := Aside0.mk HO2
          clear HO2
          go_roundg (2001 - (xs.length + 1))
          case measure => omega
          case rel => exact ⟨_, xs ++ [0], by simp, by simp; omega, ⟨(padTo_snoc _ _ hp).trans HX.out⟩, ⟨more_put HM.out HGr.out HO3.out HBl.out HV.out HP.out hBo⟩⟩
        · have hq : (j : Int) + kn < xs.length := by omega
          have hq0 : (0 : Int) ≤ (j : Int) + kn := by omega
          obtain ⟨gb, co2, eo2, gb2, gl2, cl2, HG2⟩ := Kd.R_form HM.out.row (by omega)
          injection eo2 with ea_ en_ ec_
          subst ea_; subst ec_; clear en_
          obtain ⟨hx0, hf0⟩ := Kd.R_celln 0 HM.out.row ((j : Int) + kn) hq0 hq
          have hx0' : wr.cell? ⟨gb, ((j : Int) + kn).toNat, none⟩ = some (.int .i64 (rd xs ((j : Int) + kn))) := hx0
          clear hx0
          have HP2 := Aside0.mk (Kd.R_putg HM.out.row ((j : Int) + kn) (wrap64 (rd xs ((j : Int) + kn) + g (rd l j))))
          have G2 := Aside0.mk gb2
          clear gb2 gl2 cl2 HG2
          go_wp2
          have hw1 : IntKind.i64.wrap ((j : Int) + kn) = j + kn := IntWalk.i64_in _ (by omega)
          go_region_with (first | (refine (HG.out _ _).mono ?_; rintro e w' ⟨rfl, rfl⟩))
          all_goals
            go_wp2
            go_roundg (l.length - (j + 1))
            case measure => omega
            case rel => exact ⟨j + 1, by omega, rfl, by simp, ⟨_, more_add HM.out hp HX.out HP2.out _ (by first | rfl | (congr 1; omega)) _ (by first | rfl | rw [i64_w])⟩⟩
    · have he : j = l.length := by omega
      subst he
      go_wp2
      go_end0
      exact ⟨rfl, HJ.out⟩
end Go.Proofs.YtglalkenkmijkaaDoor.Hand
/- What 'over' and its closure 'on' compute, in rounds; what they hold of the world. -/
namespace Go.Proofs.YtglalkenkmijkaaDoor.Hand
open Go.RowKit Go.Proofs.YtglalkenkmijkaaDoorW.PrintWords Go.Proofs.YtglalkenkmijkaaDoorW.PrintLast Go.Proofs.YtglalkenkmijkaaDoorW.PrintMore
set_option linter.unusedVariables false
set_option linter.unusedSimpArgs false

/-- A set without a number. -/
def sub1 (s k : Int) : Int := Go.bits .andNot .i64 s (2 ^ k.toNat)
/-- Is a number in a set? -/
def tst (s k : Int) : Bool := Go.bits .and .i64 (s / 2 ^ k.toNat) 1 == 1
def moreO (g : Int → Int) (kn : Int) (l out : List Int) : Option (List Int) := if l.length ≤ 1000 ∧ 0 ≤ kn ∧ kn ≤ 1000 ∧ out.length ≤ 1000 then some (moreL g kn.toNat l out) else none

/-- May a set be one of knots? -/
def okS (s : Int) : Bool := decide (0 ≤ s ∧ s < 128)
mutual
def overF (f : List Int) (gw gr : Int → Int) : Nat → Int → Option (List Int)
  | 0, _ => none
  | m + 1, left => if left = 0 then some [1] else if okS left = true ∧ ctz left < f.length ∧ okS (sub1 left (ctz left)) = true then
      ((overF f gw gr m (sub1 left (ctz left))).bind fun out => (wiresF f gw gr m (ctz left) (sub1 left (ctz left)) 0 out)).bind fun out => onF f gw gr m (ctz left) (sub1 left (ctz left)) (ctz left) 0 0 out
    else none
def wiresF (f : List Int) (gw gr : Int → Int) : Nat → Int → Int → Nat → List Int → Option (List Int)
  | 0, _, _, _, _ => none
  | m + 1, i, left, j, out => if j < f.length then
      if tst (Go.bits .and .i64 (rd f i) left) j = true then if okS (sub1 left j) = true then ((overF f gw gr m (sub1 left j)).bind fun l => moreO gw 2 l out).bind fun out => wiresF f gw gr m i left (j + 1) out else none
      else wiresF f gw gr m i left (j + 1) out
    else some out
def onF (f : List Int) (gw gr : Int → Int) : Nat → Int → Int → Int → Int → Int → List Int → Option (List Int)
  | 0, _, _, _, _, _, _ => none
  | m + 1, i, left, at_, second, met, out => if 0 ≤ at_ ∧ at_ < f.length ∧ okS met = true then onL f gw gr m i left at_ second met 0 out else none
def onL (f : List Int) (gw gr : Int → Int) : Nat → Int → Int → Int → Int → Int → Nat → List Int → Option (List Int)
  | 0, _, _, _, _, _, _, _ => none
  | m + 1, i, left, at_, second, met, k, out => if k < f.length then
      if Go.bits .and .i64 (Go.bits .andNot .i64 (Go.bits .and .i64 (rd f at_) left) met / 2 ^ k) 1 = 0 then onL f gw gr m i left at_ second met (k + 1) out
      else (if 0 < met ∧ second < (k : Int) ∧ tst (rd f k) i = true then
          if okS (sub1 (Go.bits .andNot .i64 left met) k) = true then (overF f gw gr m (sub1 (Go.bits .andNot .i64 left met) k)).bind fun l => moreO gr (pop met + 2) l out else none
        else some out).bind fun out => (onF f gw gr m i left k (if met = 0 then (k : Int) else second) (Go.bits .or .i64 met (2 ^ k)) out).bind fun out => onL f gw gr m i left at_ second met (k + 1) out
    else some out
end

/-- The blocks of over's variables. -/
structure OB where
  f : Nat
  l : Nat
  x : Nat
  i : Nat
  o : Nat
  m : Nat
  n : Nat
/-- The blocks that may be written: the variable 'out', its row, what is new. -/
def OP (w0 : World) (b : OB) (k : Nat) : Prop := w0.heap.size ≤ k ∧ k ≠ b.f ∧ k ≠ b.l ∧ k ≠ b.x ∧ k ≠ b.i ∧ k ≠ b.m ∧ k ≠ b.n
def moreV (b : OB) : Value := .func (.func 92) #[] #[.pointer (some ⟨b.o, 0, none⟩)]
def onV (b : OB) : Value := .func (.func 93) #[] #[.pointer (some ⟨b.f, 0, none⟩), .pointer (some ⟨b.l, 0, none⟩), .pointer (some ⟨b.i, 0, none⟩), .pointer (some ⟨b.m, 0, none⟩), .pointer (some ⟨b.x, 0, none⟩), .pointer (some ⟨b.n, 0, none⟩)]
/-- What stands while figures are added up. -/
structure Ov (w0 : World) (A : Option Addr) (c : Nat) (f : List Int) (left i : Int) (Gw Gr : FuncId) (b : OB) (W : World) : Prop where
  bf : W.heap[b.f]? = some (.cells #[.slice A f.length c] 52 (0, 0))
  bl : W.heap[b.l]? = some (.cells #[.int .i64 left] 3 (0, 0))
  bx : W.heap[b.x]? = some (.cells #[.func (.func Gw) #[] #[], .func (.func Gr) #[] #[]] 57 (0, 0))
  bi : W.heap[b.i]? = some (.cells #[.int .i64 i] 3 (0, 0))
  bm : W.heap[b.m]? = some (.cells #[moreV b] 104 (0, 0))
  frame : Kd.C (Kd.int .i64) w0 A f.length f
  below : Below w0.heap.size w0 W
  op : OP w0 b b.o
theorem Ov.kept {w0 W W' : World} {A : Option Addr} {c : Nat} {f : List Int} {left i : Int} {Gw Gr : FuncId} {b : OB} {S : Nat → Prop} (h : Ov w0 A c f left i Gw Gr b W) (hk : Kept W W' S) (hS : ∀ k, S k → OP w0 b k) (hb : Below w0.heap.size w0 W') : Ov w0 A c f left i Gw Gr b W' where
  bf := (hk.2 _ (lt_of_block h.bf) (fun e => (hS _ e).2.1 rfl)).trans h.bf
  bl := (hk.2 _ (lt_of_block h.bl) (fun e => (hS _ e).2.2.1 rfl)).trans h.bl
  bx := (hk.2 _ (lt_of_block h.bx) (fun e => (hS _ e).2.2.2.1 rfl)).trans h.bx
  bi := (hk.2 _ (lt_of_block h.bi) (fun e => (hS _ e).2.2.2.2.1 rfl)).trans h.bi
  bm := (hk.2 _ (lt_of_block h.bm) (fun e => (hS _ e).2.2.2.2.2.1 rfl)).trans h.bm
  frame := h.frame
  below := hb
  op := h.op
theorem Ov.reads {w0 W : World} {A : Option Addr} {c : Nat} {f : List Int} {left i : Int} {Gw Gr : FuncId} {b : OB} (h : Ov w0 A c f left i Gw Gr b W) : Kd.C (Kd.int .i64) W A f.length f := Kd.C_below h.frame h.below
/-- The same, with the variable 'out' and its row. -/
structure Oo (w0 : World) (A : Option Addr) (c : Nat) (f : List Int) (left i : Int) (Gw Gr : FuncId) (b : OB) (v : Value) (out : List Int) (W : World) : Prop where
  ov : Ov w0 A c f left i Gw Gr b W
  var : W.heap[b.o]? = some (.cells #[v] 22 (0, 0))
  row : Kd.R (Kd.int .i64) 3 W w0.heap.size (OP w0 b) v out

/-- Whatever has made memory alone. -/
theorem Oo.grow {w0 W W' : World} {A : Option Addr} {c : Nat} {f : List Int} {left i : Int} {Gw Gr : FuncId} {b : OB} {v : Value} {out : List Int} (h : Oo w0 A c f left i Gw Gr b v out W) (hb : Below W.heap.size W W') : Oo w0 A c f left i Gw Gr b v out W' where
  ov := h.ov.kept (Kept.of_below hb (fun _ => False)) (fun _ e => e.elim) (below_then h.ov.below h.ov.below.size hb)
  var := (hb.block _ (lt_of_block h.var)).trans h.var
  row := Kd.R_below h.row hb

/-- The call of 'more', behind a call that made l. -/
theorem Oo.minv {w0 W W' : World} {A : Option Addr} {c : Nat} {f : List Int} {left i : Int} {Gw Gr : FuncId} {b : OB} {v : Value} {out : List Int} (h : Oo w0 A c f left i Gw Gr b v out W) (hb : Below W.heap.size W W') :
    MInv w0 W' W' (fun k => OP w0 b k ∧ k < W.heap.size) b.o v out where
  var := (h.grow hb).var
  row := Kd.R_mono (Kd.R_step (Kd.R_bound h.row) (fun _ hk _ => hb.block _ hk.2.2.1)) (fun k hk => .inl ⟨hk.1, hk.2.2.1⟩)
  kept := Kept.refl _ _
  below := (h.grow hb).ov.below
theorem Oo.of_minv {w0 W W' W'' : World} {A : Option Addr} {c : Nat} {f : List Int} {left i : Int} {Gw Gr : FuncId} {b : OB} {v v' : Value} {out out' : List Int} (h : Oo w0 A c f left i Gw Gr b v out W) (hb : Below W.heap.size W W') (hn : b.n < W'.heap.size)
    (hm : MInv w0 W' W'' (fun k => OP w0 b k ∧ k < W.heap.size) b.o v' out') : Oo w0 A c f left i Gw Gr b v' out' W'' := by
  have h' := h.grow hb
  refine ⟨h'.ov.kept hm.kept (fun k e => e.1) hm.below, hm.var, Kd.R_mono hm.row (fun k hk => ?_)⟩
  rcases hk with hk | hk
  · exact hk.1
  · have := lt_of_block h'.ov.bf; have := lt_of_block h'.ov.bl; have := lt_of_block h'.ov.bx; have := lt_of_block h'.ov.bi; have := lt_of_block h'.ov.bm; have := h'.ov.below.size
    exact ⟨by omega, by omega, by omega, by omega, by omega, by omega, by omega⟩
end Go.Proofs.YtglalkenkmijkaaDoor.Hand
/- 'over': a walk. -/
namespace Go.Proofs.YtglalkenkmijkaaDoor.Hand
open Go.RowKit Go.Proofs.YtglalkenkmijkaaDoorW.PrintWords Go.Proofs.YtglalkenkmijkaaDoorW.PrintLast Go.Proofs.YtglalkenkmijkaaDoorW.PrintMore
open PAll (info3)
set_option linter.unusedVariables false
set_option linter.unusedSimpArgs false

theorem ctz_range (x : Int) (h0 : 0 < x) (h1 : x < 128) : 0 ≤ ctz x ∧ ctz x ≤ 6 := by
  obtain ⟨n, rfl⟩ := Int.eq_ofNat_of_zero_le (Int.le_of_lt h0)
  exact (deB_nat n (by omega) (by omega)).2.2.2
theorem pow_in (i : Int) (h0 : 0 ≤ i) (h1 : i ≤ 6) : IntKind.i64.wrap (2 ^ i.toNat) = 2 ^ i.toNat := by
  obtain ⟨n, rfl⟩ := Int.eq_ofNat_of_zero_le h0
  have : n < 7 := by omega
  clear h0 h1
  revert this
  revert n
  decide +kernel

theorem R_fresh (W : World) (base : Nat) (hb : base ≤ W.heap.size) (xs : List Int) (hm : xs.length ≤ maxLen) : Kd.R (Kd.int .i64) 3 (W.alloc (.cells (nums .i64 xs).toArray 3)) base (fun _ => True) (.slice (some ⟨W.heap.size, 0, none⟩) xs.length xs.length) xs := by
  refine ⟨fun _ _ => trivial, nums .i64 xs, ⟨?_, .inr ⟨W.heap.size, xs.length, (nums .i64 xs).toArray, rfl, hb, heap_alloc_new _ _, Nat.le_refl _, hm, ?_, ?_⟩⟩, ?_, ?_⟩
  · simp [nums, Kd.int, Kd.scalar]
  · simp [nums, Kd.int, Kd.scalar]
  · simp [nums, Kd.int, Kd.scalar]
    rw [List.take_of_length_le (by simp)]
  · simp [nums, Kd.int, Kd.scalar]
  · intro j p hj
    show _ = [Value.int .i64 p]
    have hj' : (nums .i64 xs)[j]? = some (.int .i64 p) := by simp [nums, hj]
    show List.take 1 (List.drop (j * 1) (nums .i64 xs)) = _
    rw [Nat.mul_one, List.take_one]
    simp [List.head?_drop, hj']

theorem four_blocks (w : World) (o0 o1 o2 o3 : Obj) : ((((w.alloc o0).alloc o1).alloc o2).alloc o3).drew.heap.size = w.heap.size + 4 ∧ ((((w.alloc o0).alloc o1).alloc o2).alloc o3).drew.heap[w.heap.size]? = some o0 ∧ ((((w.alloc o0).alloc o1).alloc o2).alloc o3).drew.heap[w.heap.size + 1]? = some o1 ∧ ((((w.alloc o0).alloc o1).alloc o2).alloc o3).drew.heap[w.heap.size + 2]? = some o2 ∧ ((((w.alloc o0).alloc o1).alloc o2).alloc o3).drew.heap[w.heap.size + 3]? = some o3 := by
  show ((((w.alloc o0).alloc o1).alloc o2).alloc o3).heap.size = _ ∧ ((((w.alloc o0).alloc o1).alloc o2).alloc o3).heap[_]? = _ ∧ ((((w.alloc o0).alloc o1).alloc o2).alloc o3).heap[_]? = _ ∧ ((((w.alloc o0).alloc o1).alloc o2).alloc o3).heap[_]? = _ ∧ ((((w.alloc o0).alloc o1).alloc o2).alloc o3).heap[_]? = _
  have s1 : (w.alloc o0).heap.size = w.heap.size + 1 := World.size_alloc ..
  have s2 : ((w.alloc o0).alloc o1).heap.size = w.heap.size + 2 := (World.size_alloc ..).trans (by rw [s1])
  have s3 : (((w.alloc o0).alloc o1).alloc o2).heap.size = w.heap.size + 3 := (World.size_alloc ..).trans (by rw [s2])
  refine ⟨(World.size_alloc ..).trans (by rw [s3]), ?_, ?_, ?_, ?_⟩
  · rw [Below.heap_alloc _ _ _ (by omega), Below.heap_alloc _ _ _ (by omega), Below.heap_alloc _ _ _ (by omega)]; exact heap_alloc_new w o0
  · rw [Below.heap_alloc _ _ _ (by omega), Below.heap_alloc _ _ _ (by omega), ← s1]; exact heap_alloc_new _ o1
  · rw [Below.heap_alloc _ _ _ (by omega), ← s2]; exact heap_alloc_new _ o2
  · rw [← s3]; exact heap_alloc_new _ o3
theorem four_below (w : World) (o0 o1 o2 o3 : Obj) : Below w.heap.size w ((((w.alloc o0).alloc o1).alloc o2).alloc o3).drew :=
  (below_alloc (below_alloc (below_alloc (below_alloc (Below.refl _ _) _) _) _) _).drew

theorem over_start {w W1 w2 : World} {A : Option Addr} {c : Nat} {f : List Int} {left i : Int} {Gw Gr : FuncId} {v : Value} {out : List Int} (hC : Kd.C (Kd.int .i64) w A f.length f) (hb1 : Below w.heap.size w W1) (hz : W1.heap.size = w.heap.size + 4)
    (e0 : W1.heap[w.heap.size]? = some (.cells #[.slice A f.length c] 52 (0, 0))) (e1 : W1.heap[w.heap.size + 1]? = some (.cells #[.int .i64 (sub1 left i)] 3 (0, 0))) (e2 : W1.heap[w.heap.size + 2]? = some (.cells #[.func (.func Gw) #[] #[], .func (.func Gr) #[] #[]] 57 (0, 0))) (e3 : W1.heap[w.heap.size + 3]? = some (.cells #[.int .i64 i] 3 (0, 0)))
    (hb2 : Below W1.heap.size W1 w2) (ho : Kd.R (Kd.int .i64) 3 w2 W1.heap.size (fun _ => True) v out) :
    Oo w A c f (sub1 left i) i Gw Gr ⟨w.heap.size, w.heap.size + 1, w.heap.size + 2, w.heap.size + 3, w2.heap.size, w2.heap.size + 1, w2.heap.size + 1⟩ v out ((w2.alloc (.cells #[v] 22)).alloc (.cells #[.func (.func 92) #[] #[.pointer (some ⟨w2.heap.size, 0, none⟩)]] 104)) := by
  have hs := hb2.size
  have s1 : (w2.alloc (.cells #[v] 22)).heap.size = w2.heap.size + 1 := World.size_alloc ..
  have old : ∀ k, k < W1.heap.size → ((w2.alloc (.cells #[v] 22)).alloc (.cells #[.func (.func 92) #[] #[.pointer (some ⟨w2.heap.size, 0, none⟩)]] 104)).heap[k]? = W1.heap[k]? := fun k hk => by
    rw [Below.heap_alloc _ _ _ (by omega), Below.heap_alloc _ _ _ (by omega)]; exact hb2.block k hk
  have hB : Below w.heap.size w ((w2.alloc (.cells #[v] 22)).alloc (.cells #[.func (.func 92) #[] #[.pointer (some ⟨w2.heap.size, 0, none⟩)]] 104)) := below_alloc (below_alloc (below_then hb1 (by omega) hb2) _) _
  refine ⟨⟨(old _ (by show w.heap.size < _; omega)).trans e0, (old _ (by show w.heap.size + 1 < _; omega)).trans e1, (old _ (by show w.heap.size + 2 < _; omega)).trans e2, (old _ (by show w.heap.size + 3 < _; omega)).trans e3, ?_, hC, hB, ?_⟩, ?_, ?_⟩
  · show _[w2.heap.size + 1]? = _
    rw [← s1]; exact heap_alloc_new _ _
  · exact ⟨by show w.heap.size ≤ w2.heap.size; omega, by show w2.heap.size ≠ w.heap.size; omega, by show w2.heap.size ≠ w.heap.size + 1; omega, by show w2.heap.size ≠ w.heap.size + 2; omega, by show w2.heap.size ≠ w.heap.size + 3; omega, by show w2.heap.size ≠ w2.heap.size + 1; omega, by show w2.heap.size ≠ w2.heap.size + 1; omega⟩
  · show _[w2.heap.size]? = _
    rw [Below.heap_alloc _ _ _ (by omega)]; exact heap_alloc_new _ _
  · refine Kd.R_alloc (Kd.R_alloc (Kd.R_lower (Kd.R_mono (Kd.R_bound ho) (fun k hk => ?_)) (by omega)) _) _
    obtain ⟨_, h1, h2, _⟩ := hk
    exact ⟨by omega, by show k ≠ w.heap.size; omega, by show k ≠ w.heap.size + 1; omega, by show k ≠ w.heap.size + 2; omega, by show k ≠ w.heap.size + 3; omega, by show k ≠ w2.heap.size + 1; omega, by show k ≠ w2.heap.size + 1; omega⟩

theorem more_calls' (G : FuncId) (g : Int → Int) (hF : IsFn G g) (kn : Int) (h0 : 0 ≤ kn) (h1 : kn ≤ 1000) (A : Option Addr) (c : Nat) (l : List Int) (Bo : Nat) (v : Value) (out : List Int) (w0 w : World) (P : Nat → Prop)
    (hP : P Bo) (hBo : w0.heap.size ≤ Bo) (hl : ∀ W_, Kept w W_ P → Kd.C (Kd.int .i64) W_ A l.length l) (hlen : l.length ≤ 1000) (hout : out.length ≤ 1000)
    (hI : MInv w0 w w P Bo v out) :
    Calls Tryd.prog 92 #[.int .i64 kn, .slice A l.length c, .func (.func G) #[] #[], .pointer (some ⟨Bo, 0, none⟩)] w fun e w' => e = .returned (.tuple #[]) ∧ ∃ v', MInv w0 w w' P Bo v' (moreL g kn.toNat l out) := by
  obtain ⟨n, rfl⟩ := Int.eq_ofNat_of_zero_le h0
  exact more_calls G g (fun s W => hF.enters _ W) hF.calls n A c l Bo v out w0 w P hP hBo hl hlen (by omega) hout hI
theorem kept_reads {W3 W_ : World} {Q : Nat → Prop} {base : Nat} {A : Option Addr} {c : Nat} {l : List Int} (hR : Kd.R (Kd.int .i64) 3 W3 base (fun _ => True) (.slice A l.length c) l) (hk : Kept W3 W_ (fun k => Q k ∧ k < base)) : Kd.C (Kd.int .i64) W_ A l.length l := by
  obtain ⟨A', c', e, _, h⟩ := Kd.R_reads (Kd.R_kept (Kd.R_bound hR) hk (fun k h1 h2 => by have := h1.2.1; omega))
  injection e with e1 e2 e3
  subst e1
  exact h

theorem on_start {w0 W : World} {A : Option Addr} {c : Nat} {f : List Int} {left i : Int} {Gw Gr : FuncId} {b : OB} {v : Value} {out : List Int} (h : Oo w0 A c f left i Gw Gr b v out W) (o : Obj) :
    Oo w0 A c f left i Gw Gr ⟨b.f, b.l, b.x, b.i, b.o, b.m, W.heap.size⟩ v out (W.alloc o) := by
  have g := h.grow (below_alloc (Below.refl _ _) o)
  have hn : ∀ k, OP w0 b k → k < W.heap.size → OP w0 ⟨b.f, b.l, b.x, b.i, b.o, b.m, W.heap.size⟩ k := fun k hk hl => ⟨hk.1, hk.2.1, hk.2.2.1, hk.2.2.2.1, hk.2.2.2.2.1, hk.2.2.2.2.2.1, by show k ≠ W.heap.size; omega⟩
  exact ⟨⟨g.ov.bf, g.ov.bl, g.ov.bx, g.ov.bi, g.ov.bm, g.ov.frame, g.ov.below, hn _ h.ov.op (lt_of_block h.var)⟩, g.var, Kd.R_alloc (Kd.R_mono (Kd.R_bound h.row) (fun k hk => hn k hk.1 hk.2.2.1)) o⟩

def OverSaid (f : List Int) (gw gr : Int → Int) (m : Nat) : Prop := ∀ (A : Option Addr) (c : Nat) (left : Int) (r : List Int) (Gw Gr : FuncId) (w : World), IsFn Gw gw → IsFn Gr gr → Glob w → Kd.C (Kd.int .i64) w A f.length f → f.length ≤ c → f.length ≤ 7 → (∀ j, 0 ≤ rd f j ∧ rd f j < 128) → okS left = true → overF f gw gr m left = some r →
  Calls Tryd.prog 71 #[.slice A f.length c, .int .i64 left, .agg #[.func (.func Gw) #[] #[], .func (.func Gr) #[] #[]]] w fun e w' => ∃ v, e = .returned v ∧ Kd.R (Kd.int .i64) 3 w' w.heap.size (fun _ => True) v r ∧ Below w.heap.size w w'

def OnSaid (f : List Int) (gw gr : Int → Int) (m : Nat) : Prop := ∀ (A : Option Addr) (c : Nat) (left i at_ second met : Int) (out out' : List Int) (v : Value) (Gw Gr : FuncId) (b : OB) (w0 W : World), IsFn Gw gw → IsFn Gr gr → Glob w0 → Oo w0 A c f left i Gw Gr b v out W → W.heap[b.n]? = some (.cells #[onV b] 105 (0, 0)) → f.length ≤ c → f.length ≤ 7 → (∀ j, 0 ≤ rd f j ∧ rd f j < 128) → okS left = true → 0 ≤ i → i ≤ 6 → onF f gw gr m i left at_ second met out = some out' →
  Calls Tryd.prog 93 #[.int .i64 at_, .int .i64 second, .int .i64 met, .pointer (some ⟨b.f, 0, none⟩), .pointer (some ⟨b.l, 0, none⟩), .pointer (some ⟨b.i, 0, none⟩), .pointer (some ⟨b.m, 0, none⟩), .pointer (some ⟨b.x, 0, none⟩), .pointer (some ⟨b.n, 0, none⟩)] W fun e W' => e = .returned (.tuple #[]) ∧ ∃ v', Oo w0 A c f left i Gw Gr b v' out' W' ∧ W'.heap[b.n]? = some (.cells #[onV b] 105 (0, 0))

set_option maxHeartbeats 4000000 in
set_option maxRecDepth 100000 in
theorem over_walk (f : List Int) (gw gr : Int → Int) (m : Nat) (ih : ∀ k, k < m → OverSaid f gw gr k ∧ OnSaid f gw gr k) : OverSaid f gw gr m := by
  intro A c left r Gw Gr w hGw hGr hG hC hc hf hfr hl h
  cases m with
  | zero => simp [overF] at h
  | succ m =>
  have hL : 0 ≤ left ∧ left < 128 := by simpa [okS] using hl
  have hL0 := hL.1
  have hL1 := hL.2
  clear hL hl
  simp only [overF] at h
  have HC := Aside0.mk hC
  have HG := Aside0.mk hG
  have HW := Aside0.mk hGw
  have HR := Aside0.mk hGr
  have HF := Aside0.mk hfr
  have IH := Aside0.mk ih
  clear hC hG hGw hGr hfr ih
  by_cases h0 : left = 0
  · rw [if_pos h0] at h
    have h0' : (left == 0) = true := by simpa using h0
    obtain rfl := Option.some.inj h
    clear h h0
    go_enter Tryd.func71, Tryd.ntmps71
    go_wp2
    go_ret
    have hf1 := R_fresh (((w.alloc (.cells #[.slice A f.length c] 52)).alloc (.cells #[.int .i64 left] 3)).alloc (.cells #[.func (.func Gw) #[] #[], .func (.func Gr) #[] #[]] 57)) w.heap.size (by simp; omega) [1] (by decide)
    rw [show (((w.alloc (.cells #[.slice A f.length c] 52)).alloc (.cells #[.int .i64 left] 3)).alloc (.cells #[.func (.func Gw) #[] #[], .func (.func Gr) #[] #[]] 57)).heap.size = w.heap.size + 1 + 1 + 1 from by simp] at hf1
    exact ⟨.slice (some ⟨w.heap.size + 1 + 1 + 1, 0, none⟩) 1 1, rfl, hf1, by repeat (first | exact Below.refl _ _ | apply below_alloc)⟩
  · rw [if_neg h0] at h
    have h0' : (left == 0) = false := by simpa using h0
    have hpos : 0 < left := by omega
    clear h0
    split at h
    · rename_i hh
      obtain ⟨hs1, hs2, hs3⟩ := hh
      have H := Aside0.mk h
      clear h
      go_enter Tryd.func71, Tryd.ntmps71
      go_wp2_with (go_at_call 91; refine (first_calls left hpos hL1 _ (HG.out.of_below (by repeat (first | exact Below.refl _ _ | apply below_alloc)))).mono ?_; rintro e w' ⟨rfl, rfl⟩)
      obtain ⟨i, hi⟩ : ∃ i, ctz left = i := ⟨_, rfl⟩
      have hr := ctz_range left hpos hL1
      rw [hi] at hr hs2 hs3
      have hr0 := hr.1
      have hr1 := hr.2
      rw [hi] at H
      rw [hi]
      clear hr hi
      have hw1 : IntKind.i64.wrap (2 ^ i.toNat) = 2 ^ i.toNat := pow_in i hr0 hr1
      go_region
      go_wp2_with fail
      obtain ⟨hz, e0, e1, e2, e3⟩ := four_blocks w (.cells #[.slice A f.length c] 52) (.cells #[.int .i64 (Go.bits .andNot .i64 left (2 ^ i.toNat))] 3) (.cells #[.func (.func Gw) #[] #[], .func (.func Gr) #[] #[]] 57) (.cells #[.int .i64 i] 3)
      have hb1 := four_below w (.cells #[.slice A f.length c] 52) (.cells #[.int .i64 (Go.bits .andNot .i64 left (2 ^ i.toNat))] 3) (.cells #[.func (.func Gw) #[] #[], .func (.func Gr) #[] #[]] 57) (.cells #[.int .i64 i] 3)
      generalize ((((w.alloc (.cells #[.slice A f.length c] 52)).alloc (.cells #[.int .i64 (Go.bits .andNot .i64 left (2 ^ i.toNat))] 3)).alloc (.cells #[.func (.func Gw) #[] #[], .func (.func Gr) #[] #[]] 57)).alloc (.cells #[.int .i64 i] 3)).drew = W1 at hz e0 e1 e2 e3 hb1 ⊢
      have HB1 := Aside0.mk hb1
      have E0 := Aside0.mk e0
      have E1 := Aside0.mk e1
      have E2 := Aside0.mk e2
      have E3 := Aside0.mk e3
      have HZ := Aside0.mk hz
      clear hb1 e0 e1 e2 e3 hz
      have HH := H.out
      obtain ⟨out2, ho2, ho3⟩ := Option.bind_eq_some_iff.1 HH
      obtain ⟨out1, ho1, ho2⟩ := Option.bind_eq_some_iff.1 ho2
      clear HH H
      have H1 := Aside0.mk ho1
      have H2 := Aside0.mk ho2
      have H3 := Aside0.mk ho3
      clear ho1 ho2 ho3
      refine ((IH.out m (by omega)).1 A c _ out1 Gw Gr W1 HW.out HR.out (HG.out.of_below HB1.out) (Kd.C_below HC.out HB1.out) hc hf HF.out hs3 H1.out).mono ?_
      rintro e w2 ⟨v, rfl, hR, hb⟩
      obtain ⟨Ao, co, eo⟩ := Kd.R_slice hR
      subst eo
      have HB2 := Aside0.mk hb
      have HO := Aside0.mk hR
      clear hb hR
      have Ho0 := Aside0.mk (over_start HC.out HB1.out HZ.out E0.out E1.out E2.out E3.out HB2.out HO.out)
      have hcf := cell_of_one Ho0.out.ov.bf
      go_wp2_with fail
      clear hcf
      go_loopg [28] m (fun gk v28 W => ∃ j : Nat, j ≤ f.length ∧ v28 = .int .i64 j ∧ Aside0 (∃ (v : Value) (out : List Int), Oo w A c f (sub1 left i) i Gw Gr ⟨w.heap.size, w.heap.size + 1, w.heap.size + 2, w.heap.size + 3, w2.heap.size, w2.heap.size + 1, w2.heap.size + 1⟩ v out W ∧ wiresF f gw gr gk i (sub1 left i) j out = some out2 ∧ gk ≤ m))
      case atStart => exact ⟨0, by omega, rfl, ⟨_, _, Ho0.out, H2.out, Nat.le_refl _⟩⟩
      case round =>
        obtain ⟨j, hj, rfl, HJ⟩ := hrel
        clear Ho0 H2
        obtain ⟨v, out, hO, hwi, hm⟩ := HJ.out
        clear HJ
        have hcf : wr.cell? ⟨w.heap.size, 0, none⟩ = _ := cell_of_one hO.ov.bf
        have hcl : wr.cell? ⟨w.heap.size + 1, 0, none⟩ = _ := cell_of_one hO.ov.bl
        have hci : wr.cell? ⟨w.heap.size + 1 + 1 + 1, 0, none⟩ = _ := cell_of_one hO.ov.bi
        have hcm : wr.cell? ⟨w2.heap.size + 1, 0, none⟩ = _ := cell_of_one hO.ov.bm
        obtain ⟨ad, e, hel⟩ := Kd.at_int hO.ov.reads i hr0 hs2
        subst e
        have HO := Aside0.mk hO
        clear hO
        cases gk with
        | zero => simp [wiresF] at hwi
        | succ gk =>
        simp only [wiresF] at hwi
        by_cases hlt : j < f.length
        · rw [if_pos hlt] at hwi
          by_cases ht : tst (Go.bits .and .i64 (rd f i) (sub1 left i)) j = true
          · rw [if_pos ht] at hwi
            split at hwi
            · rename_i hs4
              obtain ⟨out', hwi, hwj⟩ := Option.bind_eq_some_iff.1 hwi
              obtain ⟨l1, hl1, hmo⟩ := Option.bind_eq_some_iff.1 hwi
              clear hwi
              unfold moreO at hmo
              split at hmo
              · rename_i hb4
                obtain ⟨hb4, _, _, hb5⟩ := hb4
                obtain rfl := Option.some.inj hmo
                clear hmo
                have HN := Aside0.mk hwj
                have HL1 := Aside0.mk hl1
                clear hwj hl1
                have hj0 : (0 : Int) ≤ j := by omega
                have hj1 : (j : Int) ≤ 6 := by omega
                have hcx0 : wr.cell? ⟨w.heap.size + 1 + 1, 0, none⟩ = some (.func (.func Gw) #[] #[]) := (blk_cell HO.out.ov.bx 0).trans rfl
                have hcx1 : wr.cell? ⟨w.heap.size + 1 + 1, 1, none⟩ = some (.func (.func Gr) #[] #[]) := (blk_cell HO.out.ov.bx 1).trans rfl
                have hw2 : IntKind.i64.wrap (2 ^ j) = 2 ^ j := pow_in j hj0 hj1
                have ht' : (Go.bits .and .i64 (Go.bits .and .i64 (rd f i) (sub1 left i) / 2 ^ j) 1 == 1) = true := ht
                go_wp2_with fail
                go_quiet (fail)
                go_wp2_with fail
                have HO2 := Aside0.mk (HO.out.grow (pw_below_drewN (Below.refl _ _) nq))
                clear hcf hcl hcm hcx0 hcx1 hci hel HO
                generalize wr.drewN nq = wq at HO2 ⊢
                have hcf : wq.cell? ⟨w.heap.size, 0, none⟩ = _ := cell_of_one HO2.out.ov.bf
                have hcl : wq.cell? ⟨w.heap.size + 1, 0, none⟩ = _ := cell_of_one HO2.out.ov.bl
                have hcm : wq.cell? ⟨w2.heap.size + 1, 0, none⟩ = some (.func (.func 92) #[] #[.pointer (some ⟨w2.heap.size, 0, none⟩)]) := cell_of_one HO2.out.ov.bm
                have hcx0 : wq.cell? ⟨w.heap.size + 1 + 1, 0, none⟩ = some (.func (.func Gw) #[] #[]) := (blk_cell HO2.out.ov.bx 0).trans rfl
                have hcx1 : wq.cell? ⟨w.heap.size + 1 + 1, 1, none⟩ = some (.func (.func Gr) #[] #[]) := (blk_cell HO2.out.ov.bx 1).trans rfl
                go_region_held3 (fun w' => w'.cell? ⟨w.heap.size, 0, none⟩ = some (.slice (some ad) f.length c) ∧ w'.cell? ⟨w.heap.size + 1, 0, none⟩ = some (.int .i64 (sub1 left i)) ∧ w'.cell? ⟨w2.heap.size + 1, 0, none⟩ = some (.func (.func 92) #[] #[.pointer (some ⟨w2.heap.size, 0, none⟩)]) ∧ w'.cell? ⟨w.heap.size + 1 + 1, 0, none⟩ = some (.func (.func Gw) #[] #[]) ∧ w'.cell? ⟨w.heap.size + 1 + 1, 1, none⟩ = some (.func (.func Gr) #[] #[])) (first | go_keep | exact ⟨hcf3, hcl3, hcm3, hx03, hx13⟩ | exact ⟨hcf4, hcl4, hcm4, hx04, hx14⟩)
                  (first
                    | (go_at_call 71; refine ((IH.out gk (by omega)).1 _ _ _ l1 Gw Gr _ HW.out HR.out (HG.out.of_below (below_drew1 HO2.out.ov.below)) (Kd.C_below HO2.out.ov.frame (below_drew1 HO2.out.ov.below)) hc hf HF.out hs4 HL1.out).mono ?_; rintro e w3 ⟨vl, rfl, hRl, hbl⟩; obtain ⟨Al, cl, el⟩ := Kd.R_slice hRl; subst el; have hb3 : Below wq.heap.size wq w3 := ⟨hbl.os, hbl.tape, hbl.output, hbl.size, hbl.block⟩; have HO3 := Aside0.mk (HO2.out.grow hb3); have HB3 := Aside0.mk hb3; have HRl := Aside0.mk hRl; clear hRl hbl hb3; have hcf3 : w3.cell? ⟨w.heap.size, 0, none⟩ = some (.slice (some ad) f.length c) := cell_of_one HO3.out.ov.bf; have hcl3 : w3.cell? ⟨w.heap.size + 1, 0, none⟩ = some (.int .i64 (sub1 left i)) := cell_of_one HO3.out.ov.bl; have hcm3 : w3.cell? ⟨w2.heap.size + 1, 0, none⟩ = some (.func (.func 92) #[] #[.pointer (some ⟨w2.heap.size, 0, none⟩)]) := cell_of_one HO3.out.ov.bm; have hx03 : w3.cell? ⟨w.heap.size + 1 + 1, 0, none⟩ = some (.func (.func Gw) #[] #[]) := (blk_cell HO3.out.ov.bx 0).trans rfl; have hx13 : w3.cell? ⟨w.heap.size + 1 + 1, 1, none⟩ = some (.func (.func Gr) #[] #[]) := (blk_cell HO3.out.ov.bx 1).trans rfl)
                    | (go_at_call 92; refine (more_calls' Gw gw HW.out 2 (by omega) (by omega) Al cl l1 w2.heap.size v out w w3 (fun k => OP w _ k ∧ k < wq.heap.size) ⟨HO2.out.ov.op, lt_of_block HO2.out.var⟩ HO2.out.ov.op.1 (fun W_ hk => kept_reads HRl.out hk) hb4 hb5 (HO2.out.minv HB3.out)).mono ?_; rintro e w4 ⟨rfl, v', hM⟩; have HO4 := Aside0.mk (HO2.out.of_minv HB3.out (lt_of_block HO3.out.ov.bm) hM); clear hM; have hcf4 : w4.cell? ⟨w.heap.size, 0, none⟩ = some (.slice (some ad) f.length c) := cell_of_one HO4.out.ov.bf; have hcl4 : w4.cell? ⟨w.heap.size + 1, 0, none⟩ = some (.int .i64 (sub1 left i)) := cell_of_one HO4.out.ov.bl; have hcm4 : w4.cell? ⟨w2.heap.size + 1, 0, none⟩ = some (.func (.func 92) #[] #[.pointer (some ⟨w2.heap.size, 0, none⟩)]) := cell_of_one HO4.out.ov.bm; have hx04 : w4.cell? ⟨w.heap.size + 1 + 1, 0, none⟩ = some (.func (.func Gw) #[] #[]) := (blk_cell HO4.out.ov.bx 0).trans rfl; have hx14 : w4.cell? ⟨w.heap.size + 1 + 1, 1, none⟩ = some (.func (.func Gr) #[] #[]) := (blk_cell HO4.out.ov.bx 1).trans rfl))
                go_wp2_with fail
                go_roundg gk
                case measure => omega
                case rel => exact ⟨j + 1, by omega, by go_num, ⟨_, _, HO4.out, HN.out, by omega⟩⟩
              · simp at hmo
            · simp at hwi
          · rw [if_neg ht] at hwi
            have HN := Aside0.mk hwi
            clear hwi
            have hj0 : (0 : Int) ≤ j := by omega
            have hj1 : (j : Int) ≤ 6 := by omega
            go_wp2_with fail
            go_quiet (fail)
            go_wp2_with fail
            go_roundg gk
            case measure => omega
            case rel => exact ⟨j + 1, by omega, by go_num, ⟨v, out, HO.out.grow (pw_below_drewN (Below.refl _ _) _), HN.out, by omega⟩⟩
        · rw [if_neg hlt] at hwi
          obtain rfl := Option.some.inj hwi
          clear hwi
          have hje : j = f.length := by omega
          subst hje
          clear hcf hcl hci hcm hel
          have HS := Aside0.mk (on_start HO.out (.cells #[.func (.func 93) #[] #[.pointer (some ⟨w.heap.size, 0, none⟩), .pointer (some ⟨w.heap.size + 1, 0, none⟩), .pointer (some ⟨w.heap.size + 1 + 1 + 1, 0, none⟩), .pointer (some ⟨w2.heap.size + 1, 0, none⟩), .pointer (some ⟨w.heap.size + 1 + 1, 0, none⟩), .pointer (some ⟨wr.heap.size, 0, none⟩)]] 105))
          have hci : (wr.alloc (.cells #[.func (.func 93) #[] #[.pointer (some ⟨w.heap.size, 0, none⟩), .pointer (some ⟨w.heap.size + 1, 0, none⟩), .pointer (some ⟨w.heap.size + 1 + 1 + 1, 0, none⟩), .pointer (some ⟨w2.heap.size + 1, 0, none⟩), .pointer (some ⟨w.heap.size + 1 + 1, 0, none⟩), .pointer (some ⟨wr.heap.size, 0, none⟩)]] 105)).cell? ⟨w.heap.size + 1 + 1 + 1, 0, none⟩ = some (.int .i64 i) := cell_of_one HS.out.ov.bi
          go_wp2_with fail
          refine ((IH.out m (by omega)).2 _ c (sub1 left i) i i 0 0 out r v Gw Gr ⟨w.heap.size, w.heap.size + 1, w.heap.size + 1 + 1, w.heap.size + 1 + 1 + 1, w2.heap.size, w2.heap.size + 1, wr.heap.size⟩ w _ HW.out HR.out HG.out HS.out (heap_alloc_new _ _) hc hf HF.out hs3 hr0 hr1 H3.out).mono ?_
          rintro e w5 ⟨rfl, v', hO5, _⟩
          have hcv : w5.cell? ⟨w2.heap.size, 0, none⟩ = some v' := cell_of_one hO5.var
          obtain ⟨Av, cv, ev⟩ := Kd.R_slice hO5.row
          subst ev
          have HO5 := Aside0.mk hO5
          clear hO5
          go_wp2_with fail
          go_ret
          exact ⟨_, rfl, Kd.R_mono HO5.out.row (fun _ _ => trivial), HO5.out.ov.below⟩
    · simp at h
end Go.Proofs.YtglalkenkmijkaaDoor.Hand
/- 'on', the closure of 'over' that goes along rings: a walk. -/
namespace Go.Proofs.YtglalkenkmijkaaDoor.Hand
open Go.RowKit Go.Proofs.YtglalkenkmijkaaDoorW.PrintWords Go.Proofs.YtglalkenkmijkaaDoorW.PrintLast Go.Proofs.YtglalkenkmijkaaDoorW.PrintMore
set_option linter.unusedVariables false
set_option linter.unusedSimpArgs false

theorem below_any0 (w : World) : Below w.heap.size w w.drew := below_drew1 (Below.refl _ _)
theorem below_any1 (w : World) (n : Nat) : Below w.heap.size w (w.drewN n).drew := below_drew1 (pw_below_drewN (Below.refl _ _) _)

set_option maxHeartbeats 4000000 in
set_option maxRecDepth 100000 in
theorem on_walk (f : List Int) (gw gr : Int → Int) (m : Nat) (ih : ∀ k, k < m → OverSaid f gw gr k ∧ OnSaid f gw gr k) : OnSaid f gw gr m := by
  intro A c left i at_ second met out out' v Gw Gr b w0 W hGw hGr hG hO hn hc hf hfr hl hi0 hi1 h
  cases m with
  | zero => simp [onF] at h
  | succ m =>
  simp only [onF] at h
  split at h
  · rename_i hh
    obtain ⟨ha0, ha1, hmet⟩ := hh
    have hM : 0 ≤ met ∧ met < 128 := by simpa [okS] using hmet
    have hM0 := hM.1
    have hM1 := hM.2
    clear hM hmet
    have HG := Aside0.mk hG
    have HW := Aside0.mk hGw
    have HR := Aside0.mk hGr
    have HF := Aside0.mk hfr
    have IH := Aside0.mk ih
    have H := Aside0.mk h
    have HO := Aside0.mk hO
    have HN := Aside0.mk hn
    have hcf := cell_of_one hO.ov.bf
    clear hG hGw hGr hfr ih h hO hn
    go_enter Tryd.func93, Tryd.ntmps93
    go_wp2_with fail
    go_loopg [16] m (fun gk v16 W => ∃ k : Nat, k ≤ f.length ∧ v16 = .int .i64 k ∧ Aside0 (∃ (v : Value) (out : List Int), Oo w0 A c f left i Gw Gr b v out W ∧ W.heap[b.n]? = some (.cells #[onV b] 105 (0, 0)) ∧ onL f gw gr gk i left at_ second met k out = some out' ∧ gk ≤ m))
    case atStart => exact ⟨0, by omega, rfl, ⟨_, _, HO.out, HN.out, H.out, Nat.le_refl _⟩⟩
    case round =>
      obtain ⟨k, hk, rfl, HJ⟩ := hrel
      clear HO H HN hcf
      obtain ⟨v, out, hO, hn, hwi, hm⟩ := HJ.out
      clear HJ
      cases gk with
      | zero => simp [onL] at hwi
      | succ gk =>
      simp only [onL] at hwi
      by_cases hlt : k < f.length
      · rw [if_pos hlt] at hwi
        have hk0 : (0 : Int) ≤ k := by omega
        have hk1 : (k : Int) ≤ 6 := by omega
        have hcf : wr.cell? ⟨b.f, 0, none⟩ = _ := cell_of_one hO.ov.bf
        have hcl : wr.cell? ⟨b.l, 0, none⟩ = _ := cell_of_one hO.ov.bl
        have hci : wr.cell? ⟨b.i, 0, none⟩ = _ := cell_of_one hO.ov.bi
        obtain ⟨ad, e, hela⟩ := Kd.at_int hO.ov.reads at_ ha0 ha1
        cases e
        obtain ⟨ad2, e, helk⟩ := Kd.at_int hO.ov.reads k hk0 (by omega)
        cases e
        have helk' : wr.cell? (ad.add k) = some (.int .i64 (rd f k)) := by simpa using helk
        have HO := Aside0.mk hO
        have HN := Aside0.mk hn
        have hcn : wr.cell? ⟨b.n, 0, none⟩ = some (.func (.func 93) #[] #[.pointer (some ⟨b.f, 0, none⟩), .pointer (some ⟨b.l, 0, none⟩), .pointer (some ⟨b.i, 0, none⟩), .pointer (some ⟨b.m, 0, none⟩), .pointer (some ⟨b.x, 0, none⟩), .pointer (some ⟨b.n, 0, none⟩)]) := cell_of_one hn
        have hw2 : IntKind.i64.wrap (2 ^ k) = 2 ^ k := pow_in k hk0 hk1
        clear hO hn helk
        by_cases ht : Go.bits .and .i64 (Go.bits .andNot .i64 (Go.bits .and .i64 (rd f at_) left) met / 2 ^ k) 1 = 0
        · rw [if_pos ht] at hwi
          have ht' : (Go.bits .and .i64 (Go.bits .andNot .i64 (Go.bits .and .i64 (rd f at_) left) met / 2 ^ k) 1 == 0) = true := by simpa using ht
          clear ht
          have HH := Aside0.mk hwi
          clear hwi
          go_wp2_with fail
          go_quiet (fail)
          go_wp2_with fail
          go_roundg gk
          case measure => omega
          case rel => exact ⟨k + 1, by omega, by go_num, ⟨v, out, HO.out.grow (pw_below_drewN (Below.refl _ _) _), HN.out, HH.out, by omega⟩⟩
        · rw [if_neg ht] at hwi
          have ht' : (Go.bits .and .i64 (Go.bits .andNot .i64 (Go.bits .and .i64 (rd f at_) left) met / 2 ^ k) 1 == 0) = false := by simpa using ht
          clear ht
          obtain ⟨o1, hwi, hw2⟩ := Option.bind_eq_some_iff.1 hwi
          obtain ⟨o2, hw2, hw3⟩ := Option.bind_eq_some_iff.1 hw2
          have H2 := Aside0.mk hw2
          have H3 := Aside0.mk hw3
          clear hw2 hw3
          by_cases hcond : 0 < met ∧ second < (k : Int) ∧ tst (rd f k) i = true
          · rw [if_pos hcond] at hwi
            obtain ⟨hmp, hs, htt⟩ := hcond
            have hmd : decide (0 < met) = true := decide_eq_true hmp
            have hmz : (met == 0) = false := by simp; omega
            have hsd : decide (second < (k : Int)) = true := decide_eq_true hs
            have htd : (Go.bits .and .i64 (rd f k / 2 ^ i.toNat) 1 == 1) = true := htt
            have hme : ¬ met = 0 := by omega
            rw [if_neg hme] at H2
            clear hs htt hme
            split at hwi
            · rename_i hs4
              obtain ⟨l1, hl1, hmo⟩ := Option.bind_eq_some_iff.1 hwi
              clear hwi
              unfold moreO at hmo
              split at hmo
              · rename_i hb4
                obtain ⟨hb4, hb41, hb42, hb5⟩ := hb4
                obtain rfl := Option.some.inj hmo
                clear hmo
                have HL1 := Aside0.mk hl1
                clear hl1
                have hmu : IntKind.u64.wrap met = met := by rw [IntKind.wrap_u64]; omega
                have hw3 : IntKind.i64.wrap (pop met + 2) = pop met + 2 := IntWalk.i64_in _ (by omega)
                have hcf : wr.cell? ⟨b.f, 0, none⟩ = some (.slice (some ad) f.length c) := cell_of_one HO.out.ov.bf
                have hcl : wr.cell? ⟨b.l, 0, none⟩ = some (.int .i64 left) := cell_of_one HO.out.ov.bl
                have hcm : wr.cell? ⟨b.m, 0, none⟩ = some (.func (.func 92) #[] #[.pointer (some ⟨b.o, 0, none⟩)]) := cell_of_one HO.out.ov.bm
                have hx0 : wr.cell? ⟨b.x, 0, none⟩ = some (.func (.func Gw) #[] #[]) := (blk_cell HO.out.ov.bx 0).trans rfl
                have hx1 : wr.cell? ⟨b.x, 1, none⟩ = some (.func (.func Gr) #[] #[]) := (blk_cell HO.out.ov.bx 1).trans rfl
                go_wp2_with fail
                go_quiet (fail)
                go_wp2_with fail
                go_quiet (fail)
                go_wp2_with fail
                go_region_held3 (fun w' => w'.cell? ⟨b.f, 0, none⟩ = some (.slice (some ad) f.length c) ∧ w'.cell? ⟨b.l, 0, none⟩ = some (.int .i64 left) ∧ w'.cell? ⟨b.m, 0, none⟩ = some (.func (.func 92) #[] #[.pointer (some ⟨b.o, 0, none⟩)]) ∧ w'.cell? ⟨b.x, 0, none⟩ = some (.func (.func Gw) #[] #[]) ∧ w'.cell? ⟨b.x, 1, none⟩ = some (.func (.func Gr) #[] #[])) (first | go_keep | exact ⟨hcf4, hcl4, hcm4, hx04, hx14⟩ | exact ⟨hcf5, hcl5, hcm5, hx05, hx15⟩)
                  (first
                    | (go_at_call 68; refine (pop_calls met hM0 hM1 _).mono ?_; rintro e w' ⟨rfl, rfl⟩)
                    | (go_at_call 71; refine ((IH.out gk (by omega)).1 _ _ _ l1 Gw Gr _ HW.out HR.out (HG.out.of_below (below_drew1 (pw_below_drewN HO.out.ov.below _))) (Kd.C_below HO.out.ov.frame (below_drew1 (pw_below_drewN HO.out.ov.below _))) hc hf HF.out hs4 HL1.out).mono ?_; rintro e w4 ⟨vl, rfl, hRl, hbl⟩; obtain ⟨Al, cl, el⟩ := Kd.R_slice hRl; subst el; have hb3 : Below wr.heap.size wr w4 := ⟨hbl.os, hbl.tape, hbl.output, hbl.size, hbl.block⟩; have HO4 := Aside0.mk (HO.out.grow hb3); have HB4 := Aside0.mk hb3; have HN4 := Aside0.mk ((hb3.block _ (lt_of_block HN.out)).trans HN.out); have HRl := Aside0.mk hRl; clear hRl hbl hb3; have hcf4 : w4.cell? ⟨b.f, 0, none⟩ = some (.slice (some ad) f.length c) := cell_of_one HO4.out.ov.bf; have hcl4 : w4.cell? ⟨b.l, 0, none⟩ = some (.int .i64 left) := cell_of_one HO4.out.ov.bl; have hcm4 : w4.cell? ⟨b.m, 0, none⟩ = some (.func (.func 92) #[] #[.pointer (some ⟨b.o, 0, none⟩)]) := cell_of_one HO4.out.ov.bm; have hx04 : w4.cell? ⟨b.x, 0, none⟩ = some (.func (.func Gw) #[] #[]) := (blk_cell HO4.out.ov.bx 0).trans rfl; have hx14 : w4.cell? ⟨b.x, 1, none⟩ = some (.func (.func Gr) #[] #[]) := (blk_cell HO4.out.ov.bx 1).trans rfl)
                    | (go_at_call 92; refine (more_calls' Gr gr HR.out (pop met + 2) hb41 hb42 Al cl l1 b.o v out w0 w4 (fun k => OP w0 b k ∧ k < wr.heap.size) ⟨HO.out.ov.op, lt_of_block HO.out.var⟩ HO.out.ov.op.1 (fun W_ hk => kept_reads HRl.out hk) hb4 hb5 (HO.out.minv HB4.out)).mono ?_; rintro e w5 ⟨rfl, v5, hM⟩; have HO5 := Aside0.mk (HO.out.of_minv HB4.out (lt_of_block HN4.out) hM); have HN5 := Aside0.mk ((hM.kept.2 _ (lt_of_block HN4.out) (fun e => e.1.2.2.2.2.2.2 rfl)).trans HN4.out); clear hM; have hcf5 : w5.cell? ⟨b.f, 0, none⟩ = some (.slice (some ad) f.length c) := cell_of_one HO5.out.ov.bf; have hcl5 : w5.cell? ⟨b.l, 0, none⟩ = some (.int .i64 left) := cell_of_one HO5.out.ov.bl; have hcm5 : w5.cell? ⟨b.m, 0, none⟩ = some (.func (.func 92) #[] #[.pointer (some ⟨b.o, 0, none⟩)]) := cell_of_one HO5.out.ov.bm; have hx05 : w5.cell? ⟨b.x, 0, none⟩ = some (.func (.func Gw) #[] #[]) := (blk_cell HO5.out.ov.bx 0).trans rfl; have hx15 : w5.cell? ⟨b.x, 1, none⟩ = some (.func (.func Gr) #[] #[]) := (blk_cell HO5.out.ov.bx 1).trans rfl))
                have hcn5 : w5.cell? ⟨b.n, 0, none⟩ = some (.func (.func 93) #[] #[.pointer (some ⟨b.f, 0, none⟩), .pointer (some ⟨b.l, 0, none⟩), .pointer (some ⟨b.i, 0, none⟩), .pointer (some ⟨b.m, 0, none⟩), .pointer (some ⟨b.x, 0, none⟩), .pointer (some ⟨b.n, 0, none⟩)]) := cell_of_one HN5.out
                go_wp2_with fail
                go_region_held3 (fun w' => w'.cell? ⟨b.n, 0, none⟩ = some (.func (.func 93) #[] #[.pointer (some ⟨b.f, 0, none⟩), .pointer (some ⟨b.l, 0, none⟩), .pointer (some ⟨b.i, 0, none⟩), .pointer (some ⟨b.m, 0, none⟩), .pointer (some ⟨b.x, 0, none⟩), .pointer (some ⟨b.n, 0, none⟩)])) (first | go_keep | exact hcn6)
                  (first
                    | (go_at_call 93; refine ((IH.out gk (by omega)).2 _ c left i k second (Go.bits .or .i64 met (2 ^ k)) (moreL gr (pop met + 2).toNat l1 out) o2 v5 Gw Gr b w0 _ HW.out HR.out HG.out (HO5.out.grow (below_any0 _)) HN5.out hc hf HF.out hl hi0 hi1 H2.out).mono ?_; rintro e w6 ⟨rfl, v', hO6, hn6⟩; have hcn6 : w6.cell? ⟨b.n, 0, none⟩ = some (.func (.func 93) #[] #[.pointer (some ⟨b.f, 0, none⟩), .pointer (some ⟨b.l, 0, none⟩), .pointer (some ⟨b.i, 0, none⟩), .pointer (some ⟨b.m, 0, none⟩), .pointer (some ⟨b.x, 0, none⟩), .pointer (some ⟨b.n, 0, none⟩)]) := cell_of_one hn6; have HO6 := Aside0.mk hO6; have HN6 := Aside0.mk hn6; clear hO6 hn6))
                go_wp2_with fail
                go_roundg gk
                case measure => omega
                case rel => exact ⟨k + 1, by omega, by go_num, ⟨_, _, HO6.out, HN6.out, H3.out, by omega⟩⟩
              · simp at hmo
            · simp at hwi
          · rw [if_neg hcond] at hwi
            obtain rfl := Option.some.inj hwi
            clear hwi
            by_cases hm0 : met = 0
            · subst hm0
              clear hcond
              rw [if_pos rfl] at H2
              go_wp2_with fail
              go_quiet (fail)
              go_wp2_with fail
              go_quiet (fail)
              go_wp2_with fail
              go_region_held3 (fun w' => w'.cell? ⟨b.n, 0, none⟩ = some (.func (.func 93) #[] #[.pointer (some ⟨b.f, 0, none⟩), .pointer (some ⟨b.l, 0, none⟩), .pointer (some ⟨b.i, 0, none⟩), .pointer (some ⟨b.m, 0, none⟩), .pointer (some ⟨b.x, 0, none⟩), .pointer (some ⟨b.n, 0, none⟩)])) (first | go_keep | exact hcn4)
                (first
                  | (go_at_call 93; refine ((IH.out gk (by omega)).2 _ c left i k k (Go.bits .or .i64 0 (2 ^ k)) out o2 v Gw Gr b w0 _ HW.out HR.out HG.out (HO.out.grow (below_any1 _ _)) HN.out hc hf HF.out hl hi0 hi1 H2.out).mono ?_; rintro e w4 ⟨rfl, v', hO4, hn4⟩; have hcn4 : w4.cell? ⟨b.n, 0, none⟩ = some (.func (.func 93) #[] #[.pointer (some ⟨b.f, 0, none⟩), .pointer (some ⟨b.l, 0, none⟩), .pointer (some ⟨b.i, 0, none⟩), .pointer (some ⟨b.m, 0, none⟩), .pointer (some ⟨b.x, 0, none⟩), .pointer (some ⟨b.n, 0, none⟩)]) := cell_of_one hn4; have HO4 := Aside0.mk hO4; have HN4 := Aside0.mk hn4; clear hO4 hn4))
              go_wp2_with fail
              go_roundg gk
              case measure => omega
              case rel => exact ⟨k + 1, by omega, by go_num, ⟨_, _, HO4.out, HN4.out, H3.out, by omega⟩⟩
            · rw [if_neg hm0] at H2
              have hmp : 0 < met := by omega
              have hmd : decide (0 < met) = true := decide_eq_true hmp
              have hmz : (met == 0) = false := by simpa using hm0
              by_cases hs : second < (k : Int)
              · have hsd : decide (second < (k : Int)) = true := decide_eq_true hs
                have htd : (Go.bits .and .i64 (rd f k / 2 ^ i.toNat) 1 == 1) = false := by
                  have : ¬ tst (rd f k) i = true := fun e => hcond ⟨hmp, hs, e⟩
                  simpa [tst] using this
                clear hcond hs hm0
                go_wp2_with fail
                go_quiet (fail)
                go_wp2_with fail
                go_quiet (fail)
                go_wp2_with fail
                go_region_held3 (fun w' => w'.cell? ⟨b.n, 0, none⟩ = some (.func (.func 93) #[] #[.pointer (some ⟨b.f, 0, none⟩), .pointer (some ⟨b.l, 0, none⟩), .pointer (some ⟨b.i, 0, none⟩), .pointer (some ⟨b.m, 0, none⟩), .pointer (some ⟨b.x, 0, none⟩), .pointer (some ⟨b.n, 0, none⟩)])) (first | go_keep | exact hcn4)
                  (first
                    | (go_at_call 93; refine ((IH.out gk (by omega)).2 _ c left i k second (Go.bits .or .i64 met (2 ^ k)) out o2 v Gw Gr b w0 _ HW.out HR.out HG.out (HO.out.grow (below_any1 _ _)) HN.out hc hf HF.out hl hi0 hi1 H2.out).mono ?_; rintro e w4 ⟨rfl, v', hO4, hn4⟩; have hcn4 : w4.cell? ⟨b.n, 0, none⟩ = some (.func (.func 93) #[] #[.pointer (some ⟨b.f, 0, none⟩), .pointer (some ⟨b.l, 0, none⟩), .pointer (some ⟨b.i, 0, none⟩), .pointer (some ⟨b.m, 0, none⟩), .pointer (some ⟨b.x, 0, none⟩), .pointer (some ⟨b.n, 0, none⟩)]) := cell_of_one hn4; have HO4 := Aside0.mk hO4; have HN4 := Aside0.mk hn4; clear hO4 hn4))
                go_wp2_with fail
                go_roundg gk
                case measure => omega
                case rel => exact ⟨k + 1, by omega, by go_num, ⟨_, _, HO4.out, HN4.out, H3.out, by omega⟩⟩
              · have hsd : decide (second < (k : Int)) = false := decide_eq_false hs
                clear hcond hs hm0
                go_wp2_with fail
                go_quiet (fail)
                go_wp2_with fail
                go_quiet (fail)
                go_wp2_with fail
                go_region_held3 (fun w' => w'.cell? ⟨b.n, 0, none⟩ = some (.func (.func 93) #[] #[.pointer (some ⟨b.f, 0, none⟩), .pointer (some ⟨b.l, 0, none⟩), .pointer (some ⟨b.i, 0, none⟩), .pointer (some ⟨b.m, 0, none⟩), .pointer (some ⟨b.x, 0, none⟩), .pointer (some ⟨b.n, 0, none⟩)])) (first | go_keep | exact hcn4)
                  (first
                    | (go_at_call 93; refine ((IH.out gk (by omega)).2 _ c left i k second (Go.bits .or .i64 met (2 ^ k)) out o2 v Gw Gr b w0 _ HW.out HR.out HG.out (HO.out.grow (below_any1 _ _)) HN.out hc hf HF.out hl hi0 hi1 H2.out).mono ?_; rintro e w4 ⟨rfl, v', hO4, hn4⟩; have hcn4 : w4.cell? ⟨b.n, 0, none⟩ = some (.func (.func 93) #[] #[.pointer (some ⟨b.f, 0, none⟩), .pointer (some ⟨b.l, 0, none⟩), .pointer (some ⟨b.i, 0, none⟩), .pointer (some ⟨b.m, 0, none⟩), .pointer (some ⟨b.x, 0, none⟩), .pointer (some ⟨b.n, 0, none⟩)]) := cell_of_one hn4; have HO4 := Aside0.mk hO4; have HN4 := Aside0.mk hn4; clear hO4 hn4))
                go_wp2_with fail
                go_roundg gk
                case measure => omega
                case rel => exact ⟨k + 1, by omega, by go_num, ⟨_, _, HO4.out, HN4.out, H3.out, by omega⟩⟩
      · rw [if_neg hlt] at hwi
        obtain rfl := Option.some.inj hwi
        clear hwi
        have hke : k = f.length := by omega
        subst hke
        have HO := Aside0.mk hO
        have HN := Aside0.mk hn
        clear hO hn
        go_wp2_with fail
        go_end0
        exact ⟨rfl, _, HO.out, HN.out⟩
  · simp at h

theorem over_on (f : List Int) (gw gr : Int → Int) (m : Nat) : OverSaid f gw gr m ∧ OnSaid f gw gr m := by
  induction m using Nat.strongRecOn with
  | _ m ih => exact ⟨over_walk f gw gr m ih, on_walk f gw gr m ih⟩
end Go.Proofs.YtglalkenkmijkaaDoor.Hand
/- 'read', which looks at frames: a walk. -/
namespace Go.Proofs.YtglalkenkmijkaaDoor.Hand
open Go.RowKit Go.Proofs.YtglalkenkmijkaaDoorW.PrintWords Go.Proofs.YtglalkenkmijkaaDoorW.PrintLast Go.Proofs.YtglalkenkmijkaaDoorW.PrintMore
set_option linter.unusedVariables false
set_option linter.unusedSimpArgs false

def tstN (s : Int) (k : Nat) : Int := Go.bits .and .i64 (s / 2 ^ k) 1
def rowOk (l : List Int) (i : Nat) : Bool := decide (0 ≤ rd l i) && decide (rd l i < 2 ^ l.length) && !(tstN (rd l i) i == 1)
def symOk (l : List Int) (i k : Nat) : Bool := tstN (rd l i) k == tstN (rd l k) i
def isFr (l : List Int) : Bool := decide (1 ≤ l.length) && decide (l.length ≤ 7) && (List.range l.length).all fun i => rowOk l i && (List.range l.length).all fun k => symOk l i k

theorem isFr_of_row {l : List Int} {i : Nat} (hi : i < l.length) (h : rowOk l i = false) : isFr l = false := by
  cases hb : isFr l with
  | false => rfl
  | true =>
    unfold isFr at hb
    simp only [Bool.and_eq_true, List.all_eq_true, List.mem_range] at hb
    rw [(hb.2 i hi).1] at h
    cases h
theorem isFr_of_sym {l : List Int} {i k : Nat} (hi : i < l.length) (hk : k < l.length) (h : symOk l i k = false) : isFr l = false := by
  cases hb : isFr l with
  | false => rfl
  | true =>
    unfold isFr at hb
    simp only [Bool.and_eq_true, List.all_eq_true, List.mem_range] at hb
    rw [(hb.2 i hi).2 k hk] at h
    cases h
theorem isFr_of_all {l : List Int} (h1 : 1 ≤ l.length) (h2 : l.length ≤ 7) (h : ∀ i, i < l.length → rowOk l i = true ∧ ∀ k, k < l.length → symOk l i k = true) : isFr l = true := by
  unfold isFr
  simp only [Bool.and_eq_true, List.all_eq_true, List.mem_range, decide_eq_true_eq]
  exact ⟨⟨h1, h2⟩, h⟩
theorem pow_in' (i : Nat) (h1 : i ≤ 7) : IntKind.i64.wrap (2 ^ i) = 2 ^ i := by
  have : i < 8 := by omega
  clear h1
  revert this
  revert i
  decide +kernel

def ReadP (A : Option Addr) (c : Nat) (l : List Int) (w : World) (e : Ending) (w' : World) : Prop := e = .returned (.tuple #[if isFr l then .slice A l.length c else .slice none 0 0, .bool (isFr l)]) ∧ ∃ n, w' = w.drewN n
theorem ReadP.no {A : Option Addr} {c : Nat} {l : List Int} {w : World} (h : isFr l = false) (n : Nat) : ReadP A c l w (.returned (.tuple #[.slice none 0 0, .bool false])) (w.drewN n) := by
  unfold ReadP
  rw [h]
  exact ⟨rfl, n, rfl⟩
theorem ReadP.yes {A : Option Addr} {c : Nat} {l : List Int} {w : World} (h : isFr l = true) (n : Nat) : ReadP A c l w (.returned (.tuple #[.slice A l.length c, .bool true])) (w.drewN n) := by
  unfold ReadP
  rw [h]
  exact ⟨rfl, n, rfl⟩

set_option maxHeartbeats 4000000 in
set_option maxRecDepth 100000 in
theorem read_calls (A : Option Addr) (c : Nat) (l : List Int) (w : World) (hC : Kd.C (Kd.int .i64) w A l.length l) (hc : l.length ≤ c) :
    Calls Tryd.prog 51 #[.slice A l.length c] w (ReadP A c l w) := by
  have HC := Aside0.mk hC
  clear hC
  by_cases h1 : 1 ≤ l.length ∧ l.length ≤ 7
  · obtain ⟨h1, h2⟩ := h1
    have g1 : decide ((l.length : Int) < 1) = false := decide_eq_false (by omega)
    have g2 : decide ((7 : Int) < l.length) = false := decide_eq_false (by omega)
    have g1' : decide (l.length < 1) = false := decide_eq_false (by omega)
    have g2' : decide (7 < l.length) = false := decide_eq_false (by omega)
    have hw1 : IntKind.i64.wrap (2 ^ l.length) = 2 ^ l.length := pow_in' _ h2
    go_enter Tryd.func51, Tryd.ntmps51
    go_wp2_with fail
    go_loopg [18] l.length (fun gk v18 W => ∃ i : Nat, i ≤ l.length ∧ gk = l.length - i ∧ v18 = .int .i64 i ∧ Aside0 ((∃ n, W = w.drewN n) ∧ ∀ j, j < i → rowOk l j = true ∧ ∀ k, k < l.length → symOk l j k = true))
    case atStart => exact ⟨0, by omega, rfl, rfl, ⟨⟨0, rfl⟩, fun j hj => by omega⟩⟩
    case round =>
      obtain ⟨i, hi, rfl, rfl, HJ⟩ := hrel
      by_cases hlt : i < l.length
      · obtain ⟨⟨nq, hnq⟩, hall⟩ := HJ.out
        clear HJ
        subst hnq
        have HA := Aside0.mk hall
        clear hall
        have hi0 : (0 : Int) ≤ i := by omega
        have hi1 : (i : Int) ≤ 6 := by omega
        obtain ⟨ad, e, hel⟩ := Kd.at_int HC.out i hi0 (by omega)
        cases e
        have hel' : (w.drewN nq).cell? (ad.add i) = some (.int .i64 (rd l i)) := by simpa using hel
        clear hel
        by_cases hneg : 0 ≤ rd l i
        · have d1 : decide (rd l i < 0) = false := by simp; omega
          by_cases hbig : rd l i < 2 ^ l.length
          · have d2 : decide (2 ^ l.length ≤ rd l i) = false := by simp; omega
            by_cases hself : (Go.bits .and .i64 (rd l i / 2 ^ i) 1 == 1) = true
            · have HN := Aside0.mk (isFr_of_row hlt (by unfold rowOk tstN; rw [hself]; simp))
              go_wp2_with fail
              go_ret2
              exact ReadP.no HN.out _
            · have hself : (Go.bits .and .i64 (rd l i / 2 ^ i) 1 == 1) = false := by simpa using hself
              have HR := Aside0.mk (show rowOk l i = true by unfold rowOk tstN; rw [hself]; simp; omega)
              clear hneg hbig
              go_wp2_with fail
              go_loopg [41] l.length (fun gk v41 W => ∃ k : Nat, k ≤ l.length ∧ gk = l.length - k ∧ v41 = .int .i64 k ∧ Aside0 ((∃ n, W = w.drewN n) ∧ ∀ j, j < k → symOk l i j = true))
              case atStart => exact ⟨0, by omega, rfl, rfl, ⟨⟨_, rfl⟩, fun j hj => by omega⟩⟩
              case round =>
                obtain ⟨k, hk, rfl, rfl, HJ⟩ := hrel
                clear hel'
                obtain ⟨⟨nr, hnr⟩, hall⟩ := HJ.out
                clear HJ
                subst hnr
                have HB := Aside0.mk hall
                clear hall
                by_cases hkl : k < l.length
                · have hk0 : (0 : Int) ≤ k := by omega
                  have hk1 : (k : Int) ≤ 6 := by omega
                  obtain ⟨ad2, e, hel⟩ := Kd.at_int HC.out k hk0 (by omega)
                  cases e
                  have hel' : (w.drewN nr).cell? (ad.add k) = some (.int .i64 (rd l k)) := by simpa using hel
                  clear hel
                  by_cases hs : (Go.bits .and .i64 (rd l i / 2 ^ k) 1 == Go.bits .and .i64 (rd l k / 2 ^ i) 1) = true
                  · have hs' : (Go.bits .and .i64 (rd l i / 2 ^ k) 1 != Go.bits .and .i64 (rd l k / 2 ^ i) 1) = false := by simpa using hs
                    have HS := Aside0.mk (show symOk l i k = true from hs)
                    clear hs
                    go_wp2_with fail
                    go_quiet (fail)
                    go_wp2_with fail
                    go_roundg (l.length - (k + 1))
                    case measure => omega
                    case rel => exact ⟨k + 1, by omega, rfl, by go_num, ⟨⟨_, rfl⟩, fun j hj => by rcases Nat.lt_succ_iff_lt_or_eq.1 hj with h | h; exact HB.out j h; subst h; exact HS.out⟩⟩
                  · have hs' : (Go.bits .and .i64 (rd l i / 2 ^ k) 1 != Go.bits .and .i64 (rd l k / 2 ^ i) 1) = true := by simpa using hs
                    have HS := Aside0.mk (isFr_of_sym hlt hkl (show symOk l i k = false by simpa [symOk, tstN] using hs))
                    clear hs
                    go_wp2_with fail
                    go_quiet (fail)
                    go_wp2_with fail
                    go_ret2
                    rw [World.drewN_drewN]
                    exact ReadP.no HS.out _
                · have hke : k = l.length := by omega
                  subst hke
                  go_wp2_with fail
                  go_roundg (l.length - (i + 1))
                  case measure => omega
                  case rel => exact ⟨i + 1, by omega, rfl, by go_num, ⟨⟨_, rfl⟩, fun j hj => by rcases Nat.lt_succ_iff_lt_or_eq.1 hj with h | h; exact HA.out j h; subst h; exact ⟨HR.out, HB.out⟩⟩⟩
          · have d2 : decide (2 ^ l.length ≤ rd l i) = true := by simp; omega
            have HN := Aside0.mk (isFr_of_row hlt (by unfold rowOk; simp; omega))
            go_wp2_with fail
            go_ret2
            exact ReadP.no HN.out _
        · have d1 : decide (rd l i < 0) = true := by simp; omega
          have HN := Aside0.mk (isFr_of_row hlt (by unfold rowOk; simp; omega))
          go_wp2_with fail
          go_ret2
          exact ReadP.no HN.out _
      · have hie : i = l.length := by omega
        subst hie
        obtain ⟨⟨nq, hnq⟩, hall⟩ := HJ.out
        clear HJ
        subst hnq
        have HY := Aside0.mk (isFr_of_all h1 h2 hall)
        clear hall
        go_wp2_with fail
        go_ret2
        exact ReadP.yes HY.out _
  · have HN := Aside0.mk (show isFr l = false by
      unfold isFr
      rw [show (decide (1 ≤ l.length) && decide (l.length ≤ 7)) = false by simpa using h1]
      rfl)
    by_cases h3 : l.length < 1
    · have g1 : decide ((l.length : Int) < 1) = true := decide_eq_true (by omega)
      have g1' : decide (l.length < 1) = true := decide_eq_true (by omega)
      go_enter Tryd.func51, Tryd.ntmps51
      go_wp2_with fail
      go_ret2
      exact ReadP.no HN.out 0
    · have g1 : decide ((l.length : Int) < 1) = false := decide_eq_false (by omega)
      have g1' : decide (l.length < 1) = false := decide_eq_false (by omega)
      have g2 : decide ((7 : Int) < l.length) = true := decide_eq_true (by omega)
      have g2' : decide (7 < l.length) = true := decide_eq_true (by omega)
      go_enter Tryd.func51, Tryd.ntmps51
      go_wp2_with fail
      go_ret2
      exact ReadP.no HN.out 0

/-- 'all': the set of all knots. -/
theorem all_calls (A : Option Addr) (c : Nat) (l : List Int) (h2 : l.length ≤ 7) (w : World) : Calls Tryd.prog 69 #[.slice A l.length c] w fun e w' => e = .returned (.int .i64 (2 ^ l.length - 1)) ∧ w = w' := by
  have hw1 : IntKind.i64.wrap (2 ^ l.length) = 2 ^ l.length := pow_in' _ h2
  have hp : (1 : Int) ≤ 2 ^ l.length ∧ (2 : Int) ^ l.length ≤ 128 := by
    generalize l.length = n at h2
    have : n < 8 := by omega
    clear h2
    revert this
    revert n
    decide +kernel
  have hp1 := hp.1
  have hp2 := hp.2
  clear hp
  have hfin : wrap64 (wrap64 (2 ^ l.length) - 1) = 2 ^ l.length - 1 := by rw [← i64_w, ← i64_w, hw1, IntWalk.i64_in _ (by omega)]
  have HFIN := Aside0.mk hfin
  clear hfin hw1 hp1 hp2
  go_enter Tryd.func69, Tryd.ntmps69
  go_wp2
  go_ret
  refine ⟨?_, rfl⟩
  show Ending.returned (.int .i64 (wrap64 (wrap64 (2 ^ l.length) - 1))) = _
  rw [HFIN.out]
end Go.Proofs.YtglalkenkmijkaaDoor.Hand
/- 'of', which makes a polynomial of sums over figures: a walk. -/
namespace Go.Proofs.YtglalkenkmijkaaDoor.Hand
open Go.RowKit Go.Proofs.YtglalkenkmijkaaDoorW.PrintWords Go.Proofs.YtglalkenkmijkaaDoorW.PrintLast Go.Proofs.YtglalkenkmijkaaDoorW.PrintMore
open PAll (info3)
set_option linter.unusedVariables false
set_option linter.unusedSimpArgs false

def setsTo (n : Nat) (l : List Int) : Nat → List Int
  | 0 => List.replicate (n + 1) 0
  | j + 1 => (setsTo n l j).set (n - j) (rd l j)
theorem setsTo_length (n : Nat) (l : List Int) : ∀ j, (setsTo n l j).length = n + 1
  | 0 => by simp [setsTo]
  | j + 1 => by simp [setsTo, setsTo_length n l j]
def ofF (f : List Int) (gw gr : Int → Int) (m : Nat) : Option (List Int) :=
  if okS (2 ^ f.length - 1) = true then (overF f gw gr m (2 ^ f.length - 1)).bind fun l => if l.length ≤ f.length + 1 then some (setsTo f.length l l.length) else none else none

structure OfI (w w1 W : World) (Bt : Nat) (vo : Value) (out : List Int) (vl : Value) (l : List Int) : Prop where
  told : W.heap[Bt]? = some (.cells #[.slice none 0 0, .int .i64 0] 61 (0, 0))
  row : Kd.R (Kd.int .i64) 3 W w.heap.size (fun k => k < w1.heap.size) vo out
  lrow : Kd.R (Kd.int .i64) 3 W w.heap.size (fun k => w1.heap.size ≤ k) vl l
  below : Below w.heap.size w W
theorem OfI.put {w w1 W : World} {Bt gb co : Nat} {out l : List Int} {vl : Value} (h : OfI w w1 W Bt (.slice (some ⟨gb, 0, none⟩) out.length co) out vl l) (i : Int) (x : Int) :
    OfI w w1 (W.setCell ⟨gb, i.toNat, none⟩ (.int .i64 x)) Bt (.slice (some ⟨gb, 0, none⟩) out.length co) (out.set i.toNat x) vl l := by
  have h2 := Kd.R_putg h.row i x
  have hb : w.heap.size ≤ gb := own_base h.row.2.choose_spec.1 gb rfl
  exact ⟨(h2.2.block Bt (lt_of_block h.told) (Kd.R_ne h.row h.told (by decide))).trans h.told, h2.1, Kd.R_grown h.lrow h2.2 (fun k hk e => by have := h.row.1 gb rfl; injection e with e; omega), h.below.setCell hb _⟩

theorem two_blocks (w : World) (o0 o1 : Obj) : ((w.alloc o0).alloc o1).heap[w.heap.size]? = some o0 ∧ ((w.alloc o0).alloc o1).heap[w.heap.size + 1]? = some o1 := by
  have s1 : (w.alloc o0).heap.size = w.heap.size + 1 := World.size_alloc ..
  refine ⟨?_, ?_⟩
  · rw [Below.heap_alloc _ _ _ (by omega)]; exact heap_alloc_new w o0
  · rw [← s1]; exact heap_alloc_new _ o1
theorem of_start {w w1 w2 : World} {f l : List Int} {A1 Al : Option Addr} {c1 cl : Nat} (ht : w1.heap[w.heap.size + 1]? = some (.cells #[.slice none 0 0, .int .i64 0] 61 (0, 0))) (ho : Kd.R (Kd.int .i64) 3 w1 w.heap.size (fun _ => True) (.slice A1 (f.length + 1) c1) (List.replicate ((f.length : Int) + 1).toNat 0))
    (hb : Below w.heap.size w w1) (hb2 : Below w1.heap.size w1 w2) (hl : Kd.R (Kd.int .i64) 3 w2 w1.heap.size (fun _ => True) (.slice Al l.length cl) l) :
    OfI w w1 w2 (w.heap.size + 1) (.slice A1 (f.length + 1) c1) (setsTo f.length l 0) (.slice Al l.length cl) l := by
  refine ⟨(hb2.block _ (lt_of_block ht)).trans ht, ?_, Kd.R_lower (Kd.R_mono (Kd.R_bound hl) (fun k hk => hk.2.1)) hb.size, below_then hb hb.size hb2⟩
  have e : setsTo f.length l 0 = List.replicate ((f.length : Int) + 1).toNat 0 := by show List.replicate (f.length + 1) 0 = _; congr 1
  rw [e]
  exact Kd.R_below (Kd.R_mono (Kd.R_bound ho) (fun k hk => hk.2.2.1)) hb2

set_option maxHeartbeats 4000000 in
set_option maxRecDepth 100000 in
theorem of_calls (f : List Int) (gw gr : Int → Int) (m : Nat) (A : Option Addr) (c : Nat) (r : List Int) (Gw Gr : FuncId) (w : World) (hGw : IsFn Gw gw) (hGr : IsFn Gr gr) (hG : Glob w) (hC : Kd.C (Kd.int .i64) w A f.length f) (hc : f.length ≤ c) (hf : f.length ≤ 7) (hfr : ∀ j, 0 ≤ rd f j ∧ rd f j < 128) (h : ofF f gw gr m = some r) :
    Calls Tryd.prog 54 #[.slice A f.length c, .agg #[.func (.func Gw) #[] #[], .func (.func Gr) #[] #[]]] w fun e w' => ∃ v, e = .returned (.agg #[v, .int .i64 f.length]) ∧ Kd.R (Kd.int .i64) 3 w' w.heap.size (fun _ => True) v r ∧ Below w.heap.size w w' := by
  unfold ofF at h
  split at h
  · rename_i hok
    obtain ⟨l, hl, h⟩ := Option.bind_eq_some_iff.1 h
    split at h
    · rename_i hll
      obtain rfl := Option.some.inj h
      clear h
      have HC := Aside0.mk hC
      have HG := Aside0.mk hG
      have HW := Aside0.mk hGw
      have HR := Aside0.mk hGr
      have HF := Aside0.mk hfr
      have HL := Aside0.mk hl
      clear hC hG hGw hGr hfr hl
      have hw1 : IntKind.i64.wrap ((f.length : Int) + 1) = f.length + 1 := IntWalk.i64_in _ (by omega)
      go_enter Tryd.func54, Tryd.ntmps54
      go_wp2_with ((with_reducible refine gate_dst (N := 11) rfl ?_); refine Kd.R_make (Kd.int .i64) (w0 := w) w.heap.size 3 rfl (N := 11) rfl 22 _ _ rfl ((f.length : Int) + 1) rfl rfl Tryd.underlying22 (.int .i64 0) 8 info3 rfl (by decide) (by decide) 0 (ok := fun _ => True) (okp := fun _ => True) rfl (fun _ hk => hk) trivial (by omega) (by omega) (by repeat (first | exact Below.refl _ _ | apply below_alloc)) (by simp; omega) ?_; intro v1 w1 ho hb hg hnew; obtain ⟨A1, c1, e1⟩ := Kd.R_slice ho; subst e1; have HO := Aside0.mk ho; have HB := Aside0.mk hb; have HGr := Aside0.mk hg; clear ho hb hg hnew)
      rw [show (List.replicate ((f.length : Int) + 1).toNat (0 : Int)).length = f.length + 1 from by rw [List.length_replicate]; omega] at HO
      obtain ⟨t0, t1⟩ := two_blocks w (.cells #[.func (.func Gw) #[] #[], .func (.func Gr) #[] #[]] 57) (.cells #[.slice none 0 0, .int .i64 0] 61)
      have hbx : w1.heap[w.heap.size]? = some (.cells #[.func (.func Gw) #[] #[], .func (.func Gr) #[] #[]] 57 (0, 0)) := (HGr.out.block _ (lt_of_block t0) (by simp)).trans t0
      have hbt : w1.heap[w.heap.size + 1]? = some (.cells #[.slice none 0 0, .int .i64 0] 61 (0, 0)) := (HGr.out.block _ (lt_of_block t1) (by simp)).trans t1
      have hx0 : w1.cell? ⟨w.heap.size, 0, none⟩ = some (.func (.func Gw) #[] #[]) := (blk_cell hbx 0).trans rfl
      have hx1 : w1.cell? ⟨w.heap.size, 1, none⟩ = some (.func (.func Gr) #[] #[]) := (blk_cell hbx 1).trans rfl
      have HBX := Aside0.mk hbx
      have HBT := Aside0.mk hbt
      clear t0 t1 hbx hbt HGr
      go_region_held3 (fun w' => w'.cell? ⟨w.heap.size, 0, none⟩ = some (.func (.func Gw) #[] #[]) ∧ w'.cell? ⟨w.heap.size, 1, none⟩ = some (.func (.func Gr) #[] #[])) (first | go_keep | exact ⟨hx02, hx12⟩)
        (first
          | (go_at_call 69; refine (all_calls A c f hf _).mono ?_; rintro e w' ⟨rfl, rfl⟩)
          | (go_at_call 71; refine ((over_on f gw gr m).1 A c _ l Gw Gr _ HW.out HR.out (HG.out.of_below (below_drew1 HB.out)) (Kd.C_below HC.out (below_drew1 HB.out)) hc hf HF.out hok HL.out).mono ?_; rintro e w2 ⟨vl, rfl, hRl, hbl⟩; obtain ⟨Al, cl, el⟩ := Kd.R_slice hRl; subst el; have hb2 : Below w1.heap.size w1 w2 := ⟨hbl.os, hbl.tape, hbl.output, hbl.size, hbl.block⟩; have HI := Aside0.mk (of_start HBT.out HO.out HB.out hb2 hRl); have hx02 : w2.cell? ⟨w.heap.size, 0, none⟩ = some (.func (.func Gw) #[] #[]) := (blk_cell ((hb2.block _ (lt_of_block HBX.out)).trans HBX.out) 0).trans rfl; have hx12 : w2.cell? ⟨w.heap.size, 1, none⟩ = some (.func (.func Gr) #[] #[]) := (blk_cell ((hb2.block _ (lt_of_block HBX.out)).trans HBX.out) 1).trans rfl; clear hRl hbl hb2))
      clear hx0 hx1 hx02 hx12
      go_wp2_with fail
      go_loopg [18] l.length (fun gk v18 W => ∃ k : Nat, k ≤ l.length ∧ gk = l.length - k ∧ v18 = .int .i64 k ∧ Aside0 (OfI w w1 W (w.heap.size + 1) (.slice A1 (f.length + 1) c1) (setsTo f.length l k) (.slice Al l.length cl) l))
      case atStart => exact ⟨0, by omega, rfl, rfl, HI⟩
      case round =>
        obtain ⟨k, hk, rfl, rfl, HI⟩ := hrel
        by_cases hlt : k < l.length
        · obtain ⟨ad, e, hel⟩ := Kd.at_int (Kd.R_reads' HI.out.lrow).2.2 k (by omega) (by omega)
          subst e
          have hel' : wr.cell? (ad.add k) = some (.int .i64 (rd l k)) := by simpa using hel
          clear hel
          have hlen := setsTo_length f.length l k
          obtain ⟨gb, co2, eo2, gb2, gl2, cl2, HG2⟩ := Kd.R_form HI.out.row (by omega)
          injection eo2 with ea_ en_ ec_
          subst ea_; subst ec_; clear en_
          have hq0 : (0 : Int) ≤ f.length - k := by omega
          have hq1 : ((f.length : Int) - k) < f.length + 1 := by omega
          obtain ⟨hy0, hyf⟩ := Kd.R_celln 0 HI.out.row ((f.length : Int) - k) hq0 (by omega)
          have HP := Aside0.mk ((show OfI w w1 wr (w.heap.size + 1) (.slice (some ⟨gb, 0, none⟩) (setsTo f.length l k).length c1) (setsTo f.length l k) (.slice (some ad) l.length cl) l by rw [hlen]; exact HI.out).put ((f.length : Int) - k) (rd l k))
          clear HI gb2 gl2 cl2 HG2
          have et : ((f.length : Int) - k).toNat = f.length - k := by omega
          rw [et] at hy0 hyf HP
          rw [hlen] at HP
          clear et
          have hw2 : IntKind.i64.wrap ((f.length : Int) - k) = f.length - k := IntWalk.i64_in _ (by omega)
          go_wp2_with fail
          go_roundg (l.length - (k + 1))
          case measure => omega
          case rel => exact ⟨k + 1, by omega, rfl, by go_num, HP⟩
        · have hke : k = l.length := by omega
          subst hke
          have hc0 : wr.cell? ⟨w.heap.size + 1, 0, none⟩ = some (.slice none 0 0) := (blk_cell HI.out.told 0).trans rfl
          have hc1 : wr.cell? ⟨w.heap.size + 1, 1, none⟩ = some (.int .i64 0) := (blk_cell HI.out.told 1).trans rfl
          have hf0 := blk_frozen HI.out.told 0
          have hf1 := blk_frozen HI.out.told 1
          go_wp2_with fail
          have hfin : ((wr.setCell ⟨w.heap.size + 1, 0, none⟩ (.slice A1 (f.length + 1) c1)).setCell ⟨w.heap.size + 1, 1, none⟩ (.int .i64 f.length)).heap[w.heap.size + 1]? = some (.cells #[.slice A1 (f.length + 1) c1, .int .i64 f.length] 61 (0, 0)) := blk_put (blk_put HI.out.told 0 _ rfl) 1 _ rfl
          refine bodyPost_ret (results_cell_row rfl _ _ (w.heap.size + 1) 61 #[.slice A1 (f.length + 1) c1, .int .i64 f.length] (0, 0) _ rfl hfin Tryd.underlying61 rfl (by kernel_rfl)) rfl ⟨_, rfl, ?_, (HI.out.below.setCell (by show w.heap.size ≤ w.heap.size + 1; omega) _).setCell (by show w.heap.size ≤ w.heap.size + 1; omega) _⟩
          exact Kd.R_mono (Kd.R_set (Kd.R_set HI.out.row HI.out.told (by decide) 0 _) (blk_put HI.out.told 0 _ rfl) (by decide) 1 _) (fun _ _ => trivial)
    · simp at h
  · simp at h
end Go.Proofs.YtglalkenkmijkaaDoor.Hand
/- 'trimmed' of a polynomial: a walk. -/
namespace Go.Proofs.YtglalkenkmijkaaDoor.Hand
open Go.RowKit Go.Proofs.YtglalkenkmijkaaDoorW.PrintWords Go.Proofs.YtglalkenkmijkaaDoorW.PrintLast Go.Proofs.YtglalkenkmijkaaDoorW.PrintMore
set_option linter.unusedVariables false
set_option linter.unusedSimpArgs false

/-- A list without zeros at its end. -/
def trimZ (r : List Int) : List Int := (r.reverse.dropWhile (· == 0)).reverse
theorem trimZ_nil : trimZ [] = [] := rfl
theorem trimZ_zero (xs : List Int) : trimZ (xs ++ [0]) = trimZ xs := by simp [trimZ]
theorem trimZ_last (xs : List Int) (x : Int) (h : (x == 0) = false) : trimZ (xs ++ [x]) = xs ++ [x] := by simp [trimZ, h]
theorem trimZ_step (xs : List Int) (h : 0 < xs.length) (hx : (rd xs ((xs.length : Int) - 1) == 0) = true) : trimZ (xs.take (xs.length - 1)) = trimZ xs := by
  have h1 : xs = xs.take (xs.length - 1) ++ [rd xs ((xs.length : Int) - 1)] := by
    conv => lhs; rw [← List.take_append_drop (xs.length - 1) xs]
    congr 1
    have : ((xs.length : Int) - 1).toNat = xs.length - 1 := by omega
    rw [rd, this, List.drop_eq_getElem_cons (by omega)]
    simp only [List.getD_eq_getElem?_getD, List.getElem?_eq_getElem (show xs.length - 1 < xs.length by omega), Option.getD_some]
    congr 1
    exact List.drop_eq_nil_of_le (by omega)
  conv => rhs; rw [h1]
  rw [beq_iff_eq.1 hx, trimZ_zero]
theorem trimZ_stop (xs : List Int) (hx : xs.length = 0 ∨ (rd xs ((xs.length : Int) - 1) == 0) = false) : trimZ xs = xs := by
  by_cases h : xs.length = 0
  · rw [List.eq_nil_of_length_eq_zero h]; rfl
  · have hx := hx.resolve_left h
    have h1 : xs = xs.take (xs.length - 1) ++ [rd xs ((xs.length : Int) - 1)] := by
      conv => lhs; rw [← List.take_append_drop (xs.length - 1) xs]
      congr 1
      have : ((xs.length : Int) - 1).toNat = xs.length - 1 := by omega
      rw [rd, this, List.drop_eq_getElem_cons (by omega)]
      simp only [List.getD_eq_getElem?_getD, List.getElem?_eq_getElem (show xs.length - 1 < xs.length by omega), Option.getD_some]
      congr 1
      exact List.drop_eq_nil_of_le (by omega)
    rw [h1]
    exact trimZ_last _ _ hx

structure TrI (w W : World) (base : Nat) (ok : Nat → Prop) (v : Value) (xs : List Int) : Prop where
  var : W.heap[w.heap.size]? = some (.cells #[v] 59 (0, 0))
  res : W.heap[w.heap.size + 1]? = some (.cells #[.slice none 0 0] 59 (0, 0))
  row : Kd.R (Kd.int .i64) 3 W base ok v xs
  below : Below w.heap.size w W

set_option maxHeartbeats 4000000 in
set_option maxRecDepth 100000 in
theorem trimmed_calls (base : Nat) (ok : Nat → Prop) (v : Value) (r : List Int) (w : World) (hr : Kd.R (Kd.int .i64) 3 w base ok v r) (hlen : r.length ≤ 1000) :
    Calls Tryd.prog 57 #[.agg #[v]] w fun e w' => ∃ v', e = .returned (.agg #[v']) ∧ Kd.R (Kd.int .i64) 3 w' base ok v' (trimZ r) ∧ Below w.heap.size w w' := by
  obtain ⟨A0, c0, e0⟩ := Kd.R_slice hr
  subst e0
  obtain ⟨t0, t1⟩ := two_blocks w (.cells #[.slice A0 r.length c0] 59) (.cells #[.slice none 0 0] 59)
  have HI := Aside0.mk (show TrI w ((w.alloc (.cells #[.slice A0 r.length c0] 59)).alloc (.cells #[.slice none 0 0] 59)) base ok (.slice A0 r.length c0) r from ⟨t0, t1, Kd.R_alloc (Kd.R_alloc hr _) _, below_alloc (below_alloc (Below.refl _ _) _) _⟩)
  clear t0 t1 hr
  go_enter Tryd.func57, Tryd.ntmps57
  go_wp2_with fail
  go_loopg [] r.length (fun gk W => ∃ (v : Value) (xs : List Int), gk = xs.length ∧ xs.length ≤ 1000 ∧ Aside0 (TrI w W base ok v xs) ∧ Aside0 (trimZ xs = trimZ r))
  case atStart => exact ⟨_, r, rfl, hlen, HI, ⟨rfl⟩⟩
  case round =>
    obtain ⟨v, xs, rfl, hx, HI, HT⟩ := hrel
    obtain ⟨A, c, e⟩ := Kd.R_slice HI.out.row
    subst e
    have hcv : wr.cell? ⟨w.heap.size, 0, none⟩ = some (.slice A xs.length c) := cell_of_one HI.out.var
    have hfv := free_of_one HI.out.var
    have hcr : wr.cell? ⟨w.heap.size + 1, 0, none⟩ = some (.slice none 0 0) := cell_of_one HI.out.res
    have hfr := free_of_one HI.out.res
    by_cases h0 : xs.length = 0
    · have d0 : decide ((0 : Int) < xs.length) = false := decide_eq_false (by omega)
      have d0' : decide (0 < xs.length) = false := decide_eq_false (by omega)
      have HS := Aside0.mk (trimZ_stop xs (.inl h0))
      clear h0
      go_wp2_with fail
      have hfin : (wr.setCell ⟨w.heap.size + 1, 0, none⟩ (.slice A xs.length c)).heap[w.heap.size + 1]? = some (.cells #[.slice A xs.length c] 59 (0, 0)) := one_setCell HI.out.res
      refine bodyPost_ret (results_cell_row rfl _ _ (w.heap.size + 1) 59 #[.slice A xs.length c] (0, 0) _ rfl hfin Tryd.underlying59 rfl (by kernel_rfl)) rfl ⟨_, rfl, ?_, HI.out.below.setCell (by show w.heap.size ≤ w.heap.size + 1; omega) _⟩
      rw [← HT.out, HS.out]
      exact Kd.R_set HI.out.row HI.out.res (by decide) 0 _
    · have d0 : decide ((0 : Int) < xs.length) = true := decide_eq_true (by omega)
      have d0' : decide (0 < xs.length) = true := decide_eq_true (by omega)
      have hi0 : (0 : Int) ≤ (xs.length : Int) - 1 := by omega
      have hi1 : (xs.length : Int) - 1 < xs.length := by omega
      obtain ⟨ad, e, hel⟩ := Kd.at_int (Kd.R_reads' HI.out.row).2.2 ((xs.length : Int) - 1) hi0 hi1
      subst e
      have hcap : (xs.length : Int) - 1 ≤ c := by have := (Kd.R_reads' HI.out.row).2.1; omega
      have et : ((xs.length : Int) - 1).toNat = xs.length - 1 := by omega
      rw [et] at hel
      clear et
      by_cases hz : (rd xs ((xs.length : Int) - 1) == 0) = true
      · have HS := Aside0.mk (trimZ_step xs (by omega) hz)
        go_wp2_with fail
        go_roundg (xs.length - 1)
        case measure => omega
        case rel =>
          refine ⟨_, xs.take (xs.length - 1), by rw [List.length_take]; omega, by rw [List.length_take]; omega, ⟨one_setCell HI.out.var, ?_, ?_, HI.out.below.setCell (Nat.le_refl _) _⟩, ⟨by rw [HS.out]; exact HT.out⟩⟩
          · exact (Below.heap_setCell _ _ _ _ (by show w.heap.size + 1 ≠ w.heap.size; omega)).trans HI.out.res
          · exact Kd.R_set (Kd.R_take HI.out.row (by omega)) HI.out.var (by decide) 0 _
      · have hz : (rd xs ((xs.length : Int) - 1) == 0) = false := by simpa using hz
        have HS := Aside0.mk (trimZ_stop xs (.inr hz))
        go_wp2_with fail
        have hfin : (wr.setCell ⟨w.heap.size + 1, 0, none⟩ (.slice (some ad) xs.length c)).heap[w.heap.size + 1]? = some (.cells #[.slice (some ad) xs.length c] 59 (0, 0)) := one_setCell HI.out.res
        refine bodyPost_ret (results_cell_row rfl _ _ (w.heap.size + 1) 59 #[.slice (some ad) xs.length c] (0, 0) _ rfl hfin Tryd.underlying59 rfl (by kernel_rfl)) rfl ⟨_, rfl, ?_, HI.out.below.setCell (by show w.heap.size ≤ w.heap.size + 1; omega) _⟩
        rw [← HT.out, HS.out]
        exact Kd.R_set HI.out.row HI.out.res (by decide) 0 _
end Go.Proofs.YtglalkenkmijkaaDoor.Hand
/- Tones, Matchings, Figures: walks. -/
namespace Go.Proofs.YtglalkenkmijkaaDoor.Hand
open Go.RowKit Go.Proofs.YtglalkenkmijkaaDoorW.PrintWords Go.Proofs.YtglalkenkmijkaaDoorW.PrintLast Go.Proofs.YtglalkenkmijkaaDoorW.PrintMore
set_option linter.unusedVariables false
set_option linter.unusedSimpArgs false

theorem isFr_len {l : List Int} (h : isFr l = true) : 1 ≤ l.length ∧ l.length ≤ 7 := by
  unfold isFr at h
  simp only [Bool.and_eq_true, decide_eq_true_eq] at h
  exact h.1
theorem isFr_bounds {l : List Int} (h : isFr l = true) (j : Int) : 0 ≤ rd l j ∧ rd l j < 128 := by
  have hl := isFr_len h
  unfold isFr at h
  simp only [Bool.and_eq_true, List.all_eq_true, List.mem_range] at h
  unfold rd
  by_cases hj : j.toNat < l.length
  · have h1 := (h.2 _ hj).1
    unfold rowOk at h1
    simp only [Bool.and_eq_true, decide_eq_true_eq] at h1
    have h2 : rd l (j.toNat : Int) = l.getD j.toNat 0 := by unfold rd; rw [Int.toNat_natCast]
    rw [h2] at h1
    have h3 : (2 : Int) ^ l.length ≤ 128 := by
      have : l.length < 8 := by omega
      generalize l.length = n at this
      revert this
      revert n
      decide +kernel
    omega
  · rw [List.getD_eq_getElem?_getD, List.getElem?_eq_none (by omega)]
    simp

def gneg (s : Int) : Int := wrap64 (-s)
def gneg2 (s : Int) : Int := wrap64 (-2 * s)
def gzero (_ : Int) : Int := 0
def gid (s : Int) : Int := s
def tonesF (k : Nat) (l : List Int) : Option (List Int × Int) :=
  if isFr l = true then (ofF l gneg gneg2 k).bind fun r => if r.length ≤ 1000 then some (trimZ r, 0) else none else some ([], 2)
def matchingsF (k : Nat) (l : List Int) : Option (List Int × Int) :=
  if isFr l = true then (ofF l gneg gzero k).bind fun r => if r.length ≤ 1000 then some (trimZ r, 0) else none else some ([], 2)

theorem field61_0 (a b : Value) (w : World) : Sem.run Tryd.prog (Instr.field 61 (.agg #[a, b]) 0) w = .ok (.agg #[a]) w := by kernel_rfl
theorem field59_0 (a : Value) (w : World) : Sem.run Tryd.prog (Instr.field 59 (.agg #[a]) 0) w = .ok a w := by kernel_rfl
set_option maxHeartbeats 4000000 in
set_option maxRecDepth 100000 in
theorem tones_calls (k : Nat) (A0 : Option Addr) (c0 : Nat) (l0 : List Int) (r1 : List Int) (r2 : Int) (w : World) (hr0 : Kd.C (Kd.int .i64) w A0 l0.length l0) (hc0 : l0.length ≤ c0) (h : tonesF k l0 = some (r1, r2)) (hG : Glob w) :
    Calls Tryd.prog 21 #[.slice A0 l0.length c0] w fun e w' => ∃ v0_ : Value, e = .returned (.tuple #[v0_, .int .i64 r2]) ∧ Kd.R (Kd.int .i64) 3 w' w.heap.size (fun _ => True) v0_ r1 ∧ Below w.heap.size w w' := by
  unfold tonesF at h
  by_cases hf : isFr l0 = true
  · rw [if_pos hf] at h
    obtain ⟨r, ho, h⟩ := Option.bind_eq_some_iff.1 h
    split at h
    · rename_i hr
      injection h with h
      injection h with e1 e2
      subst e1
      have HE := Aside0.mk e2
      have HC := Aside0.mk hr0
      have HG := Aside0.mk hG
      have HF := Aside0.mk hf
      have HO := Aside0.mk ho
      have g0 := hG.sachs0
      have g1 := hG.sachs1
      clear e2 hr0 hG hf ho
      go_enter Tryd.func21, Tryd.ntmps21
      go_wp2_with (first
        | (go_at_call 51; refine (read_calls A0 c0 l0 _ HC.out hc0).mono ?_; intro e w1 hh; unfold ReadP at hh; rw [HF.out] at hh; obtain ⟨rfl, n1, rfl⟩ := hh)
        | (go_at_call 54; refine (of_calls l0 gneg gneg2 k A0 c0 r 139 140 _ isFn139 isFn140 (HG.out.of_below (pw_below_drewN (Below.refl _ _) _)) (Kd.C_drewN HC.out _) hc0 (isFr_len HF.out).2 (isFr_bounds HF.out) HO.out).mono ?_; rintro e w2 ⟨v2, rfl, hR, hB⟩; obtain ⟨A2, c2, e2⟩ := Kd.R_slice hR; subst e2; have HR := Aside0.mk hR; have HB := Aside0.mk hB; clear hR hB)
        | (rw [field61_0])
        | (rw [field59_0])
        | (go_at_call 57; refine (trimmed_calls _ _ _ r _ HR.out hr).mono ?_; rintro e w3 ⟨v3, rfl, hR3, hB3⟩; obtain ⟨A3, c3, e3⟩ := Kd.R_slice hR3; subst e3; have HR3 := Aside0.mk hR3; have HB3 := Aside0.mk hB3; clear hR3 hB3))
      clear g0 g1
      have hs : w.heap.size ≤ (w.drewN n1).heap.size := Nat.le_refl _
      have hb2 : Below w.heap.size w w2 := below_then (pw_below_drewN (Below.refl _ _) n1) hs HB.out
      have hb3 : Below w.heap.size w w3 := below_then hb2 hb2.size HB3.out
      have hR4 := Kd.R_lower HR3.out hs
      have he := HE.out
      subst he
      go_ret2
      exact ⟨_, rfl, hR4, hb3⟩
    · simp at h
  · rw [if_neg hf] at h
    injection h with h
    injection h with e1 e2
    subst e1
    subst e2
    have hf : isFr l0 = false := by simpa using hf
    have HC := Aside0.mk hr0
    have HF := Aside0.mk hf
    clear hr0 hf hG
    go_enter Tryd.func21, Tryd.ntmps21
    go_wp2_with (first
        | (go_at_call 51; refine (read_calls A0 c0 l0 _ HC.out hc0).mono ?_; intro e w1 hh; unfold ReadP at hh; rw [HF.out] at hh; obtain ⟨rfl, n1, rfl⟩ := hh))
    go_ret2
    exact ⟨_, rfl, Kd.R_nil _ _ _ _ _, pw_below_drewN (Below.refl _ _) n1⟩
set_option maxHeartbeats 4000000 in
set_option maxRecDepth 100000 in
theorem matchings_calls (k : Nat) (A0 : Option Addr) (c0 : Nat) (l0 : List Int) (r1 : List Int) (r2 : Int) (w : World) (hr0 : Kd.C (Kd.int .i64) w A0 l0.length l0) (hc0 : l0.length ≤ c0) (h : matchingsF k l0 = some (r1, r2)) (hG : Glob w) :
    Calls Tryd.prog 23 #[.slice A0 l0.length c0] w fun e w' => ∃ v0_ : Value, e = .returned (.tuple #[v0_, .int .i64 r2]) ∧ Kd.R (Kd.int .i64) 3 w' w.heap.size (fun _ => True) v0_ r1 ∧ Below w.heap.size w w' := by
  unfold matchingsF at h
  by_cases hf : isFr l0 = true
  · rw [if_pos hf] at h
    obtain ⟨r, ho, h⟩ := Option.bind_eq_some_iff.1 h
    split at h
    · rename_i hr
      injection h with h
      injection h with e1 e2
      subst e1
      have HE := Aside0.mk e2
      have HC := Aside0.mk hr0
      have HG := Aside0.mk hG
      have HF := Aside0.mk hf
      have HO := Aside0.mk ho
      have g0 := hG.matched0
      have g1 := hG.matched1
      clear e2 hr0 hG hf ho
      go_enter Tryd.func23, Tryd.ntmps23
      go_wp2_with (first
        | (go_at_call 51; refine (read_calls A0 c0 l0 _ HC.out hc0).mono ?_; intro e w1 hh; unfold ReadP at hh; rw [HF.out] at hh; obtain ⟨rfl, n1, rfl⟩ := hh)
        | (go_at_call 54; refine (of_calls l0 gneg gzero k A0 c0 r 141 142 _ isFn141 isFn142 (HG.out.of_below (pw_below_drewN (Below.refl _ _) _)) (Kd.C_drewN HC.out _) hc0 (isFr_len HF.out).2 (isFr_bounds HF.out) HO.out).mono ?_; rintro e w2 ⟨v2, rfl, hR, hB⟩; obtain ⟨A2, c2, e2⟩ := Kd.R_slice hR; subst e2; have HR := Aside0.mk hR; have HB := Aside0.mk hB; clear hR hB)
        | (rw [field61_0])
        | (rw [field59_0])
        | (go_at_call 57; refine (trimmed_calls _ _ _ r _ HR.out hr).mono ?_; rintro e w3 ⟨v3, rfl, hR3, hB3⟩; obtain ⟨A3, c3, e3⟩ := Kd.R_slice hR3; subst e3; have HR3 := Aside0.mk hR3; have HB3 := Aside0.mk hB3; clear hR3 hB3))
      clear g0 g1
      have hs : w.heap.size ≤ (w.drewN n1).heap.size := Nat.le_refl _
      have hb2 : Below w.heap.size w w2 := below_then (pw_below_drewN (Below.refl _ _) n1) hs HB.out
      have hb3 : Below w.heap.size w w3 := below_then hb2 hb2.size HB3.out
      have hR4 := Kd.R_lower HR3.out hs
      have he := HE.out
      subst he
      go_ret2
      exact ⟨_, rfl, hR4, hb3⟩
    · simp at h
  · rw [if_neg hf] at h
    injection h with h
    injection h with e1 e2
    subst e1
    subst e2
    have hf : isFr l0 = false := by simpa using hf
    have HC := Aside0.mk hr0
    have HF := Aside0.mk hf
    clear hr0 hf hG
    go_enter Tryd.func23, Tryd.ntmps23
    go_wp2_with (first
        | (go_at_call 51; refine (read_calls A0 c0 l0 _ HC.out hc0).mono ?_; intro e w1 hh; unfold ReadP at hh; rw [HF.out] at hh; obtain ⟨rfl, n1, rfl⟩ := hh))
    go_ret2
    exact ⟨_, rfl, Kd.R_nil _ _ _ _ _, pw_below_drewN (Below.refl _ _) n1⟩
end Go.Proofs.YtglalkenkmijkaaDoor.Hand
