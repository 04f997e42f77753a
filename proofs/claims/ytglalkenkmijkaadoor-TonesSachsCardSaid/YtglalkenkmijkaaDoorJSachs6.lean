/- Sachs: part 6 of the texts of this claim, joined by a program: the walks over the program's text, the plain laws, the card. No condition beyond the statement's own. -/
import Derived.Test.YtglalkenkmijkaaDoorJSachs5
import Derived.Test.YtglalkenkmijkaaDoorJSachs4
import Derived.Test.YtglalkenkmijkaaDoorJSachs0
import Derived.Test.YtglalkenkmijkaaDoorJSachs3
import Derived.Test.YtglalkenkmijkaaDoorJSachs1
import Derived.OwnWalk
import Derived.Test.YtglalkenkmijkaaDoorJSachs2
/- The chain of a polynomial: a walk. -/
namespace Go.Proofs.YtglalkenkmijkaaDoor.Hand
open Go.RowKit Go.Proofs.YtglalkenkmijkaaDoorW.PrintWords Go.Proofs.YtglalkenkmijkaaDoorW.PrintLast Go.Proofs.YtglalkenkmijkaaDoorW.PrintMore
open PAll
set_option linter.unusedVariables false
set_option linter.unusedSimpArgs false

def mkS (t : Int × List Int) : S87 := ⟨t.1, t.2⟩
def pTo (k : Nat) (l : List Int) : Nat → Option (List S87)
  | 0 => some []
  | i + 1 => (pTo k l i).bind fun p => (tones_whole.f k (rd l i)).map fun t => p ++ [mkS t]
def qTo (k : Nat) (l : List Int) : Nat → Option (List S87)
  | 0 => some []
  | i + 1 => (qTo k l i).bind fun q => if 0 < i then (tones_whole.f k (wrap64 (i * rd l i))).map fun t => q ++ [mkS t] else some q
def negS (x : S87) : S87 := ⟨wrap64 (-x.f0), x.f1⟩
def chainL (k m : Nat) : Nat → List S87 → List S87 → List (List S87) → Option (List (List S87))
  | 0, _, _, _ => none
  | f + 1, p, q, out => if 0 < q.length then (restF k m p q).bind fun r => if r.length ≤ 1000 ∧ out.length ≤ 1000 then chainL k m f q (r.map negS) (out ++ [q]) else none else some out
def chainF (k m f : Nat) (l : List Int) : Option (List (List S87)) :=
  if l.length ≤ 1000 then (pTo k l l.length).bind fun p => (qTo k l l.length).bind fun q => chainL k m f p (q.take (trimLen q q.length)) [p] else none
theorem pTo_length {k : Nat} {l : List Int} : ∀ {i : Nat} {p : List S87}, pTo k l i = some p → p.length = i
  | 0, p, h => by injection h with h; rw [← h]; rfl
  | i + 1, p, h => by
    obtain ⟨p2, h2, h⟩ := Option.bind_eq_some_iff.1 h
    obtain ⟨u, _, h⟩ := Option.map_eq_some_iff.1 h
    rw [← h, List.length_append, pTo_length h2]; rfl
theorem pTo_some {k : Nat} {l : List Int} {r : List S87} : ∀ {d i : Nat}, pTo k l (i + d) = some r → ∃ p, pTo k l i = some p
  | 0, i, h => ⟨r, h⟩
  | d + 1, i, h => by
    obtain ⟨l2, h2, h⟩ := Option.bind_eq_some_iff.1 (show (pTo k l (i + d)).bind _ = some r from h)
    exact pTo_some (d := d) h2
theorem qTo_length {k : Nat} {l : List Int} : ∀ {i : Nat} {q : List S87}, qTo k l i = some q → q.length ≤ i
  | 0, q, h => by injection h with h; rw [← h]; exact Nat.le_refl _
  | i + 1, q, h => by
    obtain ⟨q2, h2, h⟩ := Option.bind_eq_some_iff.1 h
    have := qTo_length h2
    split at h
    · obtain ⟨u, _, h⟩ := Option.map_eq_some_iff.1 h
      rw [← h, List.length_append]; simp; omega
    · injection h with h
      rw [← h]; omega
theorem qTo_some {k : Nat} {l : List Int} {r : List S87} : ∀ {d i : Nat}, qTo k l (i + d) = some r → ∃ p, qTo k l i = some p
  | 0, i, h => ⟨r, h⟩
  | d + 1, i, h => by
    obtain ⟨l2, h2, h⟩ := Option.bind_eq_some_iff.1 (show (qTo k l (i + d)).bind _ = some r from h)
    exact qTo_some (d := d) h2
theorem own_new {v : Value} {n k : Nat} (h : ∀ k, v.ownBlock = some k → k < n) (hk : n ≤ k) : some k ≠ v.ownBlock := fun e => Nat.lt_irrefl _ (Nat.lt_of_lt_of_le (h k e.symm) hk)
theorem underlying67_ : Tryd.prog.underlying 67 = some (.slice 85) := by kernel_rfl

/-- What stands while the polynomial and its derivative are made. -/
structure CQ (w W : World) (vp vq : Value) (p q : List S87) : Prop where
  np : Kd.N k87 87 W w.heap.size (fun k => True ∧ some k ≠ vq.ownBlock) vp p
  nq : Kd.N k87 87 W w.heap.size (fun k => True ∧ some k ≠ vp.ownBlock) vq q
  below : Below w.heap.size w W
theorem CQ.below_ {w W W2 : World} {vp vq : Value} {p q : List S87} (h : CQ w W vp vq p q) (hb : Below W.heap.size W W2) : CQ w W2 vp vq p q :=
  ⟨Kd.N_below h.np hb, Kd.N_below h.nq hb, below_then h.below h.below.size hb⟩
theorem mkS_F {W : World} {base : Nat} {t : Int × List Int} {A : Option Addr} {n c : Nat} (h : Kd.R (Kd.int .i64) 3 W base (fun _ => True) (.slice A n c) t.2) : n = t.2.length ∧ Kd.FK k87 W (fun k => base ≤ k ∧ k < W.heap.size) (mkS t) [.int .i64 t.1, .slice A n c] := by
  obtain ⟨hn, hc, _⟩ := Kd.R_reads' h
  subst hn
  exact ⟨rfl, k87_mkF W _ (mkS t) hc (Kd.F_mono (Kd.R_F (Kd.R_bound h)) (fun k hk => ⟨hk.2.1, hk.2.2.1⟩))⟩

theorem slice_FK {W : World} {ok : Nat → Prop} {A : Option Addr} {x : List S87} {c : Nat} (h : Kd.F k87 W ok A x.length x) (hc : x.length ≤ c) : Kd.FK (Kd.slice 87 k87) W ok x [.slice A x.length c] := fun W' hW => ⟨A, c, rfl, hc, h W' hW⟩
theorem N_one {W : World} {base : Nat} {ok : Nat → Prop} {A : Option Addr} {x : List S87} {c : Nat} (hb : base ≤ W.heap.size) (h : Kd.F k87 W ok A x.length x) (hc : x.length ≤ c) :
    Kd.N (Kd.slice 87 k87) 85 (W.alloc (.cells #[.slice A x.length c] 85)) base (fun _ => True) (.slice (some ⟨W.heap.size, 0, none⟩) 1 1) [x] := by
  refine ⟨fun _ _ => trivial, [[.slice A x.length c]], rfl, ⟨fun k hk => hk.symm, ?_⟩, fun j y d hy hd => ?_⟩
  · have := OwnRow.lit (R := fun (x : List Value) (cs : List Value) => cs = x ∧ cs.length = 1 ∧ ∀ u ∈ cs, u.oneCell' = true) (e := 85) (size := 1) (ps := [[Value.slice A x.length c]]) W base (inner := [.slice A x.length c]) ⟨by simp, fun j p hj => by
      rcases j with _ | j
      · simp at hj
        subst hj
        simp [Value.oneCell']
      · simp at hj⟩ hb (by simp)
    exact this
  · rcases j with _ | j
    · simp at hy hd
      subst hy hd
      exact Kd.FK_mono (Kd.FK_bound (slice_FK (Kd.F_alloc (Kd.F_bound h) _) hc)) (fun k hk => ⟨trivial, fun e => by
        have e' : k = W.heap.size := by simpa [Value.ownBlock] using e
        have := hk.1.2
        omega⟩)
    · simp at hy
/-- What stands while the chain is made. -/
structure CO (w W : World) (vo : Value) (out : List (List S87)) (Ap : Option Addr) (cp : Nat) (p : List S87) (Aq : Option Addr) (cq : Nat) (q : List S87) : Prop where
  no : Kd.N (Kd.slice 87 k87) 85 W w.heap.size (fun _ => True) vo out
  fp : Kd.F k87 W (fun k => True ∧ some k ≠ vo.ownBlock) Ap p.length p
  fq : Kd.F k87 W (fun k => True ∧ some k ≠ vo.ownBlock) Aq q.length q
  lp : p.length ≤ cp
  lq : q.length ≤ cq
  below : Below w.heap.size w W
/-- .. and its last one's signs are turned. -/
structure CN (w W : World) (B : Nat) (vo : Value) (out : List (List S87)) (Aq : Option Addr) (cq : Nat) (q : List S87) (vn : Value) (nl : List S87) : Prop where
  no : Kd.N (Kd.slice 87 k87) 85 W w.heap.size (fun k => True ∧ k < B) vo out
  fq : Kd.F k87 W (fun k => (True ∧ some k ≠ vo.ownBlock) ∧ k < B) Aq q.length q
  lq : q.length ≤ cq
  nn : Kd.N k87 87 W B (fun k => ((True ∧ some k ≠ vo.ownBlock) ∧ k < B) ∨ B ≤ k) vn nl
  old : ∀ k, vo.ownBlock = some k → k < B
  base : w.heap.size ≤ B
  below : Below w.heap.size w W
def negTo (l : List S87) : Nat → List S87
  | 0 => l
  | i + 1 => (negTo l i).set i (negS (rd_T87 (negTo l i) i))
theorem negTo_length (l : List S87) : ∀ i, (negTo l i).length = l.length
  | 0 => rfl
  | i + 1 => by rw [negTo, List.length_set, negTo_length l i]
theorem negTo_get (l : List S87) : ∀ i, i ≤ l.length → ∀ j, (negTo l i)[j]? = if j < i then l[j]?.map negS else l[j]?
  | 0, _, j => by simp [negTo]
  | i + 1, h, j => by
    have ih := negTo_get l i (by omega)
    rw [negTo, List.getElem?_set]
    by_cases hj : i = j
    · subst hj
      have hl := negTo_length l i
      have h2 := ih i
      rw [if_neg (Nat.lt_irrefl _)] at h2
      rw [if_pos rfl, if_pos (by omega), if_pos (Nat.lt_succ_self _), rd_T87, Int.toNat_natCast, List.getD_eq_getElem?_getD, h2, List.getElem?_eq_getElem (by omega)]
      rfl
    · rw [if_neg hj, ih j]
      by_cases h1 : j < i
      · rw [if_pos h1, if_pos (by omega)]
      · rw [if_neg h1, if_neg (by omega)]
theorem negTo_all (l : List S87) : negTo l l.length = l.map negS := by
  apply List.ext_getElem?
  intro j
  rw [negTo_get l l.length (Nat.le_refl _) j, List.getElem?_map]
  by_cases h : j < l.length
  · rw [if_pos h]
  · rw [if_neg h, List.getElem?_eq_none (by omega)]; rfl
theorem N_sign {W : World} {base n cap g : Nat} {ok : Nat → Prop} {l : List S87} (h : Kd.N k87 87 W base ok (.slice (some ⟨g, 0, none⟩) n cap) l) (i : Nat) (hi : i < n) (s : Int) :
    Kd.N k87 87 (W.setCell ⟨g, i * 2, none⟩ (.int .i64 s)) base ok (.slice (some ⟨g, 0, none⟩) n cap) (l.set i ⟨s, (rd_T87 l i).f1⟩) ∧ W.grownBy (W.setCell ⟨g, i * 2, none⟩ (.int .i64 s)) (some g) := by
  obtain ⟨c7, hc7, hF7, hcc7, hfr⟩ := Kd.N_elem h z87 (i : Int) (by omega) (by omega)
  obtain ⟨Ax, cx, rfl, hcx, hFx⟩ := k87_openF hF7
  have := Kd.N_seg h (i : Int) (by omega) (by omega) (c := _) (seg := [.int .i64 s]) (j := 0) (okp := fun k => ok k ∧ k ≠ g) hc7 hcc7 (by show 0 + 1 ≤ 2; omega) (x' := ⟨s, (rd_T87 l i).f1⟩) (k87_mkF W _ ⟨s, (rd_T87 l i).f1⟩ hcx hFx) (fun k hk => hk)
  rw [Int.toNat_natCast] at this
  simpa [World.setCells, k87, Kd.iso, Kd.pair, Kd.slice, Kd.int, Kd.scalar] using this
theorem CN.sign {w W : World} {B : Nat} {vo : Value} {out : List (List S87)} {Aq : Option Addr} {cq : Nat} {q : List S87} {g n c : Nat} {nl : List S87} (h : CN w W B vo out Aq cq q (.slice (some ⟨g, 0, none⟩) n c) nl) (i : Nat) (hi : i < n) (a : Addr) (ha : a = ⟨g, i * 2, none⟩) (u : Value) (hu : u = .int .i64 (wrap64 (-(rd_T87 nl i).f0))) :
    CN w (W.setCell a u) B vo out Aq cq q (.slice (some ⟨g, 0, none⟩) n c) (nl.set i (negS (rd_T87 nl i))) := by
  subst ha hu
  have hg : B ≤ g := Kd.N_base h.nn g rfl
  obtain ⟨h1, h2⟩ := N_sign h.nn i hi (wrap64 (-(rd_T87 nl i).f0))
  exact ⟨Kd.N_grown h.no h2 (fun k hk e => by injection e with e; have := hk.2; omega), Kd.F_grown h.fq h2 (fun k hk e => by injection e with e; have := hk.2; omega), h.lq, h1, h.old, h.base, h.below.setCell (Nat.le_trans h.base hg) _⟩

set_option maxHeartbeats 20000000 in
set_option maxRecDepth 100000 in
theorem chain_calls (k m f : Nat) (A0 : Option Addr) (c0 : Nat) (l : List Int) (r : List (List S87)) (w : World) (hr0 : Kd.C (Kd.int .i64) w A0 l.length l) (hc0 : l.length ≤ c0) (h : chainF k m f l = some r) :
    Calls Tryd.prog 60 #[.slice A0 l.length c0] w fun e w' => ∃ v : Value, e = .returned v ∧ Kd.N (Kd.slice 87 k87) 85 w' w.heap.size (fun _ => True) v r ∧ Below w.heap.size w w' := by
  unfold chainF at h
  by_cases hl : l.length ≤ 1000
  · rw [if_pos hl] at h
    obtain ⟨p0, hp0, h1⟩ := Option.bind_eq_some_iff.1 h
    obtain ⟨q0, hq0, h2⟩ := Option.bind_eq_some_iff.1 h1
    have H := Aside0.mk h2
    clear h1 h2
    have HP0 := Aside0.mk hp0
    have HQ0 := Aside0.mk hq0
    have HC := Aside0.mk hr0
    clear h hp0 hq0 hr0
    go_enter Tryd.func60, Tryd.ntmps60
    go_wp2_with fail
    go_loopg [3, 4, 12] l.length (fun gk t3 t4 t12 W => ∃ (i : Nat) (vp vq : Value) (p q : List S87), i ≤ l.length ∧ gk = l.length - i ∧ t3 = vp ∧ t4 = vq ∧ t12 = .int .i64 i ∧ Aside0 (pTo k l i = some p) ∧ Aside0 (qTo k l i = some q) ∧ Aside0 (CQ w W vp vq p q))
    case atStart => exact ⟨0, _, _, [], [], Nat.zero_le _, by omega, rfl, rfl, rfl, ⟨rfl⟩, ⟨rfl⟩, ⟨⟨Kd.N_nil _ _ _ _ _, Kd.N_nil _ _ _ _ _, Below.refl _ _⟩⟩⟩
    case round =>
      obtain ⟨i, vp, vq, p, q, hi, hgi, rfl, rfl, rfl, HPT, HQT, HI⟩ := hrel
      obtain ⟨Ap, cp, ep⟩ := Kd.N_slice HI.out.np
      obtain ⟨Aq, cq, eq⟩ := Kd.N_slice HI.out.nq
      subst ep
      subst eq
      by_cases hil : i < l.length
      · have hpe : pTo k l ((i + 1) + (l.length - (i + 1))) = some p0 := by rw [Nat.add_sub_cancel' hil]; exact HP0.out
        have hqe : qTo k l ((i + 1) + (l.length - (i + 1))) = some q0 := by rw [Nat.add_sub_cancel' hil]; exact HQ0.out
        obtain ⟨p1, hp1⟩ := pTo_some hpe
        obtain ⟨q1, hq1⟩ := qTo_some hqe
        clear hpe hqe
        have hp2 := hp1
        rw [pTo, HPT.out] at hp2
        obtain ⟨t, ht, hp2⟩ := Option.map_eq_some_iff.1 hp2
        have HT := Aside0.mk ht
        have HP1 := Aside0.mk hp1
        have HP2 := Aside0.mk hp2
        have HQ1 := Aside0.mk hq1
        have hq2 := hq1
        rw [qTo, HQT.out] at hq2
        have HQ2 := Aside0.mk hq2
        have HLP := Aside0.mk (pTo_length HPT.out)
        have hlp : p.length ≤ 1000 := by have := HLP.out; omega
        have hlq := qTo_length HQT.out
        obtain ⟨ad, e, hcell⟩ := Kd.at_int (Kd.C_below HC.out HI.out.below) i (by omega) (by omega)
        subst e
        rw [Int.toNat_natCast] at hcell
        have d1 : decide ((i : Int) < l.length) = true := decide_eq_true (by omega)
        have hi0 : (0 : Int) ≤ i := by omega
        have hi1 : (i : Int) < l.length := by omega
        clear ht hp1 hp2 hq1 hq2
        go_upto_region 6 with (first
          | (go_at_call 76; refine (tones_whole.calls k _ t.1 t.2 _ HT.out).mono ?_; rintro e w1 ⟨v1, rfl, hR1, hB1⟩; obtain ⟨A1, c1, e1⟩ := Kd.R_slice hR1; subst e1; have HR1 := Aside0.mk hR1; have HB1 := Aside0.mk hB1; clear hR1 hB1)
          | ((with_reducible refine gate_builtin (b := .append) (xs := #[.tmp 17, .tmp 20]) rfl ?_); at_builtin; refine Kd.N_append k87 (w0 := w) w.heap.size rfl (.tmp 17) (.tmp 20) 85 87 (.agg #[.int .i64 0, .slice none 0 0]) 32 rfl Tryd.underlying85 info87 rfl (by decide) (by decide) (.slice Ap p.length cp) p (mkS t) [.int .i64 t.1, .slice A1 t.2.length c1] (fun k => True ∧ some k ≠ (Value.slice Aq q.length cq).ownBlock) (fun k => wr.heap.size ≤ k ∧ k < w1.heap.size) rfl rfl ?hp ?hokp ?hfresh (HI.out.below_ HB1.out).np (HI.out.below_ HB1.out).below (HI.out.below_ HB1.out).below.size (by omega) ?_; (case hp => exact (mkS_F HR1.out).2); (case hokp => exact fun k hk => ⟨⟨trivial, own_new (Kd.N_lt HI.out.nq) hk.1⟩, own_new (Kd.N_lt HI.out.np) hk.1⟩); (case hfresh => exact fun k hk => ⟨trivial, own_new (Kd.N_lt (HI.out.below_ HB1.out).nq) hk⟩); intro v2 w2 hN hB hg hat; have HN2 := Aside0.mk hN; have HB2 := Aside0.mk hB; have HG2 := Aside0.mk hg; have HA2 := Aside0.mk hat; clear hN hB hg hat))
        have HI2 := Aside0.mk (show CQ w w2 v2 (.slice Aq q.length cq) (p ++ [mkS t]) q from ⟨HN2.out, Kd.N_after (HI.out.below_ HB1.out).nq HG2.out HA2.out, HB2.out⟩)
        clear HN2 HG2 HA2 HB2
        by_cases hpos : 0 < i
        · have hq2 := HQ2.out
          rw [Option.bind_some, if_pos hpos] at hq2
          obtain ⟨t', ht', hq2⟩ := Option.map_eq_some_iff.1 hq2
          have HT' := Aside0.mk ht'
          have HQ3 := Aside0.mk hq2
          have d2 : decide ((0 : Int) < i) = true := decide_eq_true (by omega)
          clear hq2 ht' HQ2
          go_wp2_with (first
            | (go_at_call 76; refine (tones_whole.calls k _ t'.1 t'.2 _ HT'.out).mono ?_; rintro e w3 ⟨v3, rfl, hR3, hB3⟩; obtain ⟨A3, c3, e3⟩ := Kd.R_slice hR3; subst e3; have HR3 := Aside0.mk hR3; have HB3 := Aside0.mk hB3; clear hR3 hB3)
            | ((with_reducible refine gate_builtin (b := .append) (xs := #[.tmp 24, .tmp 29]) rfl ?_); at_builtin; refine Kd.N_append k87 (w0 := w) w.heap.size rfl (.tmp 24) (.tmp 29) 85 87 (.agg #[.int .i64 0, .slice none 0 0]) 32 rfl Tryd.underlying85 info87 rfl (by decide) (by decide) (.slice Aq q.length cq) q (mkS t') [.int .i64 t'.1, .slice A3 t'.2.length c3] (fun k => True ∧ some k ≠ v2.ownBlock) (fun k => w2.heap.size ≤ k ∧ k < w3.heap.size) rfl rfl ?hp ?hokp ?hfresh (HI2.out.below_ HB3.out).nq (HI2.out.below_ HB3.out).below (HI2.out.below_ HB3.out).below.size (by omega) ?_; (case hp => exact (mkS_F HR3.out).2); (case hokp => exact fun k hk => ⟨⟨trivial, own_new (Kd.N_lt HI2.out.np) hk.1⟩, own_new (Kd.N_lt HI2.out.nq) hk.1⟩); (case hfresh => exact fun k hk => ⟨trivial, own_new (Kd.N_lt (HI2.out.below_ HB3.out).np) hk⟩); intro v4 w4 hN hB hg hat; have HN4 := Aside0.mk hN; have HB4 := Aside0.mk hB; have HG4 := Aside0.mk hg; have HA4 := Aside0.mk hat; clear hN hB hg hat))
          go_roundg (l.length - (i + 1))
          case measure => omega
          case rel => exact ⟨i + 1, v2, v4, p ++ [mkS t], q ++ [mkS t'], by omega, rfl, rfl, rfl, by go_num, ⟨by rw [HP2.out]; exact HP1.out⟩, ⟨by rw [HQ3.out]; exact HQ1.out⟩, ⟨⟨Kd.N_after (HI2.out.below_ HB3.out).np HG4.out HA4.out, HN4.out, HB4.out⟩⟩⟩
        · have hq2 := HQ2.out
          rw [Option.bind_some, if_neg hpos] at hq2
          injection hq2 with hq2
          subst hq2
          have d2 : decide ((0 : Int) < i) = false := decide_eq_false (by omega)
          go_wp2_with fail
          go_roundg (l.length - (i + 1))
          case measure => omega
          case rel => exact ⟨i + 1, v2, _, p ++ [mkS t], q, by omega, rfl, rfl, rfl, by go_num, ⟨by rw [HP2.out]; exact HP1.out⟩, HQ1, HI2⟩
      · have hie : i = l.length := by omega
        subst hie
        have hpp : p = p0 := by
          have h1 := HPT.out
          rw [HP0.out] at h1
          injection h1 with h1
          exact h1.symm
        have hqq : q = q0 := by
          have h1 := HQT.out
          rw [HQ0.out] at h1
          injection h1 with h1
          exact h1.symm
        subst hpp
        subst hqq
        have hlq := qTo_length HQT.out
        have HLP := Aside0.mk (pTo_length HPT.out)
        have d1 : decide ((l.length : Int) < l.length) = false := decide_eq_false (by omega)
        have hcq : q.length ≤ cq := (Kd.N_reads' HI.out.nq).2.1
        have hle := trimLen_le q q.length
        clear HP0 HQ0 HPT HQT
        go_upto_region 11 with (go_at_call 77; refine (trimL_calls Aq q.length cq q _ (by omega) hcq (fun i hi => by
          obtain ⟨ad, Ai, ci, eA, p0, -⟩ := at_T87 (Kd.N_reads' HI.out.nq).2.2 (i : Int) (by omega) (by omega)
          rw [Int.toNat_natCast] at p0
          exact ⟨ad, eA, cell_alloc_far' _ p0⟩)).mono ?_; rintro e w2 ⟨rfl, rfl⟩)
        have HH := Aside0.mk (show CO w (wr.alloc (.cells #[.slice Ap p.length cp] 85)) (.slice (some ⟨wr.heap.size, 0, none⟩) 1 1) [p] Ap cp p Aq cq (q.take (trimLen q q.length)) from by
          have hfar : ∀ {ok : Nat → Prop}, ∀ k, ok k ∧ k < wr.heap.size → True ∧ some k ≠ (Value.slice (some ⟨wr.heap.size, 0, none⟩) 1 1).ownBlock := fun k hk => ⟨trivial, fun e => by
            have e' : k = wr.heap.size := by simpa [Value.ownBlock] using e
            have := hk.2
            omega⟩
          have hlt : (q.take (trimLen q q.length)).length = trimLen q q.length := by rw [List.length_take]; omega
          have hnq : Kd.N k87 87 wr w.heap.size (fun k => True ∧ some k ≠ (Value.slice Ap p.length cp).ownBlock) (.slice Aq (q.take (trimLen q q.length)).length cq) (q.take (trimLen q q.length)) := by rw [hlt]; exact Kd.N_take HI.out.nq hle
          exact ⟨N_one HI.out.below.size (Kd.N_F HI.out.np) (Kd.N_reads' HI.out.np).2.1, Kd.F_alloc (Kd.F_mono (Kd.F_bound (Kd.N_F HI.out.np)) hfar) _, Kd.F_alloc (Kd.F_mono (Kd.F_bound (Kd.N_F hnq)) hfar) _, (Kd.N_reads' HI.out.np).2.1, by omega, below_alloc HI.out.below _⟩)
        have htl : (q.take (trimLen q q.length)).length = trimLen q q.length := by rw [List.length_take]; omega
        clear HI
        go_loopg [3, 4, 7] f (fun gk t3 t4 t7 W => ∃ (f' : Nat) (Ao : Option Addr) (co : Nat) (out : List (List S87)) (Ap : Option Addr) (cp : Nat) (p : List S87) (Aq : Option Addr) (cq : Nat) (q : List S87), gk = f' ∧ t3 = .slice Ap p.length cp ∧ t4 = .slice Aq q.length cq ∧ t7 = .slice Ao out.length co ∧ Aside0 (chainL k m f' p q out = some r) ∧ Aside0 (CO w W (.slice Ao out.length co) out Ap cp p Aq cq q))
        case atStart => exact ⟨f, _, _, [p], Ap, cp, p, Aq, cq, q.take (trimLen q q.length), rfl, rfl, by rw [htl], rfl, H, HH⟩
        case round =>
          clear HH H htl hle hcq hlq d1 hgi
          obtain ⟨f', Ao, co, out, Ap2, cp2, p2, Aq2, cq2, q2, hgk, rfl, rfl, rfl, H, HO⟩ := hrel
          by_cases hq2 : 0 < q2.length
          · obtain ⟨f2, rfl⟩ : ∃ f2, f' = f2 + 1 := by
              cases f' with
              | zero => have := H.out; simp [chainL] at this
              | succ f2 => exact ⟨f2, rfl⟩
            have h := H.out
            rw [chainL, if_pos hq2] at h
            obtain ⟨r2, hrest, h⟩ := Option.bind_eq_some_iff.1 h
            by_cases hbd : r2.length ≤ 1000 ∧ out.length ≤ 1000
            · rw [if_pos hbd] at h
              obtain ⟨hr2, hol⟩ := hbd
              have HRE := Aside0.mk hrest
              have HH := Aside0.mk h
              clear h hrest H
              have d3 : decide ((0 : Int) < q2.length) = true := decide_eq_true (by omega)
              go_wp2_with (first
                | ((with_reducible refine gate_builtin (b := .append) (xs := #[.tmp 39, .tmp 41]) rfl ?_); at_builtin; refine Kd.N_append (Kd.slice 87 k87) (w0 := w) w.heap.size rfl (.tmp 39) (.tmp 41) 67 85 (.slice none 0 0) 24 rfl underlying67_ info85 rfl (by decide) (by decide) (.slice Ao out.length co) out q2 [.slice Aq2 q2.length cq2] (fun _ => True) (fun k => True ∧ some k ≠ (Value.slice Ao out.length co).ownBlock) rfl rfl (slice_FK HO.out.fq HO.out.lq) (fun k hk => hk) (fun _ _ => trivial) HO.out.no HO.out.below HO.out.below.size (by omega) ?_; intro v4 w4 hN hB hg hat; have HN4 := Aside0.mk hN; have HB4 := Aside0.mk hB; have HFP := Aside0.mk (Kd.F_after HO.out.fp hg hat); have HFQ := Aside0.mk (Kd.F_after HO.out.fq hg hat); clear hN hB hg hat)
                | (go_at_call 78; refine (rest_calls (fun k => (True ∧ some k ≠ v4.ownBlock) ∧ k < w4.heap.size) k m Ap2 cp2 p2 Aq2 cq2 q2 r2 _ ⟨_, _, rfl, HO.out.lp, Kd.F_bound HFP.out⟩ (Kd.F_now HFQ.out) HO.out.lq HRE.out).mono ?_; rintro e w5 ⟨v5, rfl, hN5, hB5⟩; obtain ⟨A5, c5, e5⟩ := Kd.N_slice hN5; subst e5; have HCN := Aside0.mk (show CN w w5 w4.heap.size v4 (out ++ [q2]) Aq2 cq2 q2 (.slice A5 r2.length c5) r2 from ⟨Kd.N_below (Kd.N_bound HN4.out) hB5, Kd.F_below (Kd.F_bound HFQ.out) hB5, HO.out.lq, hN5, Kd.N_lt HN4.out, HB4.out.size, below_then HB4.out HB4.out.size hB5⟩); clear hN5 hB5))
              go_loopg [48] r2.length (fun gk t48 W => ∃ i : Nat, i ≤ r2.length ∧ gk = r2.length - i ∧ t48 = .int .i64 i ∧ Aside0 (CN w W w4.heap.size v4 (out ++ [q2]) Aq2 cq2 q2 (.slice A5 r2.length c5) (negTo r2 i)))
              case atStart => exact ⟨0, Nat.zero_le _, by omega, rfl, HCN⟩
              case round =>
                clear HCN
                obtain ⟨i, hi, hgi, rfl, HC3⟩ := hrel
                by_cases hir : i < r2.length
                · obtain ⟨g, cap, e0, hgb, hgl, cells, hcells⟩ := Kd.N_form HC3.out.nn (by rw [negTo_length]; omega)
                  injection e0 with e0 _ e1
                  clear e1
                  subst e0
                  obtain ⟨Ai, ci, p0, p1, hci, hFi, fr0, fr1⟩ := N_cells HC3.out.nn i hir
                  have d4 : decide ((i : Int) < r2.length) = true := decide_eq_true (by omega)
                  have hi0 : (0 : Int) ≤ i := by omega
                  have hi1 : (i : Int) < r2.length := by omega
                  clear hcells hFi
                  go_wp2_with fail
                  go_roundg (r2.length - (i + 1))
                  case measure => omega
                  case rel => exact ⟨i + 1, by omega, rfl, by go_num, ⟨HC3.out.sign i hir _ (by rfl) _ (by rw [← i64_w])⟩⟩
                · have hie : i = r2.length := by omega
                  subst hie
                  have d4 : decide ((r2.length : Int) < r2.length) = false := decide_eq_false (by omega)
                  go_wp2_with fail
                  obtain ⟨A4, c4, e4⟩ := Kd.N_slice HC3.out.no
                  have hml : (r2.map negS).length = r2.length := List.length_map ..
                  go_roundg f2
                  case measure => omega
                  case rel =>
                    refine ⟨f2, A4, c4, out ++ [q2], Aq2, cq2, q2, A5, c5, r2.map negS, rfl, rfl, by rw [hml], e4, HH, ⟨?_⟩⟩
                    rw [← e4]
                    have hnn := HC3.out.nn
                    rw [negTo_all] at hnn
                    have hnl := Kd.N_reads' hnn
                    refine ⟨Kd.N_mono HC3.out.no (fun _ _ => trivial), Kd.F_mono HC3.out.fq (fun k hk => hk.1), ?_, HC3.out.lq, by rw [hml]; exact hnl.2.1, HC3.out.below⟩
                    rw [hml]
                    exact Kd.F_mono (Kd.N_F hnn) (fun k hk => by
                      rcases hk with hk | hk
                      · exact hk.1
                      · exact ⟨trivial, own_new HC3.out.old hk⟩)
            · rw [if_neg hbd] at h
              cases h
          · have h := H.out
            cases f' with
            | zero => simp [chainL] at h
            | succ f2 =>
              rw [chainL, if_neg hq2] at h
              injection h with h
              subst h
              have d3 : decide ((0 : Int) < q2.length) = false := decide_eq_false (by omega)
              go_wp2_with fail
              go_ret
              exact ⟨_, rfl, HO.out.no, HO.out.below⟩
  · rw [if_neg hl] at h
    cases h
end Go.Proofs.YtglalkenkmijkaaDoor.Hand
/- The contract of 'at', in the printed form. -/
namespace Go.Proofs.YtglalkenkmijkaaDoor.PAll
open Go.RowKit Go.Proofs.YtglalkenkmijkaaDoorW.PrintWords Go.Proofs.YtglalkenkmijkaaDoorW.PrintLast Go.Proofs.YtglalkenkmijkaaDoorW.PrintMore
open Hand
/-- All values that so many rounds of 'at' can bring, whatever numbers of the list come: none if one of them fails. -/
def lvl (k : Nat) (X : Int × List Int) (l : List S87) : Nat → Option (List (Int × List Int))
  | 0 => some [(0, [])]
  | m + 1 => (lvl k X l m).bind fun L => (L.flatMap fun a => l.map fun b => (a, b)).mapM fun p => stepF k X p.1 p.2
def tones_list_at.f (k : Nat) (l0 : List S87) (a1 : Int) : Option Int :=
  (tones_whole.f k a1).bind fun X => if l0.length ≤ 1000 then (lvl k X l0 l0.length).bind fun _ => (accOf k X l0.reverse).map (·.1) else none
theorem mapM_mem {α β : Type} {f : α → Option β} : ∀ {l : List α} {r : List β}, l.mapM f = some r → ∀ a, a ∈ l → ∃ b, f a = some b ∧ b ∈ r
  | [], _, _, a, ha => by cases ha
  | x :: l, r, h, a, ha => by
    rw [List.mapM_cons] at h
    obtain ⟨b, hb, h⟩ := Option.bind_eq_some_iff.1 h
    obtain ⟨rs, hrs, h⟩ := Option.bind_eq_some_iff.1 h
    injection h with h
    subst h
    rcases List.mem_cons.1 ha with rfl | ha
    · exact ⟨b, hb, List.mem_cons_self⟩
    · obtain ⟨c, hc, hm⟩ := mapM_mem hrs a ha
      exact ⟨c, hc, List.mem_cons_of_mem _ hm⟩
theorem mapM_mono {α β : Type} {f g : α → Option β} (h : ∀ a, LeO (f a) (g a)) : ∀ l : List α, LeO (l.mapM f) (l.mapM g)
  | [] => LeO.refl _
  | x :: l => by
    rw [List.mapM_cons, List.mapM_cons]
    exact LeO.bind (h x) fun _ => LeO.bind (mapM_mono h l) fun _ => LeO.refl _
theorem stepF_mono (k : Nat) (X acc : Int × List Int) (b : S87) : LeO (stepF k X acc b) (stepF (k + 1) X acc b) :=
  LeO.bind (tones_big_times.mono _ _ _ _ _) fun _ => tones_big_plus.mono _ _ _ _ _
theorem foldF_mono (k : Nat) (X : Int × List Int) : ∀ (l : List S87) (a : Int × List Int), LeO (l.foldlM (stepF k X) a) (l.foldlM (stepF (k + 1) X) a)
  | [], a => LeO.refl _
  | b :: l, a => by
    rw [List.foldlM_cons, List.foldlM_cons]
    exact LeO.bind (stepF_mono k X a b) fun a' => foldF_mono k X l a'
theorem lvl_mono (k : Nat) (X : Int × List Int) (l : List S87) : ∀ m, LeO (lvl k X l m) (lvl (k + 1) X l m)
  | 0 => LeO.refl _
  | m + 1 => LeO.bind (lvl_mono k X l m) fun L => mapM_mono (fun (p : (Int × List Int) × S87) => stepF_mono k X p.1 p.2) _
theorem lvl_le (k : Nat) (X : Int × List Int) (l : List S87) : ∀ d m, (lvl k X l (m + d)).isSome = true → (lvl k X l m).isSome = true
  | 0, m, h => h
  | d + 1, m, h => lvl_le k X l d m (by
      rw [Option.isSome_iff_exists] at h ⊢
      obtain ⟨L, h⟩ := h
      obtain ⟨L', h1, _⟩ := Option.bind_eq_some_iff.1 (show (lvl k X l (m + d)).bind _ = some L from h)
      exact ⟨L', h1⟩)
theorem tones_list_at.mono : ∀ a0 a1 k, LeO (tones_list_at.f k a0 a1) (tones_list_at.f (k + 1) a0 a1) := by
  intro a0 a1 k
  unfold tones_list_at.f
  exact LeO.bind (tones_whole.mono _ _) fun X => LeO.ite (LeO.bind (lvl_mono k X a0 _) fun _ => LeO.map _ (foldF_mono k X _ _)) (LeO.refl _)
theorem tones_list_at.calls (k : Nat) (A0 : Option Addr) (c0 : Nat) (l0 : List S87) (a1 r : Int) (w : World) (hr0 : Kd.C k87 w A0 l0.length l0) (hc0 : l0.length ≤ c0) (h : tones_list_at.f k l0 a1 = some r) :
    Calls Tryd.prog 97 #[.slice A0 l0.length c0, .int .i64 a1] w fun e w' => e = .returned (.int .i64 r) ∧ Below w.heap.size w w' := by
  unfold tones_list_at.f at h
  obtain ⟨X, hX, h⟩ := Option.bind_eq_some_iff.1 h
  by_cases hl : l0.length ≤ 1000
  · rw [if_pos hl] at h
    obtain ⟨LL, hL, h⟩ := Option.bind_eq_some_iff.1 h
    obtain ⟨acc, ha, hr⟩ := Option.map_eq_some_iff.1 h
    refine at_calls k A0 c0 l0 a1 r w hr0 hc0 hl X hX (fun m acc => ∃ L, lvl k X l0 m = some L ∧ acc ∈ L) ⟨_, rfl, List.mem_singleton.2 rfl⟩ ?_ acc ha hr
    rintro m hm acc ⟨L, h1, h2⟩ b hb
    have h3 := lvl_le k X l0 (l0.length - (m + 1)) (m + 1) (by rw [Nat.add_sub_cancel' hm, hL]; rfl)
    obtain ⟨L', h3⟩ := Option.isSome_iff_exists.1 h3
    have h4 : (L.flatMap fun a => l0.map fun b => (a, b)).mapM (fun p => stepF k X p.1 p.2) = some L' := by
      have := h3
      rw [lvl, h1] at this
      exact this
    obtain ⟨c, hc, hm'⟩ := mapM_mem h4 (acc, b) (List.mem_flatMap.2 ⟨acc, h2, List.mem_map.2 ⟨b, hb, rfl⟩⟩)
    exact ⟨c, hc, L', h3, hm'⟩
  · rw [if_neg hl] at h
    cases h
end Go.Proofs.YtglalkenkmijkaaDoor.PAll
namespace Go.Proofs.YtglalkenkmijkaaDoor.PAll
open Go.RowKit Go.Proofs.YtglalkenkmijkaaDoorW.PrintWords Go.Proofs.YtglalkenkmijkaaDoorW.PrintLast Go.Proofs.YtglalkenkmijkaaDoorW.PrintMore
attribute [local go_sem] max2_int min2_int max_two min_two max_three min_three max_four min_four   -- for this text's walks alone
set_option linter.unusedVariables false
set_option linter.unusedSimpArgs false

/-! ### tones_list_near: function 79 -/
mutual
def tones_list_near.l0 : Nat → List (S87) → Int → Option (Int)
  | 0, _, _ => none
  | k + 1, x0, x1 => if (x0.length : Int) > 0 then ((tones_list_at.f k x0 x1).bind fun t192 => (if t192 = 0 then (tones_list_near.l1 k x1 ([] : List (S87)) x0 (x0.length : Int) 0) else (some t192))) else (some 0)
def tones_list_near.l1 : Nat → Int → List (S87) → List (S87) → Int → Int → Option (Int)
  | 0, _, _, _, _, _ => none
  | k + 1, x1, x6, x18, x19, x20 => if x20 < x19 then (if 0 ≤ x20 then (if x20 < (x18.length : Int) then (if x20 > 0 then ((tones_whole.f k x20).bind fun bt195 => ((tones_big_times.f k ((rd_T87 x18 x20).f0) ((rd_T87 x18 x20).f1) bt195.1 bt195.2).bind fun bt199 => (if x6.length < 4398046511104 then (tones_list_near.l1 k x1 (x6 ++ [(⟨bt199.1, bt199.2⟩ : S87)]) x18 x19 (wrap64 (x20 + 1))) else (none)))) else (tones_list_near.l1 k x1 x6 x18 x19 (wrap64 (x20 + 1)))) else (none)) else (none)) else (tones_list_near.l0 k x6 x1)
end
def tones_list_near.f (k : Nat) (l0 : List (S87)) (a1 : Int) : Option (Int) := tones_list_near.l0 k l0 a1
theorem tones_list_near.mono_l : ∀ k, (∀ y0 y1, LeO (tones_list_near.l0 k y0 y1) (tones_list_near.l0 (k + 1) y0 y1)) ∧ (∀ y0 y1 y2 y3 y4, LeO (tones_list_near.l1 k y0 y1 y2 y3 y4) (tones_list_near.l1 (k + 1) y0 y1 y2 y3 y4))
  | 0 => ⟨fun _ _ r h => by simp [tones_list_near.l0] at h, fun _ _ _ _ _ r h => by simp [tones_list_near.l1] at h⟩
  | k + 1 => by
    obtain ⟨ih0, ih1⟩ := tones_list_near.mono_l k
    refine ⟨?_, ?_⟩
    · intro y0 y1
      unfold tones_list_near.l0
      repeat' first
      | (with_reducible exact ih0 _ _)
      | (with_reducible exact ih1 _ _ _ _ _)
      | (with_reducible exact tones_big_times.mono _ _ _ _ _)
      | (with_reducible exact tones_list_at.mono _ _ _)
      | (with_reducible exact tones_whole.mono _ _)
      | (with_reducible exact LeO.refl _)
      | (with_reducible exact LeO.none _)
      | (with_reducible refine LeO.ite ?_ ?_)
      | (with_reducible refine LeO.bind ?_ (fun _ => ?_))
      | exact ih0 _ _
      | exact ih1 _ _ _ _ _
      | exact tones_big_times.mono _ _ _ _ _
      | exact tones_list_at.mono _ _ _
      | exact tones_whole.mono _ _
      | exact LeO.none _
      | refine LeO.ite ?_ ?_
      | refine LeO.bind ?_ (fun _ => ?_)
    · intro y0 y1 y2 y3 y4
      unfold tones_list_near.l1
      repeat' first
      | (with_reducible exact ih0 _ _)
      | (with_reducible exact ih1 _ _ _ _ _)
      | (with_reducible exact tones_big_times.mono _ _ _ _ _)
      | (with_reducible exact tones_list_at.mono _ _ _)
      | (with_reducible exact tones_whole.mono _ _)
      | (with_reducible exact LeO.refl _)
      | (with_reducible exact LeO.none _)
      | (with_reducible refine LeO.ite ?_ ?_)
      | (with_reducible refine LeO.bind ?_ (fun _ => ?_))
      | exact ih0 _ _
      | exact ih1 _ _ _ _ _
      | exact tones_big_times.mono _ _ _ _ _
      | exact tones_list_at.mono _ _ _
      | exact tones_whole.mono _ _
      | exact LeO.none _
      | refine LeO.ite ?_ ?_
      | refine LeO.bind ?_ (fun _ => ?_)
theorem tones_list_near.mono : ∀ a0 a1 k, LeO (tones_list_near.f k a0 a1) (tones_list_near.f (k + 1) a0 a1) := by
  intro a0 a1 k
  obtain ⟨ih0, ih1⟩ := tones_list_near.mono_l k
  unfold tones_list_near.f
  repeat' first
      | (with_reducible exact ih0 _ _)
      | (with_reducible exact ih1 _ _ _ _ _)
      | (with_reducible exact tones_big_times.mono _ _ _ _ _)
      | (with_reducible exact tones_list_at.mono _ _ _)
      | (with_reducible exact tones_whole.mono _ _)
      | (with_reducible exact LeO.refl _)
      | (with_reducible exact LeO.none _)
      | (with_reducible refine LeO.ite ?_ ?_)
      | (with_reducible refine LeO.bind ?_ (fun _ => ?_))
      | exact ih0 _ _
      | exact ih1 _ _ _ _ _
      | exact tones_big_times.mono _ _ _ _ _
      | exact tones_list_at.mono _ _ _
      | exact tones_whole.mono _ _
      | exact LeO.none _
      | refine LeO.ite ?_ ?_
      | refine LeO.bind ?_ (fun _ => ?_)
def tones_list_near.T10 : Bool × List (List Nat × List Nat) := (true, [([], []), ([], []), ([], []), ([2], [2]), ([1, 3, 3], [1, 3]), ([4], [4]), ([0, 5, 4], [0, 5]), ([6, 6, 0, 1, 2, 3, 4, 5, 6], [0, 6])])
def tones_list_near.B10 : List Nat := [0, 0, 0, 4, 14, 30, 63, 127]
theorem tones_list_near.tab10 : rtab .any (opsOf Tryd.f79 10) = tones_list_near.T10 := by kernel_rfl
theorem tones_list_near.bits10 : waitsOk tones_list_near.T10.2 tones_list_near.B10 = true := by kernel_rfl
set_option maxHeartbeats 8000000 in
set_option maxRecDepth 100000 in
theorem tones_list_near.calls (k : Nat) (P0_ : Nat → Prop) (A0 : Option Addr) (c0 : Nat) (l0 : List (S87)) (a1 : Int) (r : Int) (w : World) (hs0 : Kd.V k87 87 w w.heap.size (fun k_ => P0_ k_) (.slice A0 l0.length c0) l0) (h : tones_list_near.f k l0 a1 = some r) :
    Calls Tryd.prog 79 #[.slice A0 l0.length c0, .int .i64 a1] w fun e w' => e = .returned (.int .i64 r) ∧ Below w.heap.size w w' := by
  have hu87 := Tryd.underlying87
  have HO0 := Aside0.mk (show Kd.V k87 87 w w.heap.size (fun k_ => (P0_ k_ ∨ w.heap.size ≤ k_)) (.slice A0 l0.length c0) l0 from Kd.V_mono hs0 (fun k_ hk => .inl hk))
  have HB := Aside0.mk (Below.refl w.heap.size w)
  have H : (tones_list_near.l0 k l0 a1) = some r := h
  clear h
  have H' := Aside0.mk H
  clear H
  go_enter Tryd.func79, Tryd.ntmps79
  go_wp2
  go_loopg [0] k (fun kq v0 w' => ∃ (x0_1 : List (S87)), Aside0 (tones_list_near.l0 kq x0_1 a1 = some r) ∧ Aside0 (kq ≤ k) ∧ Aside0 (Kd.V k87 87 w' w.heap.size (fun k_ => (P0_ k_ ∨ w.heap.size ≤ k_)) v0 x0_1) ∧ Aside0 (Below w.heap.size w w'))
  case atStart => exact ⟨(l0), H', ⟨Nat.le_refl _⟩, ⟨by (with_reducible repeat (first | apply Kd.V_alloc | apply Kd.V_drewN | apply Kd.V_drew)); exact HO0.out⟩, ⟨by repeat (first | (with_reducible first | exact HB.out | apply below_alloc | apply pw_below_drewN | apply below_drew1) | exact HB.out)⟩⟩
  case round =>
    clear H'
    try clear p2
    obtain ⟨x0_1, HA, HK1, HO_0, HB⟩ := hrel
    cases gk with
    | zero => exact absurd HA.out (by simp [tones_list_near.l0])
    | succ k1 =>
      have H := HA.out
      clear HA
      simp only [tones_list_near.l0] at H
      by_cases c3 : (x0_1.length : Int) > 0
      · rw [if_pos c3] at H
        have c3b0 : decide (0 < (x0_1.length : Int)) = true := decide_eq_true c3
        have c3b1 : decide (0 < x0_1.length) = true := decide_eq_true (by omega)
        clear c3
        replace H := Option.bind_eq_some_iff.mp H
        obtain ⟨t192, A40, H⟩ := H
        replace H : (if t192 = 0 then (tones_list_near.l1 k1 a1 ([] : List (S87)) x0_1 (x0_1.length : Int) 0) else (some t192)) = some r := H
        have A4 := Aside0.mk A40
        clear A40
        by_cases c5 : t192 = 0
        · rw [if_pos c5] at H
          have c5b0 : (t192 == 0) = true := beq_iff_eq.mpr c5
          have c5b1 : (t192 != 0) = false := bne_eq_false_iff_eq.mpr c5
          clear c5
          have H' := Aside0.mk H
          clear H
          obtain ⟨Ao6, co6, eo6⟩ := Kd.V_slice HO_0.out
          subst eo6
          go_wp2_with (first | ((with_reducible refine gate_callee (f := 97) rfl ?_); refine goesL_ (some 14) rfl rfl Tryd.func97 (by kernel_rfl) rfl #[.slice Ao6 x0_1.length co6, .int .i64 a1] rfl (by (try simp only [List.map_toArray, List.map_cons, List.map_nil]); first | done | rfl | (simp only [List.length_drop, List.length_take]; rfl)) ?_; (with_reducible refine (tones_list_at.calls k1 _ _ x0_1 a1 t192 _ ?side1 ?side2 A4.out).mono ?_); (case side1 => repeat (first | exact (Kd.V_reads' HO_0.out).2.2 | (with_reducible refine Kd.C_alloc ?_ _) | (with_reducible refine Kd.C_drewN ?_ _) | (with_reducible refine Kd.C_drew ?_))); (case side2 => exact (Kd.V_reads' HO_0.out).2.1); rintro e w7 ⟨rfl, hb⟩; refine ⟨_, rfl, ?_⟩; have n0_ := Aside0.mk (Kd.V_below (by (with_reducible repeat (first | apply Kd.V_alloc | apply Kd.V_drewN | apply Kd.V_drew)); exact HO_0.out) hb); have n1_ := Aside0.mk (below_step (by repeat (first | (with_reducible first | exact HB.out | apply below_alloc | apply pw_below_drewN | apply below_drew1) | exact HB.out)) hb); clear HO_0; clear HB; have HO_0 := n0_; have HB := n1_; clear n0_ n1_; (try clear hb); (try clear hb2); (try clear hk); (try clear hi)))
          go_loopg [6, 20] k1 (fun kq v6 v20 w' => ∃ (x6_2 : List (S87)) (x20_2 : Int), v20 = .int .i64 x20_2 ∧ Aside0 (tones_list_near.l1 kq a1 x6_2 x0_1 (x0_1.length : Int) x20_2 = some r) ∧ Aside0 (kq ≤ k1) ∧ Aside0 (Kd.N k87 87 w' w.heap.size (fun k_ => (P0_ k_ ∨ w.heap.size ≤ k_)) v6 x6_2) ∧ Aside0 (Kd.V k87 87 w' w.heap.size (fun k_ => (P0_ k_ ∨ w.heap.size ≤ k_) ∧ some k_ ≠ (v6 : Value).ownBlock) (.slice Ao6 x0_1.length co6) x0_1) ∧ Aside0 (Below w.heap.size w w'))
          case atStart => exact ⟨(([] : List (S87))), (0), (by first | rfl | (simp; done) | (simp [*]; done)), H', ⟨Nat.le_refl _⟩, ⟨by first | exact Kd.S_nil _ _ _ _ _ | exact Kd.N_nil _ _ _ _ _ | exact Kd.V_nil _ _ _ _ _ | exact Kd.Q_nil _ _ _ _ _ | exact Kd.R_nil _ _ _ _ _⟩, ⟨by (with_reducible repeat (first | apply Kd.V_alloc | apply Kd.V_drewN | apply Kd.V_drew)); exact Kd.V_mono HO_0.out (fun _ hk => ⟨hk, (by simp [Value.ownBlock])⟩)⟩, ⟨by repeat (first | (with_reducible first | exact HB.out | apply below_alloc | apply pw_below_drewN | apply below_drew1) | exact HB.out)⟩⟩
          case round =>
            clear H'
            try clear p2
            try clear c3
            try clear c3b0
            try clear c3b1
            try clear c5
            try clear c5b0
            try clear c5b1
            try clear c7
            try clear p2
            obtain ⟨x6_2, x20_2, rfl, HA, HK2, HO_6, HO_18, HB⟩ := hrel
            cases gk with
            | zero => exact absurd HA.out (by simp [tones_list_near.l1])
            | succ k2 =>
              have H := HA.out
              clear HA
              simp only [tones_list_near.l1] at H
              by_cases c8 : x20_2 < (x0_1.length : Int)
              · rw [if_pos c8] at H
                have c8b0 : decide (x20_2 < (x0_1.length : Int)) = true := decide_eq_true c8
                clear c8
                by_cases c9 : 0 ≤ x20_2
                · rw [if_pos c9] at H
                  have c9b0 : decide (0 ≤ x20_2) = true := decide_eq_true c9
                  clear c9
                  by_cases c10 : x20_2 < (x0_1.length : Int)
                  · rw [if_pos c10] at H
                    have c10b0 : decide (x20_2 < (x0_1.length : Int)) = true := decide_eq_true c10
                    clear c10
                    by_cases c11 : x20_2 > 0
                    · rw [if_pos c11] at H
                      have c11b0 : decide (0 < x20_2) = true := decide_eq_true c11
                      clear c11
                      replace H := Option.bind_eq_some_iff.mp H
                      obtain ⟨⟨t195, t196⟩, A120, H⟩ := H
                      replace H : ((tones_big_times.f k2 ((rd_T87 x0_1 x20_2).f0) ((rd_T87 x0_1 x20_2).f1) t195 t196).bind fun bt199 => (if x6_2.length < 4398046511104 then (tones_list_near.l1 k2 a1 (x6_2 ++ [(⟨bt199.1, bt199.2⟩ : S87)]) x0_1 (x0_1.length : Int) (wrap64 (x20_2 + 1))) else (none))) = some r := H
                      have A12 := Aside0.mk A120
                      clear A120
                      replace H := Option.bind_eq_some_iff.mp H
                      obtain ⟨⟨t199, t200⟩, A130, H⟩ := H
                      replace H : (if x6_2.length < 4398046511104 then (tones_list_near.l1 k2 a1 (x6_2 ++ [(⟨t199, t200⟩ : S87)]) x0_1 (x0_1.length : Int) (wrap64 (x20_2 + 1))) else (none)) = some r := H
                      have A13 := Aside0.mk A130
                      clear A130
                      by_cases c14 : x6_2.length < 4398046511104
                      · rw [if_pos c14] at H
                        have LMc14 := Aside0.mk c14
                        clear c14
                        obtain ⟨y203, hy203⟩ : ∃ y_ : List (S87), y_ = (x6_2 ++ [(⟨t199, t200⟩ : S87)]) := ⟨_, rfl⟩
                        replace H : (tones_list_near.l1 k2 a1 y203 x0_1 (x0_1.length : Int) (wrap64 (x20_2 + 1))) = some r := by first | (rw [hy203]; with_reducible exact H) | (have H2_ := (Option.bind_some _ _).symm.trans H; rw [hy203]; with_reducible exact H2_) | (have H2_ := (Option.bind_some _ _).symm.trans H; with_reducible exact H2_) | with_reducible exact H | (rw [hy203]; exact H) | exact H
                        have Ny203 := Aside0.mk hy203
                        clear hy203
                        have H' := Aside0.mk H
                        clear H
                        have p193 : 0 ≤ (x20_2 : Int) := of_decide_eq_true (by first | (with_reducible assumption) | assumption)
                        have q193 : x20_2 < (x0_1.length : Int) := of_decide_eq_true (by first | (with_reducible assumption) | assumption)
                        obtain ⟨ad193, A193_1, c193_1, e193, hx193_0, hx193_1, hl193_1, hi193_1⟩ := at_T87 (Kd.V_reads' HO_18.out).2.2 x20_2 p193 q193
                        cases e193
                        obtain ⟨ce193, hce193, hMe193, hcc193⟩ := Kd.V_get HO_18.out z87 x20_2 p193 (by first | exact q193 | exact of_decide_eq_true (by first | (with_reducible assumption) | assumption) | (have e_ := (Kd.V_reads' HO_18.out).1; omega))
                        obtain ⟨ua193_1, uc193_1, rfl, ul193_1, ge193_1⟩ := k87_openF hMe193
                        have hv193_1 := hcc193 1 _ rfl
                        rw [add_field _ _ 1 (by omega)] at hv193_1
                        replace hv193_1 := Option.some.inj (hv193_1.symm.trans hx193_1)
                        injection hv193_1 with hva_ hvn_ hvc_
                        rw [hva_] at ge193_1
                        rw [hvc_] at ul193_1
                        have HL193_1 := Aside0.mk (show Kd.V (Kd.int .i64) 3 _ w.heap.size _ _ ((rd_T87 x0_1 x20_2).f1) from Kd.V_mk ul193_1 ge193_1)
                        clear hva_ hvn_ hvc_ ge193_1 ul193_1
                        clear hcc193 hce193
                        have HR193_1 := Aside0.mk hi193_1
                        have HC193_1 := Aside0.mk hl193_1
                        clear hi193_1 hl193_1
                        replace p193 := eq_true p193
                        replace q193 := eq_true q193
                        try go_wp2_with (first | ((with_reducible refine gate_dst (N := 8) rfl ?_); refine box_event ?hg (N := 8) ?hd (cs := #[.int .i64 0, .slice none 0 0]) (t := 87) ?hr ?_; (case hd => rfl); (case hg => rfl); (case hr => first | (go_simp; done) | (go_simp; rfl)); intro gb194 hg w15 hbox hb; have n0_ := Aside0.mk (Kd.N_below (Kd.N_elderB (by (with_reducible repeat (first | apply Kd.N_alloc | apply Kd.N_drewN | apply Kd.N_drew)); exact HO_6.out) gb194 (Nat.le_of_eq hg.symm)) hb); have n1_ := Aside0.mk (Kd.V_below (Kd.V_elderB (by (with_reducible repeat (first | apply Kd.V_alloc | apply Kd.V_drewN | apply Kd.V_drew)); exact HO_18.out) gb194 (Nat.le_of_eq hg.symm)) hb); have n2_ := Aside0.mk (Kd.V_below (Kd.V_elderB (by (with_reducible repeat (first | apply Kd.V_alloc | apply Kd.V_drewN | apply Kd.V_drew)); exact HL193_1.out) gb194 (Nat.le_of_eq hg.symm)) hb); have n3_ := Aside0.mk (Kd.C_below (by repeat (first | (with_reducible exact HR193_1.out) | (with_reducible refine Kd.C_alloc ?_ _) | (with_reducible refine Kd.C_drewN ?_ _) | (with_reducible refine Kd.C_drew ?_) | exact HR193_1.out)) hb); have n4_ := Aside0.mk (below_step (by repeat (first | (with_reducible first | exact HB.out | apply below_alloc | apply pw_below_drewN | apply below_drew1) | exact HB.out)) hb); have n5_ := Aside0.mk (hbox); have n6_ := Aside0.mk ((by rw [hg]; exact (below_size (by repeat (first | (with_reducible first | exact HB.out | apply below_alloc | apply pw_below_drewN | apply below_drew1) | exact HB.out))) : w.heap.size ≤ gb194)); have n7_ := Aside0.mk ((by rw [hg]; exact (below_size (by repeat (first | (with_reducible first | exact HB.out | apply below_alloc | apply pw_below_drewN | apply below_drew1) | exact HB.out))) : w.heap.size ≤ gb194)); clear HO_6; clear HO_18; clear HL193_1; clear HR193_1; clear HB; have HO_6 := n0_; have HO_18 := n1_; have HL193_1 := n2_; have HR193_1 := n3_; have HB := n4_; have BK194 := n5_; have GW194 := n6_; have GE194 := n7_; clear n0_ n1_ n2_ n3_ n4_ n5_ n6_ n7_; clear hb hbox hg; have hcz16_0 : w15.cell? ⟨gb194, 0, none⟩ = some (.int .i64 0) := (blk_cell BK194.out 0).trans rfl; have hcz16_1 : w15.cell? ⟨gb194, 1, none⟩ = some (.slice none 0 0) := (blk_cell BK194.out 1).trans rfl; have hfz16_0 := blk_frozen BK194.out 0; have hfz16_1 := blk_frozen BK194.out 1))
                        have n0_ : Aside0 (Kd.N k87 87 ((w15.setCell ⟨gb194, 0, none⟩ (.int .i64 ((rd_T87 x0_1 x20_2).f0))).setCell ⟨gb194, 1, none⟩ (.slice A193_1 ((rd_T87 x0_1 x20_2).f1).length c193_1)) w.heap.size (fun k_ => (P0_ k_ ∨ w.heap.size ≤ k_) ∧ k_ ≠ gb194) u6 x6_2) := ⟨by (with_reducible repeat (first | apply Kd.N_alloc | apply Kd.N_drewN | apply Kd.N_drew)); exact Kd.N_mono (Kd.N_far (p := ⟨gb194, 1, none⟩) (Kd.N_far (p := ⟨gb194, 0, none⟩) (Kd.N_mono HO_6.out (fun k_ hk => (⟨hk, hk.2⟩ : _ ∧ k_ ≠ gb194))) (fun _ hk => hk.2) (.int .i64 ((rd_T87 x0_1 x20_2).f0))) (fun _ hk => hk.2) (.slice A193_1 ((rd_T87 x0_1 x20_2).f1).length c193_1)) (fun _ hk => ⟨hk.1.1, hk.1.2⟩)⟩
                        have n1_ : Aside0 (Kd.V k87 87 ((w15.setCell ⟨gb194, 0, none⟩ (.int .i64 ((rd_T87 x0_1 x20_2).f0))).setCell ⟨gb194, 1, none⟩ (.slice A193_1 ((rd_T87 x0_1 x20_2).f1).length c193_1)) w.heap.size (fun k_ => (P0_ k_ ∨ w.heap.size ≤ k_) ∧ some k_ ≠ (u6 : Value).ownBlock ∧ k_ ≠ gb194) (.slice (some ad193) x0_1.length co6) x0_1) := ⟨by (with_reducible repeat (first | apply Kd.V_alloc | apply Kd.V_drewN | apply Kd.V_drew)); exact Kd.V_mono (Kd.V_far (p := ⟨gb194, 1, none⟩) (Kd.V_far (p := ⟨gb194, 0, none⟩) (Kd.V_mono HO_18.out (fun k_ hk => (⟨hk, hk.2⟩ : _ ∧ k_ ≠ gb194))) (fun _ hk => hk.2) (.int .i64 ((rd_T87 x0_1 x20_2).f0))) (fun _ hk => hk.2) (.slice A193_1 ((rd_T87 x0_1 x20_2).f1).length c193_1)) (fun _ hk => ⟨hk.1.1.1, ⟨hk.1.1.2, hk.1.2⟩⟩)⟩
                        have n2_ : Aside0 (Kd.V (Kd.int .i64) 3 ((w15.setCell ⟨gb194, 0, none⟩ (.int .i64 ((rd_T87 x0_1 x20_2).f0))).setCell ⟨gb194, 1, none⟩ (.slice A193_1 ((rd_T87 x0_1 x20_2).f1).length c193_1)) w.heap.size (fun k_ => (P0_ k_ ∨ w.heap.size ≤ k_) ∧ some k_ ≠ (u6 : Value).ownBlock ∧ k_ ≠ gb194) (.slice A193_1 ((rd_T87 x0_1 x20_2).f1).length c193_1) ((rd_T87 x0_1 x20_2).f1)) := ⟨by (with_reducible repeat (first | apply Kd.V_alloc | apply Kd.V_drewN | apply Kd.V_drew)); exact Kd.V_mono (Kd.V_far (p := ⟨gb194, 1, none⟩) (Kd.V_far (p := ⟨gb194, 0, none⟩) (Kd.V_mono HL193_1.out (fun k_ hk => (⟨hk, hk.2⟩ : _ ∧ k_ ≠ gb194))) (fun _ hk => hk.2) (.int .i64 ((rd_T87 x0_1 x20_2).f0))) (fun _ hk => hk.2) (.slice A193_1 ((rd_T87 x0_1 x20_2).f1).length c193_1)) (fun _ hk => ⟨hk.1.1.1, ⟨hk.1.1.2, hk.1.2⟩⟩)⟩
                        have n3_ : Aside0 (((w15.setCell ⟨gb194, 0, none⟩ (.int .i64 ((rd_T87 x0_1 x20_2).f0))).setCell ⟨gb194, 1, none⟩ (.slice A193_1 ((rd_T87 x0_1 x20_2).f1).length c193_1)).heap[gb194]? = some (.cells #[.int .i64 ((rd_T87 x0_1 x20_2).f0), .slice A193_1 ((rd_T87 x0_1 x20_2).f1).length c193_1] 87 (0, 0))) := ⟨by (with_reducible repeat (first | refine blk_drewN ?_ _ | refine blk_drew ?_ | refine blk_alloc ?_ _)); refine blk_put (cs := #[.int .i64 ((rd_T87 x0_1 x20_2).f0), .slice none 0 0]) ?_ 1 _ rfl; (with_reducible repeat (first | refine blk_drewN ?_ _ | refine blk_drew ?_ | refine blk_alloc ?_ _)); refine blk_put (cs := #[.int .i64 0, .slice none 0 0]) ?_ 0 _ rfl; (with_reducible repeat (first | refine blk_drewN ?_ _ | refine blk_drew ?_ | refine blk_alloc ?_ _)); exact BK194.out⟩
                        have n4_ : Aside0 (Below w.heap.size w ((w15.setCell ⟨gb194, 0, none⟩ (.int .i64 ((rd_T87 x0_1 x20_2).f0))).setCell ⟨gb194, 1, none⟩ (.slice A193_1 ((rd_T87 x0_1 x20_2).f1).length c193_1))) := ⟨by repeat (first | (with_reducible first | exact HB.out | apply below_alloc | apply pw_below_drewN | apply below_drew1 | refine below_set ?_ GE194.out) | exact HB.out)⟩
                        (try clear HO_6)
                        (try clear HO_18)
                        (try clear HL193_1)
                        (try clear BK194)
                        (try clear HB)
                        generalize ((w15.setCell ⟨gb194, 0, none⟩ (.int .i64 ((rd_T87 x0_1 x20_2).f0))).setCell ⟨gb194, 1, none⟩ (.slice A193_1 ((rd_T87 x0_1 x20_2).f1).length c193_1)) = w17 at n0_ n1_ n2_ n3_ n4_ ⊢
                        have HO_6 := n0_
                        have HO_18 := n1_
                        have HL193_1 := n2_
                        have BK194 := n3_
                        have HB := n4_
                        clear n0_ n1_ n2_ n3_ n4_
                        have n0_ := Aside0.mk (Kd.N_drew HO_6.out)
                        have n1_ := Aside0.mk (Kd.V_drew HO_18.out)
                        have n2_ := Aside0.mk (Kd.V_drew HL193_1.out)
                        have n3_ := Aside0.mk (blk_drew BK194.out)
                        have n4_ := Aside0.mk (below_drew1 HB.out)
                        clear HO_6
                        clear HO_18
                        clear HL193_1
                        clear BK194
                        clear HB
                        have HO_6 := n0_
                        have HO_18 := n1_
                        have HL193_1 := n2_
                        have BK194 := n3_
                        have HB := n4_
                        clear n0_ n1_ n2_ n3_ n4_
                        refine start_ (n := 8) (S := fun w' => w'.cell? ⟨gb194, 0, none⟩ = some (.int .i64 ((rd_T87 x0_1 x20_2).f0)) ∧ w'.cell? ⟨gb194, 1, none⟩ = some (.slice A193_1 ((rd_T87 x0_1 x20_2).f1).length c193_1)) (ds := []) #[false, false, false, false, false, false, false, false] (by kernel_rfl) rfl rfl ⟨(blk_cell BK194.out 0).trans rfl, (blk_cell BK194.out 1).trans rfl⟩ (fun hHeld => ?_); refine with_tabW tones_list_near.tab10 tones_list_near.bits10 (fun HT_ HW_ => ?_)
                        generalize w17.drew = w18 at HO_6 HO_18 HL193_1 BK194 HB hHeld ⊢
                        refine pure_ (i := 0) (N := some 27) (v := ?_) (a' := ?_) #[true, false, false, false, false, false, false, false] rfl rfl (any_of HT_.out (by kernel_rfl)) (fun _ _ _ h => h) (Or.inl ⟨by rfl, ?_⟩) ?_ ?_
                        rotate_left
                        · intro w'
                          go_simp
                          with_reducible rfl
                        rotate_left
                        · simp only [Act.put, List.setIfInBounds_toArray, List.set_cons_zero, List.set_cons_succ, i64_w, i32_w]
                          rfl
                        refine pure_ (i := 2) (N := some 29) (v := ?_) (a' := ?_) #[true, false, true, false, false, false, false, false] rfl rfl (any_of HT_.out (by kernel_rfl)) (fun _ _ _ h => h) (Or.inl ⟨by rfl, ?_⟩) ?_ ?_
                        rotate_left
                        · intro w'
                          go_simp
                          with_reducible rfl
                        rotate_left
                        · simp only [Act.put, List.setIfInBounds_toArray, List.set_cons_zero, List.set_cons_succ, i64_w, i32_w]
                          rfl
                        refine take_ (i := 1) (N := some 28) (v := ?_) (a' := ?_) #[true, true, true, false, false, false, false, false] rfl rfl (take_ofW HT_.out HW_.out (by kernel_rfl)) (fun _ _ _ h => h) (Or.inl ⟨by rfl, ?_⟩) hHeld ?_ ?_
                        rotate_left
                        · rintro w' ⟨s0, s1⟩
                          go_simp
                          with_reducible rfl
                        rotate_left
                        · simp only [Act.put, List.setIfInBounds_toArray, List.set_cons_zero, List.set_cons_succ, i64_w, i32_w]
                          rfl
                        refine one_ (i := 3) (N := some 30) #[true, true, true, true, false, false, false, false] rfl rfl (one_of HT_.out (by kernel_rfl)) (by decide) (fun K hK => ?_)
                        refine goes_ Tryd.func76 (by kernel_rfl) rfl #[.int .i64 x20_2] (by rfl) rfl rfl (by (try simp only [List.map_toArray, List.map_cons, List.map_nil]); first | done | rfl | (simp only [List.length_drop, List.length_take]; rfl)) ?_
                        with_reducible refine (tones_whole.calls k2 x20_2 t195 t196 _ A12.out).mono ?_
                        rintro e w19 ⟨v197, rfl, ho0, hb⟩
                        refine ⟨_, rfl, ?_⟩
                        have n0_ := Aside0.mk (Kd.N_elder' (by (with_reducible repeat (first | apply Kd.N_alloc | apply Kd.N_drewN | apply Kd.N_drew)); exact HO_6.out) (Kd.R_base ho0) hb)
                        have n1_ := Aside0.mk (Kd.V_elder' (by (with_reducible repeat (first | apply Kd.V_alloc | apply Kd.V_drewN | apply Kd.V_drew)); exact HO_18.out) (Kd.R_base ho0) hb)
                        have n2_ := Aside0.mk (Kd.V_elder' (by (with_reducible repeat (first | apply Kd.V_alloc | apply Kd.V_drewN | apply Kd.V_drew)); exact HL193_1.out) (Kd.R_base ho0) hb)
                        have n3_ := Aside0.mk (Kd.R_lower (Kd.R_newM (M := fun k_ => (w.heap.size ≤ k_)) ho0 (below_size (by repeat (first | (with_reducible first | exact HB.out | apply below_alloc | apply pw_below_drewN | apply below_drew1 | refine below_set ?_ GE194.out) | exact HB.out))) (fun k_ h_ => h_)) (below_size (by repeat (first | (with_reducible first | exact HB.out | apply below_alloc | apply pw_below_drewN | apply below_drew1 | refine below_set ?_ GE194.out) | exact HB.out))))
                        have n4_ := Aside0.mk (blk_below (g := gb194) (o := .cells #[.int .i64 ((rd_T87 x0_1 x20_2).f0), .slice A193_1 ((rd_T87 x0_1 x20_2).f1).length c193_1] 87 (0, 0)) (by (with_reducible repeat (first | refine blk_drewN ?_ _ | refine blk_drew ?_ | refine blk_alloc ?_ _)); exact BK194.out) hb)
                        have n5_ := Aside0.mk (below_step (by repeat (first | (with_reducible first | exact HB.out | apply below_alloc | apply pw_below_drewN | apply below_drew1 | refine below_set ?_ GE194.out) | exact HB.out)) hb)
                        clear HO_6
                        clear HO_18
                        clear HL193_1
                        clear BK194
                        clear HB
                        have HO_6 := n0_
                        have HO_18 := n1_
                        have HL193_1 := n2_
                        have HO198 := n3_
                        have BK194 := n4_
                        have HB := n5_
                        clear n0_ n1_ n2_ n3_ n4_ n5_
                        (try clear hb)
                        (try clear hb2)
                        (try clear hk)
                        (try clear hi)
                        (try clear ho0)
                        obtain ⟨Ao20, co20, eo20⟩ := Kd.R_slice HO198.out
                        (first | subst eo20 | (injection eo20 with f1_ f2_ f3_; have f4_ := f1_.symm; have f5_ := f3_.symm; clear f1_ f2_ f3_; subst f4_; subst f5_))
                        refine hK.out _ _ ⟨(blk_cell BK194.out 0).trans rfl, (blk_cell BK194.out 1).trans rfl⟩ (fun hHeld => ?_)
                        clear hK K
                        refine norm_ (a' := ?_) ?_ ?_
                        rotate_left
                        · show Act.put _ (some 30) _ = _
                          simp only [Act.put, List.setIfInBounds_toArray, List.set_cons_zero, List.set_cons_succ, i64_w, i32_w]
                          rfl
                        refine one_ (i := 4) (N := some 31) #[true, true, true, true, true, false, false, false] rfl rfl (one_of HT_.out (by kernel_rfl)) (by decide) (fun K hK => ?_)
                        refine goes_ Tryd.func95 (by kernel_rfl) rfl #[.agg #[.int .i64 ((rd_T87 x0_1 x20_2).f0), .slice A193_1 ((rd_T87 x0_1 x20_2).f1).length c193_1], .agg #[.int .i64 t195, .slice Ao20 t196.length co20]] (by rfl) rfl rfl (by (try simp only [List.map_toArray, List.map_cons, List.map_nil]); first | done | rfl | (simp only [List.length_drop, List.length_take]; rfl)) ?_
                        with_reducible refine (tones_big_times.calls k2 ((rd_T87 x0_1 x20_2).f0) _ _ ((rd_T87 x0_1 x20_2).f1) t195 _ _ t196 t199 t200 _ ?side1 ?side2 ?side3 ?side4 A13.out).mono ?_
                        (case side1 => repeat (first | exact ((Kd.V_reads' (by (with_reducible repeat (first | apply Kd.V_alloc | apply Kd.V_drewN | apply Kd.V_drew)); exact HL193_1.out)).2.2) | (with_reducible refine Kd.C_alloc ?_ _) | (with_reducible refine Kd.C_drewN ?_ _) | (with_reducible refine Kd.C_drew ?_)))
                        (case side2 => exact HC193_1.out)
                        (case side3 => repeat (first | exact (Kd.R_reads' HO198.out).2.2 | (with_reducible refine Kd.C_alloc ?_ _) | (with_reducible refine Kd.C_drewN ?_ _) | (with_reducible refine Kd.C_drew ?_)))
                        (case side4 => exact (Kd.R_reads' HO198.out).2.1)
                        rintro e w21 ⟨v201, rfl, ho0, hb⟩
                        refine ⟨_, rfl, ?_⟩
                        have n0_ := Aside0.mk (Kd.N_below (by (with_reducible repeat (first | apply Kd.N_alloc | apply Kd.N_drewN | apply Kd.N_drew)); exact HO_6.out) hb)
                        have n1_ := Aside0.mk (Kd.V_below (by (with_reducible repeat (first | apply Kd.V_alloc | apply Kd.V_drewN | apply Kd.V_drew)); exact HO_18.out) hb)
                        have n2_ := Aside0.mk (Kd.V_below (by (with_reducible repeat (first | apply Kd.V_alloc | apply Kd.V_drewN | apply Kd.V_drew)); exact HL193_1.out) hb)
                        have n3_ := Aside0.mk (Kd.R_below (by (with_reducible repeat (first | apply Kd.R_alloc | apply Kd.R_drewN | apply Kd.R_drew)); exact HO198.out) hb)
                        have n4_ := Aside0.mk (Kd.V_lower (Kd.V_mono (ok' := fun k_ => (P0_ k_ ∨ w.heap.size ≤ k_) ∧ some k_ ≠ (u6 : Value).ownBlock ∧ some k_ ≠ (.slice Ao20 t196.length co20 : Value).ownBlock ∧ k_ ≠ gb194) ho0 (fun k_ hk_ => ⟨(.inr (Nat.le_trans (below_size (by repeat (first | (with_reducible first | exact HB.out | apply below_alloc | apply pw_below_drewN | apply below_drew1 | refine below_set ?_ GE194.out) | exact HB.out))) hk_)), (Kd.fresh' (Kd.N_lt (by (with_reducible repeat (first | apply Kd.N_alloc | apply Kd.N_drewN | apply Kd.N_drew)); exact HO_6.out)) k_ hk_), (Kd.fresh' (Kd.R_lt (by (with_reducible repeat (first | apply Kd.R_alloc | apply Kd.R_drewN | apply Kd.R_drew)); exact HO198.out)) k_ hk_), (Kd.freshB (g := gb194) (o := .cells #[.int .i64 ((rd_T87 x0_1 x20_2).f0), .slice A193_1 ((rd_T87 x0_1 x20_2).f1).length c193_1] 87 (0, 0)) (by (with_reducible repeat (first | refine blk_drewN ?_ _ | refine blk_drew ?_ | refine blk_alloc ?_ _)); exact BK194.out) k_ hk_)⟩)) (below_size (by repeat (first | (with_reducible first | exact HB.out | apply below_alloc | apply pw_below_drewN | apply below_drew1 | refine below_set ?_ GE194.out) | exact HB.out))))
                        have n5_ := Aside0.mk (blk_below (g := gb194) (o := .cells #[.int .i64 ((rd_T87 x0_1 x20_2).f0), .slice A193_1 ((rd_T87 x0_1 x20_2).f1).length c193_1] 87 (0, 0)) (by (with_reducible repeat (first | refine blk_drewN ?_ _ | refine blk_drew ?_ | refine blk_alloc ?_ _)); exact BK194.out) hb)
                        have n6_ := Aside0.mk (below_step (by repeat (first | (with_reducible first | exact HB.out | apply below_alloc | apply pw_below_drewN | apply below_drew1 | refine below_set ?_ GE194.out) | exact HB.out)) hb)
                        clear HO_6
                        clear HO_18
                        clear HL193_1
                        clear HO198
                        clear BK194
                        clear HB
                        have HO_6 := n0_
                        have HO_18 := n1_
                        have HL193_1 := n2_
                        have HO198 := n3_
                        have HO202 := n4_
                        have BK194 := n5_
                        have HB := n6_
                        clear n0_ n1_ n2_ n3_ n4_ n5_ n6_
                        (try clear hb)
                        (try clear hb2)
                        (try clear hk)
                        (try clear hi)
                        (try clear ho0)
                        obtain ⟨Ao23, co23, eo23⟩ := Kd.V_slice HO202.out
                        (first | subst eo23 | (injection eo23 with f1_ f2_ f3_; have f4_ := f1_.symm; have f5_ := f3_.symm; clear f1_ f2_ f3_; subst f4_; subst f5_))
                        refine hK.out _ _ ⟨(blk_cell BK194.out 0).trans rfl, (blk_cell BK194.out 1).trans rfl⟩ (fun hHeld => ?_)
                        clear hK K
                        refine norm_ (a' := ?_) ?_ ?_
                        rotate_left
                        · show Act.put _ (some 31) _ = _
                          simp only [Act.put, List.setIfInBounds_toArray, List.set_cons_zero, List.set_cons_succ, i64_w, i32_w]
                          rfl
                        refine one_ (i := 5) (N := some 32) #[true, true, true, true, true, true, false, false] rfl rfl (one_of HT_.out (by kernel_rfl)) (by decide) (fun K hK => ?_)
                        refine value_ (w1 := ?_) (v := ?_) (by rfl) rfl ?_ ?_
                        rotate_left 2
                        · go_simp
                          constructor
                          · rfl
                          · rfl
                        refine hK.out _ _ ⟨(blk_cell (blk_alloc BK194.out _) 0).trans rfl, (blk_cell (blk_alloc BK194.out _) 1).trans rfl⟩ (fun hHeld => ?_)
                        clear hK K
                        refine norm_ (a' := ?_) ?_ ?_
                        rotate_left
                        · show Act.put _ (some 32) _ = _
                          simp only [Act.put, List.setIfInBounds_toArray, List.set_cons_zero, List.set_cons_succ, i64_w, i32_w]
                          rfl
                        refine one_ (i := 6) (N := some 33) #[true, true, true, true, true, true, true, false] rfl rfl (one_of HT_.out (by kernel_rfl)) (by decide) (fun K hK => ?_)
                        refine Kd.N_append_step k87 (w0 := w) w.heap.size (by rfl) (.tmp 27) (.tmp 32) 85 87 (.agg #[(.int .i64 0), (.slice none 0 0)]) 32 rfl Tryd.underlying85 info87 rfl (by decide) (by omega) u6 x6_2 (⟨t199, t200⟩ : S87) [.int .i64 t199, .slice Ao23 t200.length co23] (fun k_ => (P0_ k_ ∨ w.heap.size ≤ k_) ∧ some k_ ≠ (.slice Ao20 t196.length co20 : Value).ownBlock ∧ k_ ≠ gb194) (fun k_ => ((fun k_ => (P0_ k_ ∨ w.heap.size ≤ k_) ∧ some k_ ≠ (.slice Ao20 t196.length co20 : Value).ownBlock ∧ k_ ≠ gb194)) k_ ∧ some k_ ≠ (u6 : Value).ownBlock) rfl rfl ?aP (fun _ hk => hk) ?aF ?aO ?aB ?aS ?aL ?_
                        (case aP => exact (k87_mkF _ _ (⟨t199, t200⟩ : S87) (Kd.V_reads' (Kd.V_mono (ok' := (fun k_ => ((fun k_ => (P0_ k_ ∨ w.heap.size ≤ k_) ∧ some k_ ≠ (.slice Ao20 t196.length co20 : Value).ownBlock ∧ k_ ≠ gb194)) k_ ∧ some k_ ≠ (u6 : Value).ownBlock)) (HO202.out) (fun k_ hk => ⟨⟨hk.1, ⟨hk.2.2.1, hk.2.2.2⟩⟩, hk.2.1⟩))).2.1 (Kd.V_F (Kd.V_mono (ok' := (fun k_ => ((fun k_ => (P0_ k_ ∨ w.heap.size ≤ k_) ∧ some k_ ≠ (.slice Ao20 t196.length co20 : Value).ownBlock ∧ k_ ≠ gb194)) k_ ∧ some k_ ≠ (u6 : Value).ownBlock)) (HO202.out) (fun k_ hk => ⟨⟨hk.1, ⟨hk.2.2.1, hk.2.2.2⟩⟩, hk.2.1⟩)))))
                        (case aB => exact (by repeat (first | (with_reducible first | exact HB.out | apply below_alloc | apply pw_below_drewN | apply below_drew1 | refine below_set ?_ GE194.out) | exact HB.out)))
                        (case aF => exact (fun k_ hk => ⟨(.inr (Nat.le_trans (below_size (by repeat (first | (with_reducible first | exact HB.out | apply below_alloc | apply pw_below_drewN | apply below_drew1 | refine below_set ?_ GE194.out) | exact HB.out))) hk)), Kd.fresh' (Kd.R_lt (by (with_reducible repeat (first | apply Kd.R_alloc | apply Kd.R_drewN | apply Kd.R_drew)); exact HO198.out)) k_ hk, Kd.freshB (g := gb194) (o := .cells #[.int .i64 ((rd_T87 x0_1 x20_2).f0), .slice A193_1 ((rd_T87 x0_1 x20_2).f1).length c193_1] 87 (0, 0)) (by (with_reducible repeat (first | refine blk_drewN ?_ _ | refine blk_drew ?_ | refine blk_alloc ?_ _)); exact BK194.out) k_ hk⟩))
                        (case aO => exact (by (with_reducible repeat (first | apply Kd.N_alloc | apply Kd.N_drewN | apply Kd.N_drew)); exact Kd.N_mono HO_6.out (fun _ hk => ⟨hk.1.1, ⟨hk.2, hk.1.2⟩⟩)))
                        (case aS => exact (below_size (by repeat (first | (with_reducible first | exact HB.out | apply below_alloc | apply pw_below_drewN | apply below_drew1 | refine below_set ?_ GE194.out) | exact HB.out))))
                        (case aL => have := LMc14.out; omega)
                        intro v204 w22 ho hb hg hat
                        rw [← Ny203.out] at ho
                        have n0_ := Aside0.mk (Kd.V_afterv (ok := (fun k_ => (P0_ k_ ∨ w.heap.size ≤ k_) ∧ some k_ ≠ (.slice Ao20 t196.length co20 : Value).ownBlock ∧ k_ ≠ gb194)) (by (with_reducible repeat (first | apply Kd.V_alloc | apply Kd.V_drewN | apply Kd.V_drew)); exact Kd.V_mono HO_18.out (fun _ hk => ⟨⟨hk.1.1, ⟨hk.2, hk.1.2.2⟩⟩, hk.1.2.1⟩)) hg hat)
                        have n1_ := Aside0.mk (Kd.V_afterv (ok := (fun k_ => (P0_ k_ ∨ w.heap.size ≤ k_) ∧ some k_ ≠ (.slice Ao20 t196.length co20 : Value).ownBlock ∧ k_ ≠ gb194)) (by (with_reducible repeat (first | apply Kd.V_alloc | apply Kd.V_drewN | apply Kd.V_drew)); exact Kd.V_mono HL193_1.out (fun _ hk => ⟨⟨hk.1.1, ⟨hk.2, hk.1.2.2⟩⟩, hk.1.2.1⟩)) hg hat)
                        have n2_ := Aside0.mk (blk_grown (g := gb194) (o := .cells #[.int .i64 ((rd_T87 x0_1 x20_2).f0), .slice A193_1 ((rd_T87 x0_1 x20_2).f1).length c193_1] 87 (0, 0)) (by (with_reducible repeat (first | refine blk_drewN ?_ _ | refine blk_drew ?_ | refine blk_alloc ?_ _)); exact BK194.out) hg (Kd.N_away HO_6.out (fun _ hk => hk.1.2)))
                        have n3_ := Aside0.mk (Kd.R_over' (by (with_reducible repeat (first | apply Kd.R_alloc | apply Kd.R_drewN | apply Kd.R_drew)); exact HO198.out) (Kd.N_typed (by (with_reducible repeat (first | apply Kd.N_alloc | apply Kd.N_drewN | apply Kd.N_drew)); exact HO_6.out)) (by decide) hg)
                        have n4_ := Aside0.mk (Kd.V_afterv (ok := (fun k_ => (P0_ k_ ∨ w.heap.size ≤ k_) ∧ some k_ ≠ (.slice Ao20 t196.length co20 : Value).ownBlock ∧ k_ ≠ gb194)) (by (with_reducible repeat (first | apply Kd.V_alloc | apply Kd.V_drewN | apply Kd.V_drew)); exact Kd.V_mono HO202.out (fun _ hk => ⟨⟨hk.1, ⟨hk.2.2.1, hk.2.2.2⟩⟩, hk.2.1⟩)) hg hat)
                        have n5_ := Aside0.mk (hb)
                        have n6_ := Aside0.mk (ho)
                        clear HO_18
                        clear HL193_1
                        clear BK194
                        clear HO198
                        clear HO202
                        clear HB
                        clear HO_6
                        have HO_18 := n0_
                        have HL193_1 := n1_
                        have BK194 := n2_
                        have HO198 := n3_
                        have HO202 := n4_
                        have HB := n5_
                        have HO205 := n6_
                        clear n0_ n1_ n2_ n3_ n4_ n5_ n6_
                        clear ho hb hg hat
                        refine hK.out _ _ ⟨(blk_cell BK194.out 0).trans rfl, (blk_cell BK194.out 1).trans rfl⟩ (fun hHeld => ?_)
                        clear hK K
                        refine norm_ (a' := ?_) ?_ ?_
                        rotate_left
                        · show Act.put _ (some 33) _ = _
                          simp only [Act.put, List.setIfInBounds_toArray, List.set_cons_zero, List.set_cons_succ, i64_w, i32_w]
                          rfl
                        refine pure_ (i := 7) (N := some 6) (v := ?_) (a' := ?_) #[true, true, true, true, true, true, true, true] rfl rfl (any_of HT_.out (by kernel_rfl)) (fun _ _ _ h => h) (Or.inl ⟨by rfl, ?_⟩) ?_ ?_
                        rotate_left
                        · intro w'
                          go_simp
                          with_reducible rfl
                        rotate_left
                        · simp only [Act.put, List.setIfInBounds_toArray, List.set_cons_zero, List.set_cons_succ, i64_w, i32_w]
                          rfl
                        refine done_ (done_of HT_.out (by kernel_rfl)) ?_
                        try go_wp2
                        go_roundg k2
                        case measure => have := HK1.out; have := HK2.out; omega
                        case rel => exact ⟨(y203), (wrap64 (x20_2 + 1)), (by first | rfl | (simp; done) | (simp [*]; done)), H', ⟨by have := HK1.out; have := HK2.out; omega⟩, ⟨by (with_reducible repeat (first | apply Kd.N_alloc | apply Kd.N_drewN | apply Kd.N_drew)); exact Kd.N_mono HO205.out (fun _ hk => hk.1)⟩, ⟨by (with_reducible repeat (first | apply Kd.V_alloc | apply Kd.V_drewN | apply Kd.V_drew)); exact Kd.V_mono HO_18.out (fun _ hk => ⟨hk.1.1, hk.2⟩)⟩, ⟨by repeat (first | (with_reducible first | exact HB.out | apply below_alloc | apply pw_below_drewN | apply below_drew1 | refine below_set ?_ GE194.out) | exact HB.out)⟩⟩
                      · rw [if_neg c14] at H
                        exact absurd H (by simp)
                    · rw [if_neg c11] at H
                      have c11b0 : decide (0 < x20_2) = false := decide_eq_false c11
                      clear c11
                      have H' := Aside0.mk H
                      clear H
                      have p193 : 0 ≤ (x20_2 : Int) := of_decide_eq_true (by first | (with_reducible assumption) | assumption)
                      have q193 : x20_2 < (x0_1.length : Int) := of_decide_eq_true (by first | (with_reducible assumption) | assumption)
                      obtain ⟨ad193, A193_1, c193_1, e193, hx193_0, hx193_1, hl193_1, hi193_1⟩ := at_T87 (Kd.V_reads' HO_18.out).2.2 x20_2 p193 q193
                      cases e193
                      obtain ⟨ce193, hce193, hMe193, hcc193⟩ := Kd.V_get HO_18.out z87 x20_2 p193 (by first | exact q193 | exact of_decide_eq_true (by first | (with_reducible assumption) | assumption) | (have e_ := (Kd.V_reads' HO_18.out).1; omega))
                      obtain ⟨ua193_1, uc193_1, rfl, ul193_1, ge193_1⟩ := k87_openF hMe193
                      have hv193_1 := hcc193 1 _ rfl
                      rw [add_field _ _ 1 (by omega)] at hv193_1
                      replace hv193_1 := Option.some.inj (hv193_1.symm.trans hx193_1)
                      injection hv193_1 with hva_ hvn_ hvc_
                      rw [hva_] at ge193_1
                      rw [hvc_] at ul193_1
                      have HL193_1 := Aside0.mk (show Kd.V (Kd.int .i64) 3 _ w.heap.size _ _ ((rd_T87 x0_1 x20_2).f1) from Kd.V_mk ul193_1 ge193_1)
                      clear hva_ hvn_ hvc_ ge193_1 ul193_1
                      clear hcc193 hce193
                      have HR193_1 := Aside0.mk hi193_1
                      have HC193_1 := Aside0.mk hl193_1
                      clear hi193_1 hl193_1
                      replace p193 := eq_true p193
                      replace q193 := eq_true q193
                      go_wp2_with (first | ((with_reducible refine gate_dst (N := 8) rfl ?_); refine box_event ?hg (N := 8) ?hd (cs := #[.int .i64 0, .slice none 0 0]) (t := 87) ?hr ?_; (case hd => rfl); (case hg => rfl); (case hr => first | (go_simp; done) | (go_simp; rfl)); intro gb194 hg w24 hbox hb; have n0_ := Aside0.mk (Kd.N_below (Kd.N_elderB (by (with_reducible repeat (first | apply Kd.N_alloc | apply Kd.N_drewN | apply Kd.N_drew)); exact HO_6.out) gb194 (Nat.le_of_eq hg.symm)) hb); have n1_ := Aside0.mk (Kd.V_below (Kd.V_elderB (by (with_reducible repeat (first | apply Kd.V_alloc | apply Kd.V_drewN | apply Kd.V_drew)); exact HO_18.out) gb194 (Nat.le_of_eq hg.symm)) hb); have n2_ := Aside0.mk (Kd.V_below (Kd.V_elderB (by (with_reducible repeat (first | apply Kd.V_alloc | apply Kd.V_drewN | apply Kd.V_drew)); exact HL193_1.out) gb194 (Nat.le_of_eq hg.symm)) hb); have n3_ := Aside0.mk (Kd.C_below (by repeat (first | (with_reducible exact HR193_1.out) | (with_reducible refine Kd.C_alloc ?_ _) | (with_reducible refine Kd.C_drewN ?_ _) | (with_reducible refine Kd.C_drew ?_) | exact HR193_1.out)) hb); have n4_ := Aside0.mk (below_step (by repeat (first | (with_reducible first | exact HB.out | apply below_alloc | apply pw_below_drewN | apply below_drew1) | exact HB.out)) hb); have n5_ := Aside0.mk (hbox); have n6_ := Aside0.mk ((by rw [hg]; exact (below_size (by repeat (first | (with_reducible first | exact HB.out | apply below_alloc | apply pw_below_drewN | apply below_drew1) | exact HB.out))) : w.heap.size ≤ gb194)); have n7_ := Aside0.mk ((by rw [hg]; exact (below_size (by repeat (first | (with_reducible first | exact HB.out | apply below_alloc | apply pw_below_drewN | apply below_drew1) | exact HB.out))) : w.heap.size ≤ gb194)); clear HO_6; clear HO_18; clear HL193_1; clear HR193_1; clear HB; have HO_6 := n0_; have HO_18 := n1_; have HL193_1 := n2_; have HR193_1 := n3_; have HB := n4_; have BK194 := n5_; have GW194 := n6_; have GE194 := n7_; clear n0_ n1_ n2_ n3_ n4_ n5_ n6_ n7_; clear hb hbox hg; have hcz25_0 : w24.cell? ⟨gb194, 0, none⟩ = some (.int .i64 0) := (blk_cell BK194.out 0).trans rfl; have hcz25_1 : w24.cell? ⟨gb194, 1, none⟩ = some (.slice none 0 0) := (blk_cell BK194.out 1).trans rfl; have hfz25_0 := blk_frozen BK194.out 0; have hfz25_1 := blk_frozen BK194.out 1))
                      go_roundg k2
                      case measure => have := HK1.out; have := HK2.out; omega
                      case rel => exact ⟨(x6_2), (wrap64 (x20_2 + 1)), (by first | rfl | (simp; done) | (simp [*]; done)), H', ⟨by have := HK1.out; have := HK2.out; omega⟩, ⟨by (with_reducible repeat (first | apply Kd.N_alloc | apply Kd.N_drewN | apply Kd.N_drew)); exact Kd.N_mono (Kd.N_far (p := ⟨gb194, 1, none⟩) (Kd.N_far (p := ⟨gb194, 0, none⟩) (Kd.N_mono HO_6.out (fun k_ hk => (⟨hk, hk.2⟩ : _ ∧ k_ ≠ gb194))) (fun _ hk => hk.2) (.int .i64 ((rd_T87 x0_1 x20_2).f0))) (fun _ hk => hk.2) (.slice A193_1 ((rd_T87 x0_1 x20_2).f1).length c193_1)) (fun _ hk => hk.1.1)⟩, ⟨by (with_reducible repeat (first | apply Kd.V_alloc | apply Kd.V_drewN | apply Kd.V_drew)); exact Kd.V_mono (Kd.V_far (p := ⟨gb194, 1, none⟩) (Kd.V_far (p := ⟨gb194, 0, none⟩) (Kd.V_mono HO_18.out (fun k_ hk => (⟨hk, hk.2⟩ : _ ∧ k_ ≠ gb194))) (fun _ hk => hk.2) (.int .i64 ((rd_T87 x0_1 x20_2).f0))) (fun _ hk => hk.2) (.slice A193_1 ((rd_T87 x0_1 x20_2).f1).length c193_1)) (fun _ hk => ⟨hk.1.1.1, hk.1.1.2⟩)⟩, ⟨by repeat (first | (with_reducible first | exact HB.out | apply below_alloc | apply pw_below_drewN | apply below_drew1 | refine below_set ?_ GE194.out) | exact HB.out)⟩⟩
                  · rw [if_neg c10] at H
                    exact absurd H (by simp)
                · rw [if_neg c9] at H
                  exact absurd H (by simp)
              · rw [if_neg c8] at H
                have c8b0 : decide (x20_2 < (x0_1.length : Int)) = false := decide_eq_false c8
                clear c8
                have H' := Aside0.mk H
                clear H
                go_wp2
                go_roundg k2
                case measure => have := HK1.out; have := HK2.out; omega
                case rel => exact ⟨(x6_2), H', ⟨by have := HK1.out; have := HK2.out; omega⟩, ⟨Kd.N_V (by (with_reducible repeat (first | apply Kd.N_alloc | apply Kd.N_drewN | apply Kd.N_drew)); exact HO_6.out)⟩, ⟨by repeat (first | (with_reducible first | exact HB.out | apply below_alloc | apply pw_below_drewN | apply below_drew1) | exact HB.out)⟩⟩
        · rw [if_neg c5] at H
          have c5b0 : (t192 == 0) = false := beq_eq_false_iff_ne.mpr c5
          have c5b1 : (t192 != 0) = true := bne_iff_ne.mpr c5
          obtain rfl := Option.some.inj H
          obtain ⟨Ao26, co26, eo26⟩ := Kd.V_slice HO_0.out
          subst eo26
          go_wp2_with (first | ((with_reducible refine gate_callee (f := 97) rfl ?_); refine goesL_ (some 14) rfl rfl Tryd.func97 (by kernel_rfl) rfl #[.slice Ao26 x0_1.length co26, .int .i64 a1] rfl (by (try simp only [List.map_toArray, List.map_cons, List.map_nil]); first | done | rfl | (simp only [List.length_drop, List.length_take]; rfl)) ?_; (with_reducible refine (tones_list_at.calls k1 _ _ x0_1 a1 t192 _ ?side1 ?side2 A4.out).mono ?_); (case side1 => repeat (first | exact (Kd.V_reads' HO_0.out).2.2 | (with_reducible refine Kd.C_alloc ?_ _) | (with_reducible refine Kd.C_drewN ?_ _) | (with_reducible refine Kd.C_drew ?_))); (case side2 => exact (Kd.V_reads' HO_0.out).2.1); rintro e w27 ⟨rfl, hb⟩; refine ⟨_, rfl, ?_⟩; have n0_ := Aside0.mk (Kd.V_below (by (with_reducible repeat (first | apply Kd.V_alloc | apply Kd.V_drewN | apply Kd.V_drew)); exact HO_0.out) hb); have n1_ := Aside0.mk (below_step (by repeat (first | (with_reducible first | exact HB.out | apply below_alloc | apply pw_below_drewN | apply below_drew1) | exact HB.out)) hb); clear HO_0; clear HB; have HO_0 := n0_; have HB := n1_; clear n0_ n1_; (try clear hb); (try clear hb2); (try clear hk); (try clear hi)))
          go_ret
          exact ⟨by first | rfl | (simp [errW_none, errW_some] <;> rfl) | (simp [*, errW_none, errW_some] <;> rfl), by repeat (first | (with_reducible first | exact HB.out | apply below_alloc | apply pw_below_drewN | apply below_drew1) | exact HB.out)⟩
      · rw [if_neg c3] at H
        have c3b0 : decide (0 < (x0_1.length : Int)) = false := decide_eq_false c3
        have c3b1 : decide (0 < x0_1.length) = false := decide_eq_false (by omega)
        clear c3
        obtain rfl := Option.some.inj H
        obtain ⟨Ao28, co28, eo28⟩ := Kd.V_slice HO_0.out
        subst eo28
        go_wp2
        go_ret
        exact ⟨by first | rfl | (simp [errW_none, errW_some] <;> rfl) | (simp [*, errW_none, errW_some] <;> rfl), by repeat (first | (with_reducible first | exact HB.out | apply below_alloc | apply pw_below_drewN | apply below_drew1) | exact HB.out)⟩

/-! ### tones_sturm_changes: function 61 -/
def tones_sturm_changes.l0 : Nat → Int → Int → Int → List (List (S87)) → Int → Int → Option (Int)
  | 0, _, _, _, _, _, _ => none
  | k + 1, x1, x5, x6, x10, x11, x12 => if x12 < x11 then (if 0 ≤ x12 then (if x12 < (x10.length : Int) then ((tones_list_near.f k (rd_L3 x10 x12) x1).bind fun t207 => (if t207 = (wrap64 (-x6)) then (tones_sturm_changes.l0 k x1 (wrap64 (x5 + 1)) t207 x10 x11 (wrap64 (x12 + 1))) else (tones_sturm_changes.l0 k x1 x5 t207 x10 x11 (wrap64 (x12 + 1))))) else (none)) else (none)) else (some x5)
def tones_sturm_changes.f (k : Nat) (l0 : List (List (S87))) (a1 : Int) : Option (Int) := tones_sturm_changes.l0 k a1 0 0 l0 (l0.length : Int) 0
theorem tones_sturm_changes.mono_l : ∀ k, (∀ y0 y1 y2 y3 y4 y5, LeO (tones_sturm_changes.l0 k y0 y1 y2 y3 y4 y5) (tones_sturm_changes.l0 (k + 1) y0 y1 y2 y3 y4 y5))
  | 0 => fun _ _ _ _ _ _ r h => by simp [tones_sturm_changes.l0] at h
  | k + 1 => by
    have ih0 := tones_sturm_changes.mono_l k
    · intro y0 y1 y2 y3 y4 y5
      unfold tones_sturm_changes.l0
      repeat' first
      | (with_reducible exact ih0 _ _ _ _ _ _)
      | (with_reducible exact tones_list_near.mono _ _ _)
      | (with_reducible exact LeO.refl _)
      | (with_reducible exact LeO.none _)
      | (with_reducible refine LeO.ite ?_ ?_)
      | (with_reducible refine LeO.bind ?_ (fun _ => ?_))
      | exact ih0 _ _ _ _ _ _
      | exact tones_list_near.mono _ _ _
      | exact LeO.none _
      | refine LeO.ite ?_ ?_
      | refine LeO.bind ?_ (fun _ => ?_)
theorem tones_sturm_changes.mono : ∀ a0 a1 k, LeO (tones_sturm_changes.f k a0 a1) (tones_sturm_changes.f (k + 1) a0 a1) := by
  intro a0 a1 k
  have ih0 := tones_sturm_changes.mono_l k
  unfold tones_sturm_changes.f
  repeat' first
      | (with_reducible exact ih0 _ _ _ _ _ _)
      | (with_reducible exact tones_list_near.mono _ _ _)
      | (with_reducible exact LeO.refl _)
      | (with_reducible exact LeO.none _)
      | (with_reducible refine LeO.ite ?_ ?_)
      | (with_reducible refine LeO.bind ?_ (fun _ => ?_))
      | exact ih0 _ _ _ _ _ _
      | exact tones_list_near.mono _ _ _
      | exact LeO.none _
      | refine LeO.ite ?_ ?_
      | refine LeO.bind ?_ (fun _ => ?_)
set_option maxHeartbeats 8000000 in
set_option maxRecDepth 100000 in
theorem tones_sturm_changes.calls (k : Nat) (A0 : Option Addr) (c0 : Nat) (l0 : List (List (S87))) (a1 : Int) (r : Int) (w : World) (hr0 : Kd.C (Kd.slice 87 k87) w A0 l0.length l0) (hc0 : l0.length ≤ c0) (h : tones_sturm_changes.f k l0 a1 = some r) :
    Calls Tryd.prog 61 #[.slice A0 l0.length c0, .int .i64 a1] w fun e w' => e = .returned (.int .i64 r) ∧ Below w.heap.size w w' := by
  have HR0 := Aside0.mk hr0
  have HC0 := Aside0.mk hc0
  clear hr0 hc0
  have HB := Aside0.mk (Below.refl w.heap.size w)
  have H : (tones_sturm_changes.l0 k a1 0 0 l0 (l0.length : Int) 0) = some r := h
  clear h
  have H' := Aside0.mk H
  clear H
  go_enter Tryd.func61, Tryd.ntmps61
  go_wp2
  go_loopg [5, 6, 12] k (fun kq v5 v6 v12 w' => ∃ (x5_1 : Int) (x6_1 : Int) (x12_1 : Int), v5 = .int .i64 x5_1 ∧ v6 = .int .i64 x6_1 ∧ v12 = .int .i64 x12_1 ∧ Aside0 (tones_sturm_changes.l0 kq a1 x5_1 x6_1 l0 (l0.length : Int) x12_1 = some r) ∧ Aside0 (kq ≤ k) ∧ Aside0 (Below w.heap.size w w'))
  case atStart => exact ⟨(0), (0), (0), (by first | rfl | (simp; done) | (simp [*]; done)), (by first | rfl | (simp; done) | (simp [*]; done)), (by first | rfl | (simp; done) | (simp [*]; done)), H', ⟨Nat.le_refl _⟩, ⟨by repeat (first | (with_reducible first | exact HB.out | apply below_alloc | apply pw_below_drewN | apply below_drew1) | exact HB.out)⟩⟩
  case round =>
    clear H'
    try clear p2
    obtain ⟨x5_1, x6_1, x12_1, rfl, rfl, rfl, HA, HK1, HB⟩ := hrel
    cases gk with
    | zero => exact absurd HA.out (by simp [tones_sturm_changes.l0])
    | succ k1 =>
      have H := HA.out
      clear HA
      simp only [tones_sturm_changes.l0] at H
      by_cases c3 : x12_1 < (l0.length : Int)
      · rw [if_pos c3] at H
        have c3b0 : decide (x12_1 < (l0.length : Int)) = true := decide_eq_true c3
        clear c3
        by_cases c4 : 0 ≤ x12_1
        · rw [if_pos c4] at H
          have c4b0 : decide (0 ≤ x12_1) = true := decide_eq_true c4
          clear c4
          by_cases c5 : x12_1 < (l0.length : Int)
          · rw [if_pos c5] at H
            have c5b0 : decide (x12_1 < (l0.length : Int)) = true := decide_eq_true c5
            clear c5
            replace H := Option.bind_eq_some_iff.mp H
            obtain ⟨t207, A60, H⟩ := H
            replace H : (if t207 = (wrap64 (-x6_1)) then (tones_sturm_changes.l0 k1 a1 (wrap64 (x5_1 + 1)) t207 l0 (l0.length : Int) (wrap64 (x12_1 + 1))) else (tones_sturm_changes.l0 k1 a1 x5_1 t207 l0 (l0.length : Int) (wrap64 (x12_1 + 1)))) = some r := H
            have A6 := Aside0.mk A60
            clear A60
            by_cases c7 : t207 = (wrap64 (-x6_1))
            · rw [if_pos c7] at H
              have c7b0 : (t207 == (wrap64 (-x6_1))) = true := beq_iff_eq.mpr c7
              have c7b1 : (t207 != (wrap64 (-x6_1))) = false := bne_eq_false_iff_eq.mpr c7
              clear c7
              have H' := Aside0.mk H
              clear H
              have p206 : 0 ≤ (x12_1 : Int) := of_decide_eq_true (by first | (with_reducible assumption) | assumption)
              have q206 : x12_1 < (l0.length : Int) := of_decide_eq_true (by first | (with_reducible assumption) | assumption)
              obtain ⟨ad206, A206_0, c206_0, e206, hx206_0, hl206_0, hi206_0⟩ := at_L3 HR0.out x12_1 p206 q206
              cases e206
              replace hx206_0 := (HB.out.cell (World.block_lt_of_cell? w _ hx206_0)).trans hx206_0
              have HR206_0 := Aside0.mk hi206_0
              have HC206_0 := Aside0.mk hl206_0
              clear hi206_0 hl206_0
              replace p206 := eq_true p206
              replace q206 := eq_true q206
              go_wp2_with (first | ((with_reducible refine gate_callee (f := 79) rfl ?_); refine goesL_ (some 18) rfl rfl Tryd.func79 (by kernel_rfl) rfl #[.slice A206_0 (rd_L3 l0 x12_1).length c206_0, .int .i64 a1] rfl (by (try simp only [List.map_toArray, List.map_cons, List.map_nil]); first | done | rfl | (simp only [List.length_drop, List.length_take]; rfl)) ?_; (with_reducible refine (tones_list_near.calls k1 (fun k_ => k_ < w.heap.size) _ _ (rd_L3 l0 x12_1) a1 t207 _ ?side1 A6.out).mono ?_); (case side1 => exact Kd.V_mk HC206_0.out (Kd.F_below (Kd.C_F k87_heap HR206_0.out) (by repeat (first | (with_reducible first | exact HB.out | apply below_alloc | apply pw_below_drewN | apply below_drew1) | exact HB.out)))); rintro e w8 ⟨rfl, hb⟩; refine ⟨_, rfl, ?_⟩; have n0_ := Aside0.mk (below_step (by repeat (first | (with_reducible first | exact HB.out | apply below_alloc | apply pw_below_drewN | apply below_drew1) | exact HB.out)) hb); clear HB; have HB := n0_; clear n0_; (try clear hb); (try clear hb2); (try clear hk); (try clear hi)))
              go_roundg k1
              case measure => have := HK1.out; omega
              case rel => exact ⟨(wrap64 (x5_1 + 1)), (t207), (wrap64 (x12_1 + 1)), (by first | rfl | (simp; done) | (simp [*]; done)), (by first | rfl | (simp; done) | (simp [*]; done)), (by first | rfl | (simp; done) | (simp [*]; done)), H', ⟨by have := HK1.out; omega⟩, ⟨by repeat (first | (with_reducible first | exact HB.out | apply below_alloc | apply pw_below_drewN | apply below_drew1) | exact HB.out)⟩⟩
            · rw [if_neg c7] at H
              have c7b0 : (t207 == (wrap64 (-x6_1))) = false := beq_eq_false_iff_ne.mpr c7
              have c7b1 : (t207 != (wrap64 (-x6_1))) = true := bne_iff_ne.mpr c7
              have H' := Aside0.mk H
              clear H
              have p206 : 0 ≤ (x12_1 : Int) := of_decide_eq_true (by first | (with_reducible assumption) | assumption)
              have q206 : x12_1 < (l0.length : Int) := of_decide_eq_true (by first | (with_reducible assumption) | assumption)
              obtain ⟨ad206, A206_0, c206_0, e206, hx206_0, hl206_0, hi206_0⟩ := at_L3 HR0.out x12_1 p206 q206
              cases e206
              replace hx206_0 := (HB.out.cell (World.block_lt_of_cell? w _ hx206_0)).trans hx206_0
              have HR206_0 := Aside0.mk hi206_0
              have HC206_0 := Aside0.mk hl206_0
              clear hi206_0 hl206_0
              replace p206 := eq_true p206
              replace q206 := eq_true q206
              go_wp2_with (first | ((with_reducible refine gate_callee (f := 79) rfl ?_); refine goesL_ (some 18) rfl rfl Tryd.func79 (by kernel_rfl) rfl #[.slice A206_0 (rd_L3 l0 x12_1).length c206_0, .int .i64 a1] rfl (by (try simp only [List.map_toArray, List.map_cons, List.map_nil]); first | done | rfl | (simp only [List.length_drop, List.length_take]; rfl)) ?_; (with_reducible refine (tones_list_near.calls k1 (fun k_ => k_ < w.heap.size) _ _ (rd_L3 l0 x12_1) a1 t207 _ ?side1 A6.out).mono ?_); (case side1 => exact Kd.V_mk HC206_0.out (Kd.F_below (Kd.C_F k87_heap HR206_0.out) (by repeat (first | (with_reducible first | exact HB.out | apply below_alloc | apply pw_below_drewN | apply below_drew1) | exact HB.out)))); rintro e w9 ⟨rfl, hb⟩; refine ⟨_, rfl, ?_⟩; have n0_ := Aside0.mk (below_step (by repeat (first | (with_reducible first | exact HB.out | apply below_alloc | apply pw_below_drewN | apply below_drew1) | exact HB.out)) hb); clear HB; have HB := n0_; clear n0_; (try clear hb); (try clear hb2); (try clear hk); (try clear hi)))
              go_roundg k1
              case measure => have := HK1.out; omega
              case rel => exact ⟨(x5_1), (t207), (wrap64 (x12_1 + 1)), (by first | rfl | (simp; done) | (simp [*]; done)), (by first | rfl | (simp; done) | (simp [*]; done)), (by first | rfl | (simp; done) | (simp [*]; done)), H', ⟨by have := HK1.out; omega⟩, ⟨by repeat (first | (with_reducible first | exact HB.out | apply below_alloc | apply pw_below_drewN | apply below_drew1) | exact HB.out)⟩⟩
          · rw [if_neg c5] at H
            exact absurd H (by simp)
        · rw [if_neg c4] at H
          exact absurd H (by simp)
      · rw [if_neg c3] at H
        have c3b0 : decide (x12_1 < (l0.length : Int)) = false := decide_eq_false c3
        clear c3
        obtain rfl := Option.some.inj H
        go_wp2
        go_ret
        exact ⟨by first | rfl | (simp [errW_none, errW_some] <;> rfl) | (simp [*, errW_none, errW_some] <;> rfl), by repeat (first | (with_reducible first | exact HB.out | apply below_alloc | apply pw_below_drewN | apply below_drew1) | exact HB.out)⟩

/-! ### clocheref08_Same: function 29 -/
def clocheref08_Same.l0 : Nat → List Int → List Int → Int → Option (Bool)
  | 0, _, _, _ => none
  | k + 1, x0, x1, x5 => if x5 < (x0.length : Int) then (if 0 ≤ x5 then (if x5 < (x1.length : Int) then (if (rd x0 x5) = (rd x1 x5) then (clocheref08_Same.l0 k x0 x1 (wrap64 (x5 + 1))) else (some false)) else (none)) else (none)) else (some true)
def clocheref08_Same.f (k : Nat) (l0 : List Int) (l1 : List Int) : Option (Bool) := if (l0.length : Int) = (l1.length : Int) then (clocheref08_Same.l0 k l0 l1 0) else (some false)
theorem clocheref08_Same.mono_l : ∀ k, (∀ y0 y1 y2, LeO (clocheref08_Same.l0 k y0 y1 y2) (clocheref08_Same.l0 (k + 1) y0 y1 y2))
  | 0 => fun _ _ _ r h => by simp [clocheref08_Same.l0] at h
  | k + 1 => by
    have ih0 := clocheref08_Same.mono_l k
    · intro y0 y1 y2
      unfold clocheref08_Same.l0
      repeat' first
      | (with_reducible exact ih0 _ _ _)
      | (with_reducible exact LeO.refl _)
      | (with_reducible exact LeO.none _)
      | (with_reducible refine LeO.ite ?_ ?_)
      | (with_reducible refine LeO.bind ?_ (fun _ => ?_))
      | exact ih0 _ _ _
      | exact LeO.none _
      | refine LeO.ite ?_ ?_
      | refine LeO.bind ?_ (fun _ => ?_)
theorem clocheref08_Same.mono : ∀ a0 a1 k, LeO (clocheref08_Same.f k a0 a1) (clocheref08_Same.f (k + 1) a0 a1) := by
  intro a0 a1 k
  have ih0 := clocheref08_Same.mono_l k
  unfold clocheref08_Same.f
  repeat' first
      | (with_reducible exact ih0 _ _ _)
      | (with_reducible exact LeO.refl _)
      | (with_reducible exact LeO.none _)
      | (with_reducible refine LeO.ite ?_ ?_)
      | (with_reducible refine LeO.bind ?_ (fun _ => ?_))
      | exact ih0 _ _ _
      | exact LeO.none _
      | refine LeO.ite ?_ ?_
      | refine LeO.bind ?_ (fun _ => ?_)
set_option maxHeartbeats 8000000 in
set_option maxRecDepth 100000 in
theorem clocheref08_Same.calls (k : Nat) (A0 : Option Addr) (c0 : Nat) (l0 : List Int) (A1 : Option Addr) (c1 : Nat) (l1 : List Int) (r : Bool) (w : World) (hr0 : Kd.C (Kd.int .i64) w A0 l0.length l0) (hc0 : l0.length ≤ c0) (hr1 : Kd.C (Kd.int .i64) w A1 l1.length l1) (hc1 : l1.length ≤ c1) (h : clocheref08_Same.f k l0 l1 = some r) :
    Calls Tryd.prog 29 #[.slice A0 l0.length c0, .slice A1 l1.length c1] w fun e w' => e = .returned (.bool r) ∧ Drawn0 w w' := by
  have HR0 := Aside0.mk hr0
  have HC0 := Aside0.mk hc0
  clear hr0 hc0
  have HR1 := Aside0.mk hr1
  have HC1 := Aside0.mk hc1
  clear hr1 hc1
  have H : (if (l0.length : Int) = (l1.length : Int) then (clocheref08_Same.l0 k l0 l1 0) else (some false)) = some r := h
  clear h
  by_cases c3 : (l0.length : Int) = (l1.length : Int)
  · rw [if_pos c3] at H
    have c3b0 : ((l0.length : Int) == (l1.length : Int)) = true := beq_iff_eq.mpr c3
    have c3b1 : ((l0.length : Int) != (l1.length : Int)) = false := bne_eq_false_iff_eq.mpr c3
    have c3b2 : (l0.length == l1.length) = true := by first | simpa using c3 | (simp at c3 ⊢; omega)
    clear c3
    have H' := Aside0.mk H
    clear H
    go_enter Tryd.func29, Tryd.ntmps29
    go_wp2
    repeat (go_quiet (fail); try go_wp2)
    go_loopg [5] k (fun kq v5 w' => ∃ (x5_1 : Int), v5 = .int .i64 x5_1 ∧ Aside0 (clocheref08_Same.l0 kq l0 l1 x5_1 = some r) ∧ Aside0 (kq ≤ k) ∧ Drawn0 w w')
    case atStart => exact ⟨(0), (by first | rfl | (simp; done) | (simp [*]; done)), H', ⟨Nat.le_refl _⟩, by repeat (first | exact Drawn0.refl _ | apply Drawn0.step)⟩
    case round =>
      clear H'
      try clear c1
      try clear c2
      try clear p2
      try clear c3
      try clear c3b0
      try clear c3b1
      try clear c3b2
      obtain ⟨x5_1, rfl, HA, HK1, ⟨m1, rfl⟩⟩ := hrel
      cases gk with
      | zero => exact absurd HA.out (by simp [clocheref08_Same.l0])
      | succ k1 =>
        have H := HA.out
        clear HA
        simp only [clocheref08_Same.l0] at H
        by_cases c4 : x5_1 < (l0.length : Int)
        · rw [if_pos c4] at H
          have c4b0 : decide (x5_1 < (l0.length : Int)) = true := decide_eq_true c4
          clear c4
          by_cases c5 : 0 ≤ x5_1
          · rw [if_pos c5] at H
            have c5b0 : decide (0 ≤ x5_1) = true := decide_eq_true c5
            clear c5
            by_cases c6 : x5_1 < (l1.length : Int)
            · rw [if_pos c6] at H
              have c6b0 : decide (x5_1 < (l1.length : Int)) = true := decide_eq_true c6
              clear c6
              by_cases c7 : (rd l0 x5_1) = (rd l1 x5_1)
              · rw [if_pos c7] at H
                have c7b0 : ((rd l0 x5_1) == (rd l1 x5_1)) = true := beq_iff_eq.mpr c7
                have c7b1 : ((rd l0 x5_1) != (rd l1 x5_1)) = false := bne_eq_false_iff_eq.mpr c7
                clear c7
                have H' := Aside0.mk H
                clear H
                have p208 : 0 ≤ (x5_1 : Int) := of_decide_eq_true (by first | (with_reducible assumption) | assumption)
                have q208 : x5_1 < (l0.length : Int) := of_decide_eq_true (by first | (with_reducible assumption) | assumption)
                obtain ⟨ad208, e208, hx208_0⟩ := Kd.at_int HR0.out x5_1 p208 q208
                cases e208
                replace p208 := eq_true p208
                replace q208 := eq_true q208
                have p209 : 0 ≤ (x5_1 : Int) := of_decide_eq_true (by first | (with_reducible assumption) | assumption)
                have q209 : x5_1 < (l1.length : Int) := of_decide_eq_true (by first | (with_reducible assumption) | assumption)
                obtain ⟨ad209, e209, hx209_0⟩ := Kd.at_int HR1.out x5_1 p209 q209
                cases e209
                replace p209 := eq_true p209
                replace q209 := eq_true q209
                go_wp2
                repeat (go_quiet (fail); try go_wp2)
                go_roundg k1
                case measure => have := HK1.out; omega
                case rel => exact ⟨(wrap64 (x5_1 + 1)), (by first | rfl | (simp; done) | (simp [*]; done)), H', ⟨by have := HK1.out; omega⟩, by repeat (first | exact Drawn0.refl _ | apply Drawn0.step)⟩
              · rw [if_neg c7] at H
                have c7b0 : ((rd l0 x5_1) == (rd l1 x5_1)) = false := beq_eq_false_iff_ne.mpr c7
                have c7b1 : ((rd l0 x5_1) != (rd l1 x5_1)) = true := bne_iff_ne.mpr c7
                obtain rfl := Option.some.inj H
                have p208 : 0 ≤ (x5_1 : Int) := of_decide_eq_true (by first | (with_reducible assumption) | assumption)
                have q208 : x5_1 < (l0.length : Int) := of_decide_eq_true (by first | (with_reducible assumption) | assumption)
                obtain ⟨ad208, e208, hx208_0⟩ := Kd.at_int HR0.out x5_1 p208 q208
                cases e208
                replace p208 := eq_true p208
                replace q208 := eq_true q208
                have p209 : 0 ≤ (x5_1 : Int) := of_decide_eq_true (by first | (with_reducible assumption) | assumption)
                have q209 : x5_1 < (l1.length : Int) := of_decide_eq_true (by first | (with_reducible assumption) | assumption)
                obtain ⟨ad209, e209, hx209_0⟩ := Kd.at_int HR1.out x5_1 p209 q209
                cases e209
                replace p209 := eq_true p209
                replace q209 := eq_true q209
                go_wp2
                repeat (go_quiet (fail); try go_wp2)
                go_ret
                exact ⟨by first | rfl | (simp; done) | (simp [*]; done), by repeat (first | exact Drawn0.refl _ | apply Drawn0.step)⟩
            · rw [if_neg c6] at H
              exact absurd H (by simp)
          · rw [if_neg c5] at H
            exact absurd H (by simp)
        · rw [if_neg c4] at H
          have c4b0 : decide (x5_1 < (l0.length : Int)) = false := decide_eq_false c4
          clear c4
          obtain rfl := Option.some.inj H
          go_wp2
          repeat (go_quiet (fail); try go_wp2)
          go_ret
          exact ⟨by first | rfl | (simp; done) | (simp [*]; done), by repeat (first | exact Drawn0.refl _ | apply Drawn0.step)⟩
  · rw [if_neg c3] at H
    have c3b0 : ((l0.length : Int) == (l1.length : Int)) = false := beq_eq_false_iff_ne.mpr c3
    have c3b1 : ((l0.length : Int) != (l1.length : Int)) = true := bne_iff_ne.mpr c3
    have c3b2 : (l0.length == l1.length) = false := by first | simpa using c3 | (simp at c3 ⊢; omega)
    obtain rfl := Option.some.inj H
    go_enter Tryd.func29, Tryd.ntmps29
    go_wp2
    repeat (go_quiet (fail); try go_wp2)
    go_ret
    exact ⟨by first | rfl | (simp; done) | (simp [*]; done), by repeat (first | exact Drawn0.refl _ | apply Drawn0.step)⟩

/-! ### clochelaw08_star: function 49 -/
def clochelaw08_star.f  : Option (List Int) := some (([30, 1, 1, 1, 1] : List Int))
set_option maxHeartbeats 8000000 in
set_option maxRecDepth 100000 in
theorem clochelaw08_star.calls  (r : List Int) (w : World) (h : clochelaw08_star.f  = some r) :
    Calls Tryd.prog 49 #[] w fun e w' => ∃ v0_ : Value, e = .returned (v0_) ∧ Kd.R (Kd.int .i64) 3 w' w.heap.size (fun _ => True) v0_ r ∧ Below w.heap.size w w' := by
  have HB := Aside0.mk (Below.refl w.heap.size w)
  have H : (some (([30, 1, 1, 1, 1] : List Int))) = some r := h
  clear h
  obtain ⟨y210, hy210⟩ : ∃ y_ : List Int, y_ = (([30, 1, 1, 1, 1] : List Int)) := ⟨_, rfl⟩
  replace H : (some y210) = some r := by first | (rw [hy210]; with_reducible exact H) | (have H2_ := (Option.bind_some _ _).symm.trans H; rw [hy210]; with_reducible exact H2_) | (have H2_ := (Option.bind_some _ _).symm.trans H; with_reducible exact H2_) | with_reducible exact H | (rw [hy210]; exact H) | exact H
  have Ny210 := Aside0.mk hy210
  clear hy210
  obtain rfl := Option.some.inj H
  go_enter Tryd.func49, Tryd.ntmps49
  go_wp2_with (first | ((with_reducible refine gate_dst (N := 1) rfl ?_); refine Kd.R_lit (Kd.int .i64) _ 3 ?hg (N := 1) ?hd (xs := ([30, 1, 1, 1, 1] : List Int)) (inner := [.int .i64 30, .int .i64 1, .int .i64 1, .int .i64 1, .int .i64 1]) (ok := fun _ => True) (okp := fun _ => True) ?hr ?hp (fun _ hk => hk) trivial (Below.refl _ _) (Nat.le_refl _) (by simp) ?_; (case hd => rfl); (case hg => rfl); (case hr => first | (go_simp; done) | (go_simp; rfl)); (case hp => exact (Reps.one (show Kd.M (Kd.int .i64) _ _ _ 30 [.int .i64 30] from rfl) (Reps.one (show Kd.M (Kd.int .i64) _ _ _ 1 [.int .i64 1] from rfl) (Reps.one (show Kd.M (Kd.int .i64) _ _ _ 1 [.int .i64 1] from rfl) (Reps.one (show Kd.M (Kd.int .i64) _ _ _ 1 [.int .i64 1] from rfl) (Reps.one (show Kd.M (Kd.int .i64) _ _ _ 1 [.int .i64 1] from rfl) (Reps.none _ _))))))); intro v211 w1 ho2 hb hg_ hnew_; clear hg_ hnew_; (first | rw [← Ny210.out] at ho2 | (simp only [Int.reduceToNat] at ho2; rw [← Ny210.out] at ho2)); have n0_ := Aside0.mk (Kd.R_lower ho2 (below_size (by repeat (first | (with_reducible first | exact HB.out | apply below_alloc | apply pw_below_drewN | apply below_drew1) | exact HB.out)))); have n1_ := Aside0.mk (below_step (by repeat (first | (with_reducible first | exact HB.out | apply below_alloc | apply pw_below_drewN | apply below_drew1) | exact HB.out)) hb); clear HB; have HO212 := n0_; have HB := n1_; clear n0_ n1_; clear hb ho2))
  go_ret
  exact ⟨_, by first | rfl | (simp [errW_none, errW_some] <;> rfl) | (simp [*, errW_none, errW_some] <;> rfl), by (with_reducible repeat (first | apply Kd.R_alloc | apply Kd.R_drewN | apply Kd.R_drew)); exact HO212.out, by repeat (first | (with_reducible first | exact HB.out | apply below_alloc | apply pw_below_drewN | apply below_drew1) | exact HB.out)⟩

/-! ### clochelaw08_ring: function 50 -/
def clochelaw08_ring.f  : Option (List Int) := some (([10, 5, 10, 5, 0] : List Int))
set_option maxHeartbeats 8000000 in
set_option maxRecDepth 100000 in
theorem clochelaw08_ring.calls  (r : List Int) (w : World) (h : clochelaw08_ring.f  = some r) :
    Calls Tryd.prog 50 #[] w fun e w' => ∃ v0_ : Value, e = .returned (v0_) ∧ Kd.R (Kd.int .i64) 3 w' w.heap.size (fun _ => True) v0_ r ∧ Below w.heap.size w w' := by
  have HB := Aside0.mk (Below.refl w.heap.size w)
  have H : (some (([10, 5, 10, 5, 0] : List Int))) = some r := h
  clear h
  obtain ⟨y213, hy213⟩ : ∃ y_ : List Int, y_ = (([10, 5, 10, 5, 0] : List Int)) := ⟨_, rfl⟩
  replace H : (some y213) = some r := by first | (rw [hy213]; with_reducible exact H) | (have H2_ := (Option.bind_some _ _).symm.trans H; rw [hy213]; with_reducible exact H2_) | (have H2_ := (Option.bind_some _ _).symm.trans H; with_reducible exact H2_) | with_reducible exact H | (rw [hy213]; exact H) | exact H
  have Ny213 := Aside0.mk hy213
  clear hy213
  obtain rfl := Option.some.inj H
  go_enter Tryd.func50, Tryd.ntmps50
  go_wp2_with (first | ((with_reducible refine gate_dst (N := 1) rfl ?_); refine Kd.R_lit (Kd.int .i64) _ 3 ?hg (N := 1) ?hd (xs := ([10, 5, 10, 5, 0] : List Int)) (inner := [.int .i64 10, .int .i64 5, .int .i64 10, .int .i64 5, .int .i64 0]) (ok := fun _ => True) (okp := fun _ => True) ?hr ?hp (fun _ hk => hk) trivial (Below.refl _ _) (Nat.le_refl _) (by simp) ?_; (case hd => rfl); (case hg => rfl); (case hr => first | (go_simp; done) | (go_simp; rfl)); (case hp => exact (Reps.one (show Kd.M (Kd.int .i64) _ _ _ 10 [.int .i64 10] from rfl) (Reps.one (show Kd.M (Kd.int .i64) _ _ _ 5 [.int .i64 5] from rfl) (Reps.one (show Kd.M (Kd.int .i64) _ _ _ 10 [.int .i64 10] from rfl) (Reps.one (show Kd.M (Kd.int .i64) _ _ _ 5 [.int .i64 5] from rfl) (Reps.one (show Kd.M (Kd.int .i64) _ _ _ 0 [.int .i64 0] from rfl) (Reps.none _ _))))))); intro v214 w1 ho2 hb hg_ hnew_; clear hg_ hnew_; (first | rw [← Ny213.out] at ho2 | (simp only [Int.reduceToNat] at ho2; rw [← Ny213.out] at ho2)); have n0_ := Aside0.mk (Kd.R_lower ho2 (below_size (by repeat (first | (with_reducible first | exact HB.out | apply below_alloc | apply pw_below_drewN | apply below_drew1) | exact HB.out)))); have n1_ := Aside0.mk (below_step (by repeat (first | (with_reducible first | exact HB.out | apply below_alloc | apply pw_below_drewN | apply below_drew1) | exact HB.out)) hb); clear HB; have HO215 := n0_; have HB := n1_; clear n0_ n1_; clear hb ho2))
  go_ret
  exact ⟨_, by first | rfl | (simp [errW_none, errW_some] <;> rfl) | (simp [*, errW_none, errW_some] <;> rfl), by (with_reducible repeat (first | apply Kd.R_alloc | apply Kd.R_drewN | apply Kd.R_drew)); exact HO215.out, by repeat (first | (with_reducible first | exact HB.out | apply below_alloc | apply pw_below_drewN | apply below_drew1) | exact HB.out)⟩

end Go.Proofs.YtglalkenkmijkaaDoor.PAll
/- Zeros: the walk. -/
namespace Go.Proofs.YtglalkenkmijkaaDoor.Hand
open Go.RowKit Go.Proofs.YtglalkenkmijkaaDoorW.PrintWords Go.Proofs.YtglalkenkmijkaaDoorW.PrintLast Go.Proofs.YtglalkenkmijkaaDoorW.PrintMore
open PAll
set_option linter.unusedVariables false
set_option linter.unusedSimpArgs false

def farB (x : Int) : Bool := decide (x < -100 ∨ 100 < x)
theorem far_eq (x : Int) : tones_far.f x = some (farB x) := by
  unfold tones_far.f farB
  split
  · simp; omega
  · congr 1
    simp; omega
theorem far_calls (x : Int) (b : Bool) (hb : farB x = b) (w : World) : Calls Tryd.prog 59 #[.int .i64 x] w fun e w' => e = .returned (.bool b) ∧ Drawn0 w w' := tones_far.calls x b w (by rw [far_eq, hb])
def zerosF (k : Nat) (l : List Int) (lo hi : Int) : Option (Int × Int) :=
  if askedF l = 0 then if l.length = 0 then some (0, 9) else if farB lo = true then some (0, 2) else if farB hi = true then some (0, 2) else if hi < lo then some (0, 2) else
    (chainF k k k l).bind fun s => (tones_sturm_changes.f k s lo).bind fun a => (tones_sturm_changes.f k s hi).bind fun b => some (wrap64 (a - b), 0)
  else some (0, askedF l)
set_option maxHeartbeats 4000000 in
set_option maxRecDepth 100000 in
theorem zeros_calls (k : Nat) (A0 : Option Addr) (c0 : Nat) (l : List Int) (lo hi r1 r2 : Int) (w : World) (hr0 : Kd.C (Kd.int .i64) w A0 l.length l) (hc0 : l.length ≤ c0) (h : zerosF k l lo hi = some (r1, r2)) :
    Calls Tryd.prog 25 #[.slice A0 l.length c0, .int .i64 lo, .int .i64 hi] w fun e w' => e = .returned (.tuple #[.int .i64 r1, .int .i64 r2]) ∧ Below w.heap.size w w' := by
  unfold zerosF at h
  have HC := Aside0.mk hr0
  have hlm := hr0.2.1
  clear hr0
  by_cases ha : askedF l = 0
  · rw [if_pos ha] at h
    have HA := Aside0.mk ha
    clear ha
    by_cases h0 : l.length = 0
    · rw [if_pos h0] at h
      injection h with h
      injection h with h1 h2
      subst h1
      subst h2
      have hz : ((l.length : Int) == 0) = true := by rw [h0]; rfl
      clear h0
      go_enter Tryd.func25, Tryd.ntmps25
      go_wp2_with (go_at_call 58; refine (asked_calls A0 c0 l 0 _ HC.out hc0 HA.out).mono ?_; rintro e w1 ⟨rfl, rfl⟩)
      go_ret2
      exact ⟨rfl, Below.refl _ _⟩
    · rw [if_neg h0] at h
      have hz : ((l.length : Int) == 0) = false := by simpa using h0
      clear h0
      cases hl1 : farB lo with
      | true =>
        rw [hl1, if_pos rfl] at h
        injection h with h
        injection h with h1 h2
        subst h1
        subst h2
        have HL1 := Aside0.mk hl1
        clear hl1
        go_enter Tryd.func25, Tryd.ntmps25
        go_wp2_with (first
          | (go_at_call 58; refine (asked_calls A0 c0 l 0 _ HC.out hc0 HA.out).mono ?_; rintro e w1 ⟨rfl, rfl⟩)
          | (go_at_call 59; refine (far_calls lo true HL1.out _).mono ?_; rintro e w1 ⟨rfl, ⟨n1, rfl⟩⟩))
        go_ret2
        exact ⟨rfl, by repeat (first | exact Below.refl _ _ | apply pw_below_drewN)⟩
      | false =>
        rw [hl1, if_neg (by decide)] at h
        have HL1 := Aside0.mk hl1
        clear hl1
        cases hl2 : farB hi with
        | true =>
          rw [hl2, if_pos rfl] at h
          injection h with h
          injection h with h1 h2
          subst h1
          subst h2
          have HL2 := Aside0.mk hl2
          clear hl2
          go_enter Tryd.func25, Tryd.ntmps25
          go_wp2_with (first
            | (go_at_call 58; refine (asked_calls A0 c0 l 0 _ HC.out hc0 HA.out).mono ?_; rintro e w1 ⟨rfl, rfl⟩)
            | (go_at_call 59; ((with_reducible refine (far_calls lo false HL1.out _).mono ?_); rintro e w1 ⟨rfl, ⟨n1, rfl⟩⟩))
            | (go_at_call 59; refine (far_calls hi true HL2.out _).mono ?_; rintro e w1 ⟨rfl, ⟨n2, rfl⟩⟩))
          go_ret2
          exact ⟨rfl, by repeat (first | exact Below.refl _ _ | apply pw_below_drewN)⟩
        | false =>
          rw [hl2, if_neg (by decide)] at h
          have HL2 := Aside0.mk hl2
          clear hl2
          by_cases hlt : hi < lo
          · rw [if_pos hlt] at h
            injection h with h
            injection h with h1 h2
            subst h1
            subst h2
            have d1 : decide (hi < lo) = true := decide_eq_true hlt
            go_enter Tryd.func25, Tryd.ntmps25
            go_wp2_with (first
              | (go_at_call 58; refine (asked_calls A0 c0 l 0 _ HC.out hc0 HA.out).mono ?_; rintro e w1 ⟨rfl, rfl⟩)
              | (go_at_call 59; ((with_reducible refine (far_calls lo false HL1.out _).mono ?_); rintro e w1 ⟨rfl, ⟨n1, rfl⟩⟩))
              | (go_at_call 59; refine (far_calls hi false HL2.out _).mono ?_; rintro e w1 ⟨rfl, ⟨n2, rfl⟩⟩))
            go_ret2
            exact ⟨rfl, by repeat (first | exact Below.refl _ _ | apply pw_below_drewN)⟩
          · rw [if_neg hlt] at h
            obtain ⟨s, hs, h1⟩ := Option.bind_eq_some_iff.1 h
            obtain ⟨a, hca, h2⟩ := Option.bind_eq_some_iff.1 h1
            obtain ⟨b, hcb, h3⟩ := Option.bind_eq_some_iff.1 h2
            injection h3 with h3
            injection h3 with h4 h5
            subst h4
            subst h5
            have HS := Aside0.mk hs
            have HCA := Aside0.mk hca
            have HCB := Aside0.mk hcb
            clear h h1 h2 hs hca hcb
            have d1 : decide (hi < lo) = false := decide_eq_false hlt
            go_enter Tryd.func25, Tryd.ntmps25
            go_wp2_with (first
              | (go_at_call 58; refine (asked_calls A0 c0 l 0 _ HC.out hc0 HA.out).mono ?_; rintro e w1 ⟨rfl, rfl⟩)
              | (go_at_call 59; ((with_reducible refine (far_calls lo false HL1.out _).mono ?_); rintro e w1 ⟨rfl, ⟨n1, rfl⟩⟩))
              | (go_at_call 59; refine (far_calls hi false HL2.out _).mono ?_; rintro e w1 ⟨rfl, ⟨n2, rfl⟩⟩)
              | (go_at_call 60; refine (chain_calls k k k A0 c0 l s _ (Kd.C_below HC.out (by repeat (first | exact Below.refl _ _ | apply pw_below_drewN))) hc0 HS.out).mono ?_; rintro e w2 ⟨v2, rfl, hN, hB⟩; have hb2 : Below w.heap.size w w2 := below_then (pw_below_drewN (Below.refl _ _) (n1 + n2)) (Nat.le_refl _) hB; have HB2 := Aside0.mk hb2; obtain ⟨A2, c2, e2, hl2, hC2⟩ := Kd.N_reads hN; subst e2; have HC2 := Aside0.mk hC2; clear hN hB hb2 hC2)
              | (go_at_call 61; ((with_reducible refine (tones_sturm_changes.calls k A2 c2 s lo a _ HC2.out hl2 HCA.out).mono ?_); rintro e w3 ⟨rfl, hB3⟩; have HB3 := Aside0.mk hB3; clear hB3))
              | (go_at_call 61; refine (tones_sturm_changes.calls k A2 c2 s hi b _ (Kd.C_below HC2.out HB3.out) hl2 HCB.out).mono ?_; rintro e w4 ⟨rfl, hB4⟩; have HB4 := Aside0.mk hB4; clear hB4))
            go_ret2
            exact ⟨rfl, below_then (below_then HB2.out HB2.out.size HB3.out) (Nat.le_trans HB2.out.size HB3.out.size) HB4.out⟩
  · rw [if_neg ha] at h
    injection h with h
    injection h with h1 h2
    subst h1
    obtain ⟨q, hq⟩ : ∃ q, askedF l = q := ⟨_, rfl⟩
    rw [hq] at h2 ha
    subst h2
    have HA := Aside0.mk hq
    have hz : (q == 0) = false := by simpa using ha
    clear hq ha
    go_enter Tryd.func25, Tryd.ntmps25
    go_wp2_with (go_at_call 58; refine (asked_calls A0 c0 l q _ HC.out hc0 HA.out).mono ?_; rintro e w1 ⟨rfl, rfl⟩)
    go_ret2
    exact ⟨rfl, Below.refl _ _⟩
end Go.Proofs.YtglalkenkmijkaaDoor.Hand
/- The contract of Zeros, in the printed form. -/
namespace Go.Proofs.YtglalkenkmijkaaDoor.Hand
open Go.RowKit Go.Proofs.YtglalkenkmijkaaDoorW.PrintWords Go.Proofs.YtglalkenkmijkaaDoorW.PrintLast Go.Proofs.YtglalkenkmijkaaDoorW.PrintMore
open PAll
theorem elF_mono (k : Nat) (q : List S87) (a b : S87) (s i : Nat) (x : S87) : LeO (elF k q a b s i x) (elF (k + 1) q a b s i x) :=
  LeO.bind (tones_big_times.mono _ _ _ _ _) fun _ => LeO.ite (LeO.bind (tones_big_times.mono _ _ _ _ _) fun _ => LeO.map _ (tones_big_plus.mono _ _ _ _ _)) (LeO.refl _)
theorem rowF_mono (k : Nat) (q : List S87) (a b : S87) (s : Nat) (l : List S87) : ∀ i, LeO (rowF k q a b s l i) (rowF (k + 1) q a b s l i)
  | 0 => LeO.refl _
  | i + 1 => LeO.bind (rowF_mono k q a b s l i) fun _ => LeO.map _ (elF_mono _ _ _ _ _ _ _)
theorem restL_mono (k : Nat) (q : List S87) (a : S87) : ∀ m l, LeO (restL k q a m l) (restL (k + 1) q a (m + 1) l)
  | 0, l => fun r h => by simp [restL] at h
  | m + 1, l => by
    rw [restL, restL]
    exact LeO.ite (LeO.bind (rowF_mono _ _ _ _ _ _ _) fun _ => restL_mono k q a m _) (LeO.refl _)
theorem restF_mono (k m : Nat) (p q : List S87) : LeO (restF k m p q) (restF (k + 1) (m + 1) p q) := by
  unfold restF
  exact LeO.ite (restL_mono _ _ _ _ _) (LeO.refl _)
theorem pTo_mono (k : Nat) (l : List Int) : ∀ i, LeO (pTo k l i) (pTo (k + 1) l i)
  | 0 => LeO.refl _
  | i + 1 => LeO.bind (pTo_mono k l i) fun _ => LeO.map _ (tones_whole.mono _ _)
theorem qTo_mono (k : Nat) (l : List Int) : ∀ i, LeO (qTo k l i) (qTo (k + 1) l i)
  | 0 => LeO.refl _
  | i + 1 => LeO.bind (qTo_mono k l i) fun _ => LeO.ite (LeO.map _ (tones_whole.mono _ _)) (LeO.refl _)
theorem chainL_mono (k m : Nat) : ∀ f p q out, LeO (chainL k m f p q out) (chainL (k + 1) (m + 1) (f + 1) p q out)
  | 0, p, q, out => fun r h => by simp [chainL] at h
  | f + 1, p, q, out => by
    rw [chainL, chainL]
    exact LeO.ite (LeO.bind (restF_mono _ _ _ _) fun _ => LeO.ite (chainL_mono k m f _ _ _) (LeO.refl _)) (LeO.refl _)
theorem chainF_mono (k m f : Nat) (l : List Int) : LeO (chainF k m f l) (chainF (k + 1) (m + 1) (f + 1) l) := by
  unfold chainF
  exact LeO.ite (LeO.bind (pTo_mono _ _ _) fun _ => LeO.bind (qTo_mono _ _ _) fun _ => chainL_mono _ _ _ _ _ _) (LeO.refl _)
end Go.Proofs.YtglalkenkmijkaaDoor.Hand
namespace Go.Proofs.YtglalkenkmijkaaDoor.PAll
open Go.RowKit Go.Proofs.YtglalkenkmijkaaDoorW.PrintWords Go.Proofs.YtglalkenkmijkaaDoorW.PrintLast Go.Proofs.YtglalkenkmijkaaDoorW.PrintMore
open Hand
def tones_Zeros.f (k : Nat) (l0 : List Int) (a1 a2 : Int) : Option (Int × Int) := zerosF k l0 a1 a2
theorem tones_Zeros.mono : ∀ a0 a1 a2 k, LeO (tones_Zeros.f k a0 a1 a2) (tones_Zeros.f (k + 1) a0 a1 a2) := by
  intro a0 a1 a2 k
  unfold tones_Zeros.f zerosF
  exact LeO.ite (LeO.ite (LeO.refl _) (LeO.ite (LeO.refl _) (LeO.ite (LeO.refl _) (LeO.ite (LeO.refl _) (LeO.bind (chainF_mono _ _ _ _) fun _ => LeO.bind (tones_sturm_changes.mono _ _ _) fun _ => LeO.bind (tones_sturm_changes.mono _ _ _) fun _ => LeO.refl _))))) (LeO.refl _)
theorem tones_Zeros.calls (k : Nat) (A0 : Option Addr) (c0 : Nat) (l0 : List Int) (a1 a2 r1 r2 : Int) (w : World) (hr0 : Kd.C (Kd.int .i64) w A0 l0.length l0) (hc0 : l0.length ≤ c0) (h : tones_Zeros.f k l0 a1 a2 = some (r1, r2)) :
    Calls Tryd.prog 25 #[.slice A0 l0.length c0, .int .i64 a1, .int .i64 a2] w fun e w' => e = .returned (.tuple #[.int .i64 r1, .int .i64 r2]) ∧ Below w.heap.size w w' := zeros_calls k A0 c0 l0 a1 a2 r1 r2 w hr0 hc0 h
/-- What the chapter's closed example asks of Zeros. -/
theorem zeros_ex : tones_Zeros.f 40 [-1, 0, 1] (-1) 1 = some (1, 0) := by decide +kernel
end Go.Proofs.YtglalkenkmijkaaDoor.PAll
/- slices.Equal at ints; the closure of Alike; Alike: walks. -/
namespace Go.Proofs.YtglalkenkmijkaaDoor.Hand
open Go.RowKit Go.Proofs.YtglalkenkmijkaaDoorW.PrintWords Go.Proofs.YtglalkenkmijkaaDoorW.PrintLast Go.Proofs.YtglalkenkmijkaaDoorW.PrintMore
set_option linter.unusedVariables false
set_option linter.unusedSimpArgs false

theorem ext_rd {l m : List Int} (hl : l.length = m.length) (h : ∀ j : Nat, j < l.length → rd l j = rd m j) : l = m := by
  apply List.ext_getElem hl
  intro i h1 h2
  have := h i h1
  simpa [rd, h1, h2] using this
set_option maxHeartbeats 4000000 in
set_option maxRecDepth 100000 in
theorem equal_calls (A0 : Option Addr) (c0 : Nat) (l0 : List Int) (A1 : Option Addr) (c1 : Nat) (l1 : List Int) (w : World) (h0 : Kd.C (Kd.int .i64) w A0 l0.length l0) (h1 : Kd.C (Kd.int .i64) w A1 l1.length l1) (hl : l0.length ≤ 1000) :
    Calls Tryd.prog 53 #[.slice A0 l0.length c0, .slice A1 l1.length c1] w fun e w' => e = .returned (.bool (decide (l0 = l1))) ∧ Drawn0 w w' := by
  have HC0 := Aside0.mk h0
  have HC1 := Aside0.mk h1
  clear h0 h1
  by_cases hlen : l0.length = l1.length
  · have hli : (l0.length : Int) = l1.length := by omega
    go_enter Tryd.func53, Tryd.ntmps53
    go_wp2_with fail
    go_loopg [13] l0.length (fun gk v13 W => ∃ k : Nat, k ≤ l0.length ∧ gk = l0.length - k ∧ v13 = .int .i64 k ∧ Aside0 (Drawn0 w W) ∧ Aside0 (∀ j : Nat, j < k → rd l0 j = rd l1 j))
    case atStart => exact ⟨0, by omega, rfl, rfl, ⟨Drawn0.refl _⟩, ⟨fun j hj => by omega⟩⟩
    case round =>
      obtain ⟨k, hk, rfl, rfl, HW, HI⟩ := hrel
      obtain ⟨n, rfl⟩ := HW.out.out
      clear HW
      by_cases hlt : k < l0.length
      · obtain ⟨ad, e, hel⟩ := Kd.at_int HC0.out k (by omega) (by omega)
        subst e
        obtain ⟨ad1, e, hel1⟩ := Kd.at_int HC1.out k (by omega) (by omega)
        subst e
        have hw0 : w.cell? (ad.add k) = some (.int .i64 (rd l0 k)) := by simpa using hel
        have hw1 : w.cell? (ad1.add k) = some (.int .i64 (rd l1 k)) := by simpa using hel1
        clear hel hel1
        have hk1 : (k : Int) < l1.length := by omega
        have hk0 : (k : Int) < l0.length := by omega
        have hkn : (0 : Int) ≤ k := by omega
        go_wp2_with fail
        go_quiet (fail)
        have HD := Aside0.mk ((Drawn0.refl w).step (n + nq))
        by_cases he : rd l0 k = rd l1 k
        · have hne : (rd l0 k != rd l1 k) = false := by simpa using he
          have hwk : IntKind.i64.wrap ((k : Int) + 1) = k + 1 := IntWalk.i64_in _ (by omega)
          rw [hne]
          have HE := Aside0.mk he
          clear he hne
          go_wp2_with fail
          go_roundg (l0.length - (k + 1))
          case measure => omega
          case rel => exact ⟨k + 1, by omega, rfl, by go_num, HD, ⟨fun j hj => if h : j = k then h ▸ HE.out else HI.out j (by omega)⟩⟩
        · have hne : (rd l0 k != rd l1 k) = true := by simpa using he
          rw [hne]
          have hd : decide (l0 = l1) = false := decide_eq_false (fun e => he (by rw [e]))
          clear he hne
          go_wp2_with fail
          go_ret
          exact ⟨by rw [hd]; rfl, ((Drawn0.refl w).step n).step nq⟩
      · have hke : k = l0.length := by omega
        subst hke
        have hd : decide (l0 = l1) = true := decide_eq_true (ext_rd hlen HI.out)
        have HD := Aside0.mk ((Drawn0.refl w).step n)
        go_wp2_with fail
        go_ret
        exact ⟨by rw [hd]; rfl, HD.out⟩
  · have hli : ¬ (l0.length : Int) = l1.length := by omega
    have hd : decide (l0 = l1) = false := decide_eq_false (fun e => hlen (by rw [e]))
    rw [hd]
    have d0 : ((l0.length : Int) != l1.length) = true := by simpa using hli
    go_enter Tryd.func53, Tryd.ntmps53
    go_wp2_with fail
    go_ret
    exact ⟨rfl, Drawn0.refl _⟩
end Go.Proofs.YtglalkenkmijkaaDoor.Hand
/- The closure of Alike; Alike: walks. -/
namespace Go.Proofs.YtglalkenkmijkaaDoor.Hand
open Go.RowKit Go.Proofs.YtglalkenkmijkaaDoorW.PrintWords Go.Proofs.YtglalkenkmijkaaDoorW.PrintLast Go.Proofs.YtglalkenkmijkaaDoorW.PrintMore
set_option linter.unusedVariables false
set_option linter.unusedSimpArgs false

attribute [local go_sem] field61_0 field59_0
set_option maxHeartbeats 4000000 in
set_option maxRecDepth 100000 in
theorem same_calls (k : Nat) (A0 : Option Addr) (c0 : Nat) (l0 : List Int) (A1 : Option Addr) (c1 : Nat) (l1 : List Int) (gw gr : Int → Int) (Gw Gr : FuncId) (x y : List Int) (bx by_ : Nat) (w : World) (hGw : IsFn Gw gw) (hGr : IsFn Gr gr) (hG : Glob w)
    (h0 : Kd.C (Kd.int .i64) w A0 l0.length l0) (h1 : Kd.C (Kd.int .i64) w A1 l1.length l1) (hc0 : l0.length ≤ c0) (hc1 : l1.length ≤ c1) (hf0 : isFr l0 = true) (hf1 : isFr l1 = true) (hx : ofF l0 gw gr k = some x) (hy : ofF l1 gw gr k = some y)
    (bX : w.cell? ⟨bx, 0, none⟩ = some (.slice A0 l0.length c0)) (bY : w.cell? ⟨by_, 0, none⟩ = some (.slice A1 l1.length c1)) :
    Calls Tryd.prog 52 #[.agg #[.func (.func Gw) #[] #[], .func (.func Gr) #[] #[]], .pointer (some ⟨bx, 0, none⟩), .pointer (some ⟨by_, 0, none⟩)] w fun e w' => e = .returned (.bool (decide (x = y))) ∧ Below w.heap.size w w' := by
  have HGw := Aside0.mk hGw
  have HGr := Aside0.mk hGr
  have HG := Aside0.mk hG
  have HC0 := Aside0.mk h0
  have HC1 := Aside0.mk h1
  have HF0 := Aside0.mk hf0
  have HF1 := Aside0.mk hf1
  have HX := Aside0.mk hx
  have HY := Aside0.mk hy
  have HBX := Aside0.mk bX
  have HBY := Aside0.mk bY
  clear hGw hGr hG h0 h1 hf0 hf1 hx hy
  go_enter Tryd.func52, Tryd.ntmps52
  go_wp2_with fail
  have tf := blk_new w (.cells #[.func (.func Gw) #[] #[], .func (.func Gr) #[] #[]] 57)
  have HT := Aside0.mk tf
  have hbxl : bx < w.heap.size := World.block_lt_of_cell? w ⟨bx, 0, none⟩ bX
  have hbyl : by_ < w.heap.size := World.block_lt_of_cell? w ⟨by_, 0, none⟩ bY
  have HLX := Aside0.mk hbxl
  have HLY := Aside0.mk hbyl
  have hk0 : (w.alloc (.cells #[.func (.func Gw) #[] #[], .func (.func Gr) #[] #[]] 57)).cell? ⟨bx, 0, none⟩ = some (.slice A0 l0.length c0) := (World.cell?_alloc_lt _ _ _ hbxl).trans bX
  have hk1 : (w.alloc (.cells #[.func (.func Gw) #[] #[], .func (.func Gr) #[] #[]] 57)).cell? ⟨by_, 0, none⟩ = some (.slice A1 l1.length c1) := (World.cell?_alloc_lt _ _ _ hbyl).trans bY
  have hk2 : (w.alloc (.cells #[.func (.func Gw) #[] #[], .func (.func Gr) #[] #[]] 57)).cell? ⟨w.heap.size, 0, none⟩ = some (.func (.func Gw) #[] #[]) := (blk_cell tf 0).trans rfl
  have hk3 : (w.alloc (.cells #[.func (.func Gw) #[] #[], .func (.func Gr) #[] #[]] 57)).cell? ⟨w.heap.size, 1, none⟩ = some (.func (.func Gr) #[] #[]) := (blk_cell tf 1).trans rfl
  clear tf bX bY hbxl hbyl
  go_region_held3 (fun w' => w'.cell? ⟨bx, 0, none⟩ = some (.slice A0 l0.length c0) ∧ w'.cell? ⟨by_, 0, none⟩ = some (.slice A1 l1.length c1) ∧ w'.cell? ⟨w.heap.size, 0, none⟩ = some (.func (.func Gw) #[] #[]) ∧ w'.cell? ⟨w.heap.size, 1, none⟩ = some (.func (.func Gr) #[] #[])) (first | exact ⟨hk0, hk1, hk2, hk3⟩ | go_keep)
    (first
      | (have hbq := HB2; clear hbq; go_at_call 54; refine (of_calls l1 gw gr k A1 c1 y Gw Gr _ HGw.out HGr.out (HG.out.of_below HB2.out) (Kd.C_below HC1.out HB2.out) hc1 (isFr_len HF1.out).2 (isFr_bounds HF1.out) HY.out).mono ?_; rintro e w3 ⟨v3, rfl, hR, hB⟩; obtain ⟨A3, c3, e3⟩ := Kd.R_slice hR; subst e3; have hb3 : Below w.heap.size w w3 := below_then HB2.out HB2.out.size hB; have hb13 : Below (w.heap.size + 1) _ w3 := below_then HB12.out (Nat.le_trans (by simp) HB12.out.size) hB; have HR2 := Aside0.mk (Kd.R_below HR2.out hB); have HB3 := Aside0.mk hb3; have HR3 := Aside0.mk hR; have hk0 : w3.cell? ⟨bx, 0, none⟩ = some (.slice A0 l0.length c0) := (hb3.cell HLX.out).trans HBX.out; have hk1 : w3.cell? ⟨by_, 0, none⟩ = some (.slice A1 l1.length c1) := (hb3.cell HLY.out).trans HBY.out; have tf := (hb13.block _ (Nat.lt_succ_self _)).trans HT.out; have hk2 : w3.cell? ⟨w.heap.size, 0, none⟩ = some (.func (.func Gw) #[] #[]) := (blk_cell tf 0).trans rfl; have hk3 : w3.cell? ⟨w.heap.size, 1, none⟩ = some (.func (.func Gr) #[] #[]) := (blk_cell tf 1).trans rfl; clear hR hB hb3 tf hb13)
      | (go_at_call 54; refine (of_calls l0 gw gr k A0 c0 x Gw Gr _ HGw.out HGr.out (HG.out.of_below (by with_reducible repeat (first | exact Below.refl _ _ | apply below_alloc | apply pw_below_drewN | apply below_drew1))) (Kd.C_below HC0.out (by with_reducible repeat (first | exact Below.refl _ _ | apply below_alloc | apply pw_below_drewN | apply below_drew1))) hc0 (isFr_len HF0.out).2 (isFr_bounds HF0.out) HX.out).mono ?_; rintro e w2 ⟨v2, rfl, hR, hB⟩; obtain ⟨A2, c2, e2⟩ := Kd.R_slice hR; subst e2; have hb2 : Below w.heap.size w w2 := below_then (by with_reducible repeat (first | exact Below.refl _ _ | apply below_alloc | apply pw_below_drewN | apply below_drew1)) (by simp) hB; have hb12 : Below (w.heap.size + 1) (w.alloc (.cells #[.func (.func Gw) #[] #[], .func (.func Gr) #[] #[]] 57)) w2 := below_then (by with_reducible repeat (first | exact Below.refl _ _ | apply pw_below_drewN | apply below_drew1)) (by simp) hB; have HB2 := Aside0.mk hb2; have HB12 := Aside0.mk hb12; have HR2 := Aside0.mk hR; have hk0 : w2.cell? ⟨bx, 0, none⟩ = some (.slice A0 l0.length c0) := (hb2.cell HLX.out).trans HBX.out; have hk1 : w2.cell? ⟨by_, 0, none⟩ = some (.slice A1 l1.length c1) := (hb2.cell HLY.out).trans HBY.out; have tf := (hb12.block _ (Nat.lt_succ_self _)).trans HT.out; have hk2 : w2.cell? ⟨w.heap.size, 0, none⟩ = some (.func (.func Gw) #[] #[]) := (blk_cell tf 0).trans rfl; have hk3 : w2.cell? ⟨w.heap.size, 1, none⟩ = some (.func (.func Gr) #[] #[]) := (blk_cell tf 1).trans rfl; clear hR hB hb2 tf hb12)
      | (go_at_call 53; refine (equal_calls A2 c2 x A3 c3 y w3 (Kd.R_reads' HR2.out).2.2 (Kd.R_reads' HR3.out).2.2 (by have := (isFr_len HF0.out).2; have := ofF_length HX.out; omega)).mono ?_; rintro e w4 ⟨rfl, ⟨⟨n4, rfl⟩⟩⟩)
      | (rw [field61_0]) | (rw [field59_0]))
  all_goals
    go_wp2_with fail
    go_ret
    exact ⟨rfl, by with_reducible repeat (first | exact HB3.out | apply pw_below_drewN | apply below_drew1)⟩

def alikeF (k : Nat) (a b : List Int) : Option (Bool × Bool × Int) :=
  if isFr a = true ∧ isFr b = true then (ofF a gneg gneg2 k).bind fun x => (ofF b gneg gneg2 k).bind fun y => (ofF a gneg gzero k).bind fun z => (ofF b gneg gzero k).bind fun t => some (decide (x = y), decide (z = t), 0) else some (false, false, 2)
set_option maxHeartbeats 4000000 in
set_option maxRecDepth 100000 in
theorem alike_calls (k : Nat) (A0 : Option Addr) (c0 : Nat) (l0 : List Int) (A1 : Option Addr) (c1 : Nat) (l1 : List Int) (r1 r2 : Bool) (r3 : Int) (w : World) (h0 : Kd.C (Kd.int .i64) w A0 l0.length l0) (hc0 : l0.length ≤ c0) (h1 : Kd.C (Kd.int .i64) w A1 l1.length l1) (hc1 : l1.length ≤ c1) (h : alikeF k l0 l1 = some (r1, r2, r3)) (hG : Glob w) :
    Calls Tryd.prog 18 #[.slice A0 l0.length c0, .slice A1 l1.length c1] w fun e w' => e = .returned (.tuple #[.bool r1, .bool r2, .int .i64 r3]) ∧ Below w.heap.size w w' := by
  unfold alikeF at h
  have HC0 := Aside0.mk h0
  have HC1 := Aside0.mk h1
  have HG := Aside0.mk hG
  clear h0 h1 hG
  by_cases hf : isFr l0 = true ∧ isFr l1 = true
  · rw [if_pos hf] at h
    obtain ⟨x, hx, h⟩ := Option.bind_eq_some_iff.1 h
    obtain ⟨y, hy, h⟩ := Option.bind_eq_some_iff.1 h
    obtain ⟨z, hz, h⟩ := Option.bind_eq_some_iff.1 h
    obtain ⟨t, ht, h⟩ := Option.bind_eq_some_iff.1 h
    have HE := Aside0.mk h
    have HX := Aside0.mk hx
    have HY := Aside0.mk hy
    have HZ := Aside0.mk hz
    have HT := Aside0.mk ht
    have HF0 := Aside0.mk hf.1
    have HQ0 := Aside0.mk trivial
    have HF1 := Aside0.mk hf.2
    clear h hx hy hz ht hf
    go_enter Tryd.func18, Tryd.ntmps18
    go_wp2_with (first
        | (have hq := HQ0; clear hq HQ0; go_at_call 51; refine (read_calls A0 c0 l0 _ HC0.out hc0).mono ?_; intro e w1 hh; unfold ReadP at hh; rw [HF0.out] at hh; obtain ⟨rfl, n1, rfl⟩ := hh)
        | (go_at_call 51; refine (read_calls A1 c1 l1 _ (Kd.C_below HC1.out HA.out) hc1).mono ?_; intro e w1 hh; unfold ReadP at hh; rw [HF1.out] at hh; obtain ⟨rfl, n2, rfl⟩ := hh)
        | ((with_reducible refine gate_dst (N := 7) rfl ?_); refine box_event ?hg (N := 7) ?hd (cs := #[.slice none 0 0]) (t := 52) ?hr ?_; (case hd => rfl); (case hg => rfl); (case hr => first | (go_simp; done) | (go_simp; rfl)); intro g7 hg w7 hbox hb; have hb7 : Below w.heap.size w w7 := below_then (pw_below_drewN (Below.refl _ _) _) (Nat.le_refl _) hb; have GW7 := Aside0.mk (show w.heap.size ≤ g7 by rw [hg]; exact Nat.le_refl _); have HA := Aside0.mk (hb7.setCell (p := ⟨g7, 0, none⟩) GW7.out (.slice A0 l0.length c0)); have BK7 := Aside0.mk (blk_put hbox 0 (.slice A0 l0.length c0) rfl); have z7 : w7.cell? ⟨g7, 0, none⟩ = some (.slice none 0 0) := (blk_cell hbox 0).trans rfl; have f7 := blk_frozen hbox 0; clear hb hbox hg hb7))
    have hX6 : (((w7.setCell ⟨g7, 0, none⟩ (.slice A0 l0.length c0)).drewN n2).alloc (.cells #[.slice A1 l1.length c1] 52)).heap[g7]? = some (.cells #[.slice A0 l0.length c0] 52 (0, 0)) := blk_alloc (blk_drewN BK7.out n2) _
    have hY6 : (((w7.setCell ⟨g7, 0, none⟩ (.slice A0 l0.length c0)).drewN n2).alloc (.cells #[.slice A1 l1.length c1] 52)).heap[w7.heap.size]? = some (.cells #[.slice A1 l1.length c1] 52 (0, 0)) := blk_new' _ (by simp)
    have hB6 : Below w.heap.size w (((w7.setCell ⟨g7, 0, none⟩ (.slice A0 l0.length c0)).drewN n2).alloc (.cells #[.slice A1 l1.length c1] 52)) := below_alloc (pw_below_drewN HA.out n2) _
    clear BK7 HA z7 f7
    generalize ((w7.setCell ⟨g7, 0, none⟩ (.slice A0 l0.length c0)).drewN n2).alloc (.cells #[.slice A1 l1.length c1] 52) = w6 at hX6 hY6 hB6 ⊢
    have BX6 := Aside0.mk hX6
    have BY6 := Aside0.mk hY6
    have HB6 := Aside0.mk hB6
    have hg6 := HG.out.of_below hB6
    have hk0 := hg6.sachs0
    have hk1 := hg6.sachs1
    have hk2 := hg6.matched0
    have hk3 := hg6.matched1
    clear hX6 hY6 hB6 hg6
    go_region_held3 (fun w' => w'.cell? ⟨0, 0, none⟩ = some (.func (.func 139) #[] #[]) ∧ w'.cell? ⟨0, 1, none⟩ = some (.func (.func 140) #[] #[]) ∧ w'.cell? ⟨1, 0, none⟩ = some (.func (.func 141) #[] #[]) ∧ w'.cell? ⟨1, 1, none⟩ = some (.func (.func 142) #[] #[])) (first | exact ⟨hk0, hk1, hk2, hk3⟩ | go_keep)
      (first
        | (have hbq := HBwa; clear hbq; go_at_call 52; refine (same_calls k A0 c0 l0 A1 c1 l1 gneg gzero 141 142 z t g7 w7.heap.size _ isFn141 isFn142 (HG.out.of_below HBwa.out) (Kd.C_below HC0.out HBwa.out) (Kd.C_below HC1.out HBwa.out) hc0 hc1 HF0.out HF1.out HZ.out HT.out ((blk_cell BXwa.out 0).trans rfl) ((blk_cell BYwa.out 0).trans rfl)).mono ?_; rintro e wb ⟨rfl, hB⟩; have hb : Below w.heap.size w wb := below_then HBwa.out HBwa.out.size hB; have hX : wb.heap[g7]? = _ := blk_below BXwa.out hB; have hY : wb.heap[w7.heap.size]? = _ := blk_below BYwa.out hB; have BXwb := Aside0.mk hX; have BYwb := Aside0.mk hY; have HBwb := Aside0.mk hb; have hg := HG.out.of_below hb; have hk0 := hg.sachs0; have hk1 := hg.sachs1; have hk2 := hg.matched0; have hk3 := hg.matched1; clear hB hb hX hY hg)
        | (go_at_call 52; refine (same_calls k A0 c0 l0 A1 c1 l1 gneg gneg2 139 140 x y g7 w7.heap.size _ isFn139 isFn140 (HG.out.of_below (below_drew1 HB6.out)) (Kd.C_below HC0.out (below_drew1 HB6.out)) (Kd.C_below HC1.out (below_drew1 HB6.out)) hc0 hc1 HF0.out HF1.out HX.out HY.out ((blk_cell BX6.out 0).trans rfl) ((blk_cell BY6.out 0).trans rfl)).mono ?_; rintro e wa ⟨rfl, hB⟩; have hb : Below w.heap.size w wa := below_then (below_drew1 HB6.out) (below_drew1 HB6.out).size hB; have hX : wa.heap[g7]? = _ := blk_below (blk_drew BX6.out) hB; have hY : wa.heap[w7.heap.size]? = _ := blk_below (blk_drew BY6.out) hB; have BXwa := Aside0.mk hX; have BYwa := Aside0.mk hY; have HBwa := Aside0.mk hb; have hg := HG.out.of_below hb; have hk0 := hg.sachs0; have hk1 := hg.sachs1; have hk2 := hg.matched0; have hk3 := hg.matched1; clear hB hb hX hY hg))
    all_goals
      go_wp2_with fail
      go_ret3
      have he := HE.out
      injection he with he
      injection he with e1 he
      injection he with e2 e3
      subst e1
      subst e2
      subst e3
      exact ⟨rfl, HBwb.out⟩
  · rw [if_neg hf] at h
    injection h with h
    injection h with e1 h
    injection h with e2 e3
    subst e1
    subst e2
    subst e3
    have HQ0 := Aside0.mk trivial
    cases hf0 : isFr l0 with
    | false =>
      have HF0 := Aside0.mk hf0
      clear hf0 hf
      cases hf1 : isFr l1 with
      | false =>
        have HF1 := Aside0.mk hf1
        clear hf1
        go_enter Tryd.func18, Tryd.ntmps18
        go_wp2_with (first
          | (have hq := HQ0; clear hq HQ0; go_at_call 51; refine (read_calls A0 c0 l0 _ HC0.out hc0).mono ?_; intro e w1 hh; unfold ReadP at hh; rw [HF0.out] at hh; obtain ⟨rfl, n1, rfl⟩ := hh)
          | (go_at_call 51; refine (read_calls A1 c1 l1 _ (Kd.C_below HC1.out HA.out) hc1).mono ?_; intro e w1 hh; unfold ReadP at hh; rw [HF1.out] at hh; obtain ⟨rfl, n2, rfl⟩ := hh)
          | ((with_reducible refine gate_dst (N := 7) rfl ?_); refine box_event ?hg (N := 7) ?hd (cs := #[.slice none 0 0]) (t := 52) ?hr ?_; (case hd => rfl); (case hg => rfl); (case hr => first | (go_simp; done) | (go_simp; rfl)); intro g7 hg w7 hbox hb; have hb7 : Below w.heap.size w w7 := below_then (pw_below_drewN (Below.refl _ _) _) (by simp) hb; have GW7 := Aside0.mk (show w.heap.size ≤ g7 by rw [hg]; exact Nat.le_refl _); have HA := Aside0.mk (hb7.setCell (p := ⟨g7, 0, none⟩) GW7.out (.slice none 0 0)); have z7 : w7.cell? ⟨g7, 0, none⟩ = some (.slice none 0 0) := (blk_cell hbox 0).trans rfl; have f7 := blk_frozen hbox 0; clear hb hbox hg hb7))
        go_ret3
        exact ⟨rfl, by repeat (first | (with_reducible exact HA.out) | (with_reducible apply below_alloc) | (with_reducible apply pw_below_drewN) | (with_reducible apply below_drew1))⟩
      | true =>
        have HF1 := Aside0.mk hf1
        clear hf1
        go_enter Tryd.func18, Tryd.ntmps18
        go_wp2_with (first
          | (have hq := HQ0; clear hq HQ0; go_at_call 51; refine (read_calls A0 c0 l0 _ HC0.out hc0).mono ?_; intro e w1 hh; unfold ReadP at hh; rw [HF0.out] at hh; obtain ⟨rfl, n1, rfl⟩ := hh)
          | (go_at_call 51; refine (read_calls A1 c1 l1 _ (Kd.C_below HC1.out HA.out) hc1).mono ?_; intro e w1 hh; unfold ReadP at hh; rw [HF1.out] at hh; obtain ⟨rfl, n2, rfl⟩ := hh)
          | ((with_reducible refine gate_dst (N := 7) rfl ?_); refine box_event ?hg (N := 7) ?hd (cs := #[.slice none 0 0]) (t := 52) ?hr ?_; (case hd => rfl); (case hg => rfl); (case hr => first | (go_simp; done) | (go_simp; rfl)); intro g7 hg w7 hbox hb; have hb7 : Below w.heap.size w w7 := below_then (pw_below_drewN (Below.refl _ _) _) (by simp) hb; have GW7 := Aside0.mk (show w.heap.size ≤ g7 by rw [hg]; exact Nat.le_refl _); have HA := Aside0.mk (hb7.setCell (p := ⟨g7, 0, none⟩) GW7.out (.slice none 0 0)); have z7 : w7.cell? ⟨g7, 0, none⟩ = some (.slice none 0 0) := (blk_cell hbox 0).trans rfl; have f7 := blk_frozen hbox 0; clear hb hbox hg hb7))
        go_ret3
        exact ⟨rfl, by repeat (first | (with_reducible exact HA.out) | (with_reducible apply below_alloc) | (with_reducible apply pw_below_drewN) | (with_reducible apply below_drew1))⟩
    | true =>
      have HF0 := Aside0.mk hf0
      have hf1 : isFr l1 = false := by
        cases h1 : isFr l1 with
        | false => rfl
        | true => exact absurd ⟨hf0, h1⟩ hf
      have HF1 := Aside0.mk hf1
      clear hf0 hf1 hf
      go_enter Tryd.func18, Tryd.ntmps18
      go_wp2_with (first
        | (have hq := HQ0; clear hq HQ0; go_at_call 51; refine (read_calls A0 c0 l0 _ HC0.out hc0).mono ?_; intro e w1 hh; unfold ReadP at hh; rw [HF0.out] at hh; obtain ⟨rfl, n1, rfl⟩ := hh)
        | (go_at_call 51; refine (read_calls A1 c1 l1 _ (Kd.C_below HC1.out HA.out) hc1).mono ?_; intro e w1 hh; unfold ReadP at hh; rw [HF1.out] at hh; obtain ⟨rfl, n2, rfl⟩ := hh)
        | ((with_reducible refine gate_dst (N := 7) rfl ?_); refine box_event ?hg (N := 7) ?hd (cs := #[.slice none 0 0]) (t := 52) ?hr ?_; (case hd => rfl); (case hg => rfl); (case hr => first | (go_simp; done) | (go_simp; rfl)); intro g7 hg w7 hbox hb; have hb7 : Below w.heap.size w w7 := below_then (pw_below_drewN (Below.refl _ _) _) (by simp) hb; have GW7 := Aside0.mk (show w.heap.size ≤ g7 by rw [hg]; exact Nat.le_refl _); have HA := Aside0.mk (hb7.setCell (p := ⟨g7, 0, none⟩) GW7.out (.slice A0 l0.length c0)); have z7 : w7.cell? ⟨g7, 0, none⟩ = some (.slice none 0 0) := (blk_cell hbox 0).trans rfl; have f7 := blk_frozen hbox 0; clear hb hbox hg hb7))
      go_ret3
      exact ⟨rfl, by repeat (first | (with_reducible exact HA.out) | (with_reducible apply below_alloc) | (with_reducible apply pw_below_drewN) | (with_reducible apply below_drew1))⟩
end Go.Proofs.YtglalkenkmijkaaDoor.Hand
/- The contract of Alike, in the printed form. -/
namespace Go.Proofs.YtglalkenkmijkaaDoor.PAll
open Go.RowKit Go.Proofs.YtglalkenkmijkaaDoorW.PrintWords Go.Proofs.YtglalkenkmijkaaDoorW.PrintLast Go.Proofs.YtglalkenkmijkaaDoorW.PrintMore
open Hand
def tones_Alike.f (k : Nat) (l0 l1 : List Int) : Option (Bool × Bool × Int) := alikeF k l0 l1
theorem tones_Alike.mono : ∀ a0 a1 k, LeO (tones_Alike.f k a0 a1) (tones_Alike.f (k + 1) a0 a1) := by
  intro a0 a1 k
  unfold tones_Alike.f alikeF
  exact LeO.ite (LeO.bind (ofF_mono _ _ _ _) fun _ => LeO.bind (ofF_mono _ _ _ _) fun _ => LeO.bind (ofF_mono _ _ _ _) fun _ => LeO.bind (ofF_mono _ _ _ _) fun _ => LeO.refl _) (LeO.refl _)
theorem tones_Alike.calls (k : Nat) (A0 : Option Addr) (c0 : Nat) (l0 : List Int) (A1 : Option Addr) (c1 : Nat) (l1 : List Int) (r1 r2 : Bool) (r3 : Int) (w : World) (hr0 : Kd.C (Kd.int .i64) w A0 l0.length l0) (hc0 : l0.length ≤ c0) (hr1 : Kd.C (Kd.int .i64) w A1 l1.length l1) (hc1 : l1.length ≤ c1) (h : tones_Alike.f k l0 l1 = some (r1, r2, r3)) (hG : Glob w := by first | exact HG.out | exact HG.out.of_below HB.out | exact HG.out.of_below (by repeat (first | (with_reducible first | exact HB.out | exact Below.refl _ _ | apply below_alloc | apply pw_below_drewN | apply below_drew1) | exact HB.out | refine below_set ?_ (by with_reducible assumption)))) :
    Calls Tryd.prog 18 #[.slice A0 l0.length c0, .slice A1 l1.length c1] w fun e w' => e = .returned (.tuple #[.bool r1, .bool r2, .int .i64 r3]) ∧ Below w.heap.size w w' := alike_calls k A0 c0 l0 A1 c1 l1 r1 r2 r3 w hr0 hc0 hr1 hc1 h hG
end Go.Proofs.YtglalkenkmijkaaDoor.PAll
/- The closed example of the layer (alive): a walk along one path. -/
namespace Go.Proofs.YtglalkenkmijkaaDoor.Hand
open Go.RowKit Go.Proofs.YtglalkenkmijkaaDoorW.PrintWords Go.Proofs.YtglalkenkmijkaaDoorW.PrintLast Go.Proofs.YtglalkenkmijkaaDoorW.PrintMore
open PAll
set_option linter.unusedVariables false
set_option linter.unusedSimpArgs false

/-- A slice that reads as these numbers. -/
def RC (w : World) (A : Option Addr) (c n : Nat) (l : List Int) : Prop := l.length = n ∧ Kd.C (Kd.int .i64) w A l.length l ∧ l.length ≤ c
theorem RC.below {w w' : World} {A : Option Addr} {c n : Nat} {l : List Int} (h : RC w A c n l) (hb : Below w.heap.size w w') : RC w' A c n l := ⟨h.1, Kd.C_below h.2.1 hb, h.2.2⟩
theorem RC.of_R {w : World} {base : Nat} {v : Value} {l : List Int} {n : Nat} (hn : l.length = n) (h : Kd.R (Kd.int .i64) 3 w base (fun _ => True) v l) : ∃ A c, v = .slice A n c ∧ RC w A c n l := by
  obtain ⟨A, c, e, hl, hC⟩ := Kd.R_reads h
  exact ⟨A, c, by rw [e, hn], hn, hC, hl⟩
theorem RC.lit (w : World) (l : List Int) (n : Nat) (hn : l.length = n) (hm : n ≤ 1000) (cs : Array Value) (hcs : cs = (l.map (Value.int .i64)).toArray) : RC (w.alloc (.cells cs 3)) (some ⟨w.heap.size, 0, none⟩) n n l := by
  subst hcs
  subst hn
  have h : (Kd.int .i64).R 3 (w.alloc (.cells (l.map (Value.int .i64)).toArray 3)) w.heap.size (fun _ => True) (.slice (some ⟨w.heap.size, 0, none⟩) l.length l.length) l := Kd.R_of_own (own_lit_of w w.heap.size 3 l (Nat.le_refl _) (by omega)) (fun _ _ => trivial)
  exact ⟨rfl, (Kd.R_reads' h).2.2, Nat.le_refl _⟩
theorem tones_at {l l' : List Int} {n n' : Nat} (hl : l'.length = n') (h : tones_Tones.f 300 l = some (l', 0)) {A : Option Addr} {c : Nat} {w : World} (hr : RC w A c n l) (hG : Glob w) :
    Calls Tryd.prog 21 #[.slice A n c] w fun e w' => ∃ A1 c1, e = .returned (.tuple #[.slice A1 n' c1, .int .i64 0]) ∧ RC w' A1 c1 n' l' ∧ Below w.heap.size w w' := by
  obtain ⟨rfl, hC, hc⟩ := hr
  refine (tones_Tones.calls 300 A c l l' 0 w hC hc h hG).mono ?_
  rintro e w' ⟨v, rfl, hR, hB⟩
  obtain ⟨A1, c1, rfl, h1⟩ := RC.of_R hl hR
  exact ⟨A1, c1, rfl, h1, hB⟩
theorem matchings_at {l l' : List Int} {n n' : Nat} (hl : l'.length = n') (h : tones_Matchings.f 300 l = some (l', 0)) {A : Option Addr} {c : Nat} {w : World} (hr : RC w A c n l) (hG : Glob w) :
    Calls Tryd.prog 23 #[.slice A n c] w fun e w' => ∃ A1 c1, e = .returned (.tuple #[.slice A1 n' c1, .int .i64 0]) ∧ RC w' A1 c1 n' l' ∧ Below w.heap.size w w' := by
  obtain ⟨rfl, hC, hc⟩ := hr
  refine (tones_Matchings.calls 300 A c l l' 0 w hC hc h hG).mono ?_
  rintro e w' ⟨v, rfl, hR, hB⟩
  obtain ⟨A1, c1, rfl, h1⟩ := RC.of_R hl hR
  exact ⟨A1, c1, rfl, h1, hB⟩
theorem same_at {l : List Int} {n : Nat} (h : clocheref08_Same.f 100 l l = some true) {A A' : Option Addr} {c c' : Nat} {w : World} (hr : RC w A c n l) (hr' : RC w A' c' n l) :
    Calls Tryd.prog 29 #[.slice A n c, .slice A' n c'] w fun e w' => e = .returned (.bool true) ∧ Drawn0 w w' := by
  obtain ⟨rfl, hC, hc⟩ := hr
  exact clocheref08_Same.calls 100 A c l A' c' l true w hC hc hr'.2.1 hr'.2.2 h
theorem star_at (w : World) : Calls Tryd.prog 49 #[] w fun e w' => ∃ A c, e = .returned (.slice A 5 c) ∧ RC w' A c 5 [30, 1, 1, 1, 1] ∧ Below w.heap.size w w' := by
  refine (clochelaw08_star.calls _ w rfl).mono ?_
  rintro e w' ⟨v, rfl, hR, hB⟩
  obtain ⟨A1, c1, rfl, h1⟩ := RC.of_R (n := 5) rfl hR
  exact ⟨A1, c1, rfl, h1, hB⟩
theorem ring_at (w : World) : Calls Tryd.prog 50 #[] w fun e w' => ∃ A c, e = .returned (.slice A 5 c) ∧ RC w' A c 5 [10, 5, 10, 5, 0] ∧ Below w.heap.size w w' := by
  refine (clochelaw08_ring.calls _ w rfl).mono ?_
  rintro e w' ⟨v, rfl, hR, hB⟩
  obtain ⟨A1, c1, rfl, h1⟩ := RC.of_R (n := 5) rfl hR
  exact ⟨A1, c1, rfl, h1, hB⟩
theorem ex1 : tones_Tones.f 300 [6, 5, 3] = some ([-2, -3, 0, 1], 0) := by decide +kernel
theorem ex2 : tones_Matchings.f 300 [6, 5, 3] = some ([0, -3, 0, 1], 0) := by decide +kernel
theorem ex3 : tones_Tones.f 300 [30, 1, 1, 1, 1] = some ([0, 0, 0, -4, 0, 1], 0) := by decide +kernel
theorem ex4 : tones_Figures.f 300 [6, 5, 3] 3 = some (-2, 1, 0) := by decide +kernel
theorem ex5 : tones_Alike.f 300 [30, 1, 1, 1, 1] [10, 5, 10, 5, 0] = some (true, false, 0) := by decide +kernel
theorem ex6 : clocheref08_Same.f 100 [-2, -3, 0, 1] [-2, -3, 0, 1] = some true := by decide +kernel
theorem ex7 : clocheref08_Same.f 100 [0, -3, 0, 1] [0, -3, 0, 1] = some true := by decide +kernel
theorem ex8 : clocheref08_Same.f 100 [0, 0, 0, -4, 0, 1] [0, 0, 0, -4, 0, 1] = some true := by decide +kernel
theorem zeros_at {A : Option Addr} {c : Nat} {w : World} (hr : RC w A c 3 [-1, 0, 1]) : Calls Tryd.prog 25 #[.slice A 3 c, .int .i64 (-1), .int .i64 1] w fun e w' => e = .returned (.tuple #[.int .i64 1, .int .i64 0]) ∧ Below w.heap.size w w' :=
  tones_Zeros.calls 40 A c [-1, 0, 1] (-1) 1 1 0 w hr.2.1 hr.2.2 zeros_ex
theorem figures_at {A : Option Addr} {c : Nat} {w : World} (hr : RC w A c 3 [6, 5, 3]) (hG : Glob w) : Calls Tryd.prog 22 #[.slice A 3 c, .int .i64 3] w fun e w' => e = .returned (.tuple #[.int .i64 (-2), .int .i64 1, .int .i64 0]) ∧ Below w.heap.size w w' :=
  tones_Figures.calls 300 A c [6, 5, 3] 3 (-2) 1 0 w hr.2.1 hr.2.2 ex4 hG
theorem alike_at {A A' : Option Addr} {c c' : Nat} {w : World} (hr : RC w A c 5 [30, 1, 1, 1, 1]) (hr' : RC w A' c' 5 [10, 5, 10, 5, 0]) (hG : Glob w) : Calls Tryd.prog 18 #[.slice A 5 c, .slice A' 5 c'] w fun e w' => e = .returned (.tuple #[.bool true, .bool false, .int .i64 0]) ∧ Below w.heap.size w w' :=
  tones_Alike.calls 300 A c [30, 1, 1, 1, 1] A' c' [10, 5, 10, 5, 0] true false 0 w hr.2.1 hr.2.2 hr'.2.1 hr'.2.2 ex5 hG
/-- What is held at a world of alive. -/
structure AI (w W : World) : Prop where
  glob : Glob W
  below : Below w.heap.size w W
theorem AI.step {w W W' : World} (h : AI w W) (hb : Below W.heap.size W W') : AI w W' := ⟨h.glob.of_below hb, below_then h.below h.below.size hb⟩
theorem AI.alloc {w W : World} (h : AI w W) (o : Obj) : AI w (W.alloc o) := h.step (below_alloc (Below.refl _ _) o)
theorem below_al (W : World) (o : Obj) : Below W.heap.size W (W.alloc o) := below_alloc (Below.refl _ _) o

theorem sameL1 {W : World} {A : Option Addr} {c : Nat} {g : Nat} (hg : g = W.heap.size) (h : RC W A c 4 [-2, -3, 0, 1]) : Calls Tryd.prog 29 #[.slice A 4 c, .slice (some ⟨g, 0, none⟩) 4 4] (W.alloc (.cells #[.int .i64 (-2), .int .i64 (-3), .int .i64 0, .int .i64 1] 3)) fun e w' => e = .returned (.bool true) ∧ Drawn0 (W.alloc (.cells #[.int .i64 (-2), .int .i64 (-3), .int .i64 0, .int .i64 1] 3)) w' := hg ▸ same_at ex6 (h.below (below_al _ _)) (RC.lit _ [-2, -3, 0, 1] 4 rfl (by decide) _ rfl)
theorem sameL2 {W : World} {A : Option Addr} {c : Nat} {g : Nat} (hg : g = W.heap.size) (h : RC W A c 4 [0, -3, 0, 1]) : Calls Tryd.prog 29 #[.slice A 4 c, .slice (some ⟨g, 0, none⟩) 4 4] (W.alloc (.cells #[.int .i64 0, .int .i64 (-3), .int .i64 0, .int .i64 1] 3)) fun e w' => e = .returned (.bool true) ∧ Drawn0 (W.alloc (.cells #[.int .i64 0, .int .i64 (-3), .int .i64 0, .int .i64 1] 3)) w' := hg ▸ same_at ex7 (h.below (below_al _ _)) (RC.lit _ [0, -3, 0, 1] 4 rfl (by decide) _ rfl)
theorem sameL3 {W : World} {A : Option Addr} {c : Nat} {g : Nat} (hg : g = W.heap.size) (h : RC W A c 6 [0, 0, 0, -4, 0, 1]) : Calls Tryd.prog 29 #[.slice A 6 c, .slice (some ⟨g, 0, none⟩) 6 6] (W.alloc (.cells #[.int .i64 0, .int .i64 0, .int .i64 0, .int .i64 (-4), .int .i64 0, .int .i64 1] 3)) fun e w' => e = .returned (.bool true) ∧ Drawn0 (W.alloc (.cells #[.int .i64 0, .int .i64 0, .int .i64 0, .int .i64 (-4), .int .i64 0, .int .i64 1] 3)) w' := hg ▸ same_at ex8 (h.below (below_al _ _)) (RC.lit _ [0, 0, 0, -4, 0, 1] 6 rfl (by decide) _ rfl)
set_option maxHeartbeats 20000000 in
set_option maxRecDepth 100000 in
theorem alive_calls (w : World) (hG : Glob w) : Calls Tryd.prog 17 #[] w fun e w' => e = .returned (.bool true) ∧ Below w.heap.size w w' := by
  have A0 := Aside0.mk (show AI w w from ⟨hG, Below.refl _ _⟩)
  have hu := Tryd.underlying22
  clear hG
  go_enter Tryd.func17, Tryd.ntmps17
  go_upto_region 2 with (go_at_call 21; refine (tones_at rfl ex1 (RC.lit _ [6, 5, 3] 3 rfl (by decide) _ rfl) (A0.out.alloc _).glob).mono ?_; rintro e w1 ⟨T1, t1, rfl, h1, hb⟩; have H1 := Aside0.mk h1; have A1 := Aside0.mk ((A0.out.alloc _).step hb); clear h1 hb)
  go_upto_region 3 with (go_at_call 23; refine (matchings_at rfl ex2 (RC.lit _ [6, 5, 3] 3 rfl (by decide) _ rfl) (A1.out.alloc _).glob).mono ?_; rintro e w2 ⟨T2, t2, rfl, h2, hb⟩; have H2 := Aside0.mk h2; have B2 := Aside0.mk (below_then (below_al _ _) (below_al _ _).size hb); have A2 := Aside0.mk (A1.out.step B2.out); clear h2 hb)
  go_upto_region 4 with (first
    | (go_at_call 49; refine (star_at _).mono ?_; rintro e w3 ⟨S3, s3, rfl, h3, hb⟩; have G3 := Aside0.mk h3; have A3 := Aside0.mk (A2.out.step hb); have B3 := Aside0.mk hb; clear h3 hb)
    | (go_at_call 21; refine (tones_at rfl ex3 G3.out A3.out.glob).mono ?_; rintro e w4 ⟨T4, t4, rfl, h4, hb⟩; have H4 := Aside0.mk h4; have A4 := Aside0.mk (A3.out.step hb); have B4 := Aside0.mk (below_then B3.out B3.out.size hb); clear h4 hb))
  go_upto_region 5 with (go_at_call 22; refine (figures_at (RC.lit _ [6, 5, 3] 3 rfl (by decide) _ rfl) (A4.out.alloc _).glob).mono ?_; rintro e w5 ⟨rfl, hb⟩; have B5 := Aside0.mk (below_then (below_al _ _) (below_al _ _).size hb); have A5 := Aside0.mk (A4.out.step B5.out); clear hb)
  go_upto_region 6 with (go_at_call 25; refine (zeros_at (RC.lit _ [-1, 0, 1] 3 rfl (by decide) _ rfl)).mono ?_; rintro e w6 ⟨rfl, hb⟩; have B6 := Aside0.mk (below_then (below_al _ _) (below_al _ _).size hb); have A6 := Aside0.mk (A5.out.step B6.out); clear hb)
  go_upto_region 7 with (first
    | (go_at_call 49; refine (star_at _).mono ?_; rintro e w7 ⟨S7, s7, rfl, h7, hb⟩; have G7 := Aside0.mk h7; have A7 := Aside0.mk (A6.out.step hb); have B7 := Aside0.mk hb; clear h7 hb)
    | (go_at_call 50; refine (ring_at _).mono ?_; rintro e w8 ⟨S8, s8, rfl, h8, hb⟩; have G8 := Aside0.mk h8; have A8 := Aside0.mk (A7.out.step hb); have G7' := Aside0.mk (G7.out.below hb); have B8 := Aside0.mk (below_then B7.out B7.out.size hb); clear h8 hb)
    | (go_at_call 18; refine (alike_at G7'.out G8.out A8.out.glob).mono ?_; rintro e w9 ⟨rfl, hb⟩; have A9 := Aside0.mk (A8.out.step hb); have B9 := Aside0.mk (below_then B8.out B8.out.size hb); clear hb))
  have R1 := Aside0.mk (((((H1.out.below B2.out).below B4.out).below B5.out).below B6.out).below B9.out)
  have R2 := Aside0.mk ((((H2.out.below B4.out).below B5.out).below B6.out).below B9.out)
  have R4 := Aside0.mk (((H4.out.below B5.out).below B6.out).below B9.out)
  clear H1 H2 H4 G3 G7 G7' G8 A0 A1 A2 A3 A4 A5 A6 A7 A8 B2 B3 B4 B5 B6 B7 B8 B9
  go_wp2_with (first
    | (go_at_call 29; ((with_reducible refine (sameL1 (by first | rfl | simp) (R1.out.below (by repeat (first | (with_reducible exact Below.refl _ _) | apply below_alloc | apply pw_below_drewN)))).mono ?_); rintro e w10 ⟨rfl, ⟨n1, rfl⟩⟩))
    | (go_at_call 29; ((with_reducible refine (sameL2 (by first | rfl | simp) (R2.out.below (by repeat (first | (with_reducible exact Below.refl _ _) | apply below_alloc | apply pw_below_drewN)))).mono ?_); rintro e w10 ⟨rfl, ⟨n2, rfl⟩⟩))
    | (go_at_call 29; ((with_reducible refine (sameL3 (by first | rfl | simp) (R4.out.below (by repeat (first | (with_reducible exact Below.refl _ _) | apply below_alloc | apply pw_below_drewN)))).mono ?_); rintro e w10 ⟨rfl, ⟨n3, rfl⟩⟩)))
  go_ret
  exact ⟨rfl, by repeat (first | exact A9.out.below | apply below_alloc | apply pw_below_drewN)⟩
end Go.Proofs.YtglalkenkmijkaaDoor.Hand
/- The contract of alive, in the printed form. -/
namespace Go.Proofs.YtglalkenkmijkaaDoor.PAll
open Go.RowKit Go.Proofs.YtglalkenkmijkaaDoorW.PrintWords Go.Proofs.YtglalkenkmijkaaDoorW.PrintLast Go.Proofs.YtglalkenkmijkaaDoorW.PrintMore
open Hand
def clochelaw08_alive.f : Option Bool := some true
theorem clochelaw08_alive.calls (r : Bool) (w : World) (h : clochelaw08_alive.f = some r) (hG : Glob w := by first | exact HG.out | exact HG.out.of_below HB.out | exact HG.out.of_below (by repeat (first | (with_reducible first | exact HB.out | exact Below.refl _ _ | apply below_alloc | apply pw_below_drewN | apply below_drew1) | exact HB.out | refine below_set ?_ (by with_reducible assumption)))) :
    Calls Tryd.prog 17 #[] w fun e w' => e = .returned (.bool r) ∧ Below w.heap.size w w' := by
  have hr : r = true := by simpa [clochelaw08_alive.f] using h.symm
  subst hr
  exact alive_calls w hG
end Go.Proofs.YtglalkenkmijkaaDoor.PAll
