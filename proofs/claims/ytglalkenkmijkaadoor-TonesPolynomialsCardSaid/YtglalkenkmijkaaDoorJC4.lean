/- The common part 4 of the tones claims: walks over the program's text up to the layer's closed example, sums over figures, the listed variables; joined by a program. No condition beyond the statement's own. -/
import Derived.Test.YtglalkenkmijkaaDoorJC3
import Derived.OwnWalk
/- Figures: the walk. -/
namespace Go.Proofs.YtglalkenkmijkaaDoor.Hand
open Go.RowKit Go.Proofs.YtglalkenkmijkaaDoorW.PrintWords Go.Proofs.YtglalkenkmijkaaDoorW.PrintLast Go.Proofs.YtglalkenkmijkaaDoorW.PrintMore
set_option linter.unusedVariables false
set_option linter.unusedSimpArgs false

def figuresF (k m : Nat) (l : List Int) (n : Int) : Option (Int × Int × Int) :=
  if isFr l = true ∧ 0 ≤ n ∧ n ≤ l.length then (ofF l gneg gneg2 k).bind fun x => (ofF l gid gid m).bind fun y => some (rd x (l.length - n), rd y (l.length - n), 0) else some (0, 0, 2)

theorem ofF_length {f : List Int} {gw gr : Int → Int} {m : Nat} {r : List Int} (h : ofF f gw gr m = some r) : r.length = f.length + 1 := by
  unfold ofF at h
  split at h
  · obtain ⟨l, _, h⟩ := Option.bind_eq_some_iff.1 h
    split at h
    · injection h with h
      rw [← h, setsTo_length]
    · simp at h
  · simp at h
theorem row_at {W : World} {ok : Nat → Prop} {base : Nat} {A : Option Addr} {c n : Nat} {xs : List Int} (h : Kd.R (Kd.int .i64) 3 W base ok (.slice A n c) xs) (i : Int) (h0 : 0 ≤ i) (h1 : i < xs.length) : ∃ ad, A = some ad ∧ W.cell? (ad.add i.toNat) = some (.int .i64 (rd xs i)) ∧ ad.block < W.heap.size :=
  (Kd.at_int (Kd.R_reads' h).2.2 i h0 h1).imp fun ad q => ⟨q.1, q.2, by have := World.block_lt_of_cell? W (ad.add i.toNat) q.2; rwa [add_block] at this⟩
theorem row_ne {W : World} {ok : Nat → Prop} {base : Nat} {ad : Addr} {c n g : Nat} {xs : List Int} {cs : Array Value} (h : Kd.R (Kd.int .i64) 3 W base ok (.slice (some ad) n c) xs) (ht : W.heap[g]? = some (.cells cs 61 (0, 0))) : ad.block ≠ g ∧ g ≠ ad.block := by
  have := Kd.R_ne h ht (by decide)
  have e : (Value.slice (some ad) n c).ownBlock = some ad.block := rfl
  rw [e] at this
  exact ⟨fun q => this (congrArg some q.symm), fun q => this (congrArg some q)⟩
theorem blk_set_far {W : World} {g : Nat} {o : Obj} {p : Addr} (u : Value) (hp : p.block ≠ g) (h : W.heap[g]? = some o) : (W.setCell p u).heap[g]? = some o := by
  simp only [World.setCell]
  rw [Array.getElem?_modify, if_neg hp]
  exact h
theorem blk_new' {W : World} {n : Nat} (o : Obj) (h : W.heap.size = n) : (W.alloc o).heap[n]? = some o := h ▸ blk_new W o
theorem size_set2 (W : World) (p q : Addr) (u v : Value) : ((W.setCell p u).setCell q v).heap.size = W.heap.size := by simp [World.setCell]
theorem cell_set_far {W : World} {a p : Addr} {v : Value} (u : Value) (hp : p.block ≠ a.block) (h : W.cell? a = some v) : (W.setCell p u).cell? a = some v := (World.cell?_setCell_far W p a u hp).trans h
theorem cell_alloc_far {W : World} {a : Addr} {v : Value} (o : Obj) (h : W.cell? a = some v) : (W.alloc o).cell? a = some v := (World.cell?_alloc_some W a o (by rw [h]; rfl)).trans h
theorem box_put2 {W : World} {g : Nat} (h : W.heap[g]? = some (.cells #[.slice none 0 0, .int .i64 0] 61 (0, 0))) (s : Value) (n : Int) : ((W.setCell ⟨g, 0, none⟩ s).setCell ⟨g, 1, none⟩ (.int .i64 n)).heap[g]? = some (.cells #[s, .int .i64 n] 61 (0, 0)) := blk_put (blk_put h 0 _ rfl) 1 _ rfl
set_option maxHeartbeats 40000000 in
set_option maxRecDepth 100000 in
theorem figures_calls (k m : Nat) (A0 : Option Addr) (c0 : Nat) (l0 : List Int) (a1 r1 r2 r3 : Int) (w : World) (hr0 : Kd.C (Kd.int .i64) w A0 l0.length l0) (hc0 : l0.length ≤ c0) (h : figuresF k m l0 a1 = some (r1, r2, r3)) (hG : Glob w) :
    Calls Tryd.prog 22 #[.slice A0 l0.length c0, .int .i64 a1] w fun e w' => e = .returned (.tuple #[.int .i64 r1, .int .i64 r2, .int .i64 r3]) ∧ Below w.heap.size w w' := by
  unfold figuresF at h
  by_cases hf : isFr l0 = true ∧ 0 ≤ a1 ∧ a1 ≤ l0.length
  · rw [if_pos hf] at h
    obtain ⟨x, ho, h⟩ := Option.bind_eq_some_iff.1 h
    obtain ⟨y, ho2, h⟩ := Option.bind_eq_some_iff.1 h
    obtain ⟨hf, h0, h1⟩ := hf
    have hl := isFr_len hf
    have HE := Aside0.mk h
    have HC := Aside0.mk hr0
    have HG := Aside0.mk hG
    have HF := Aside0.mk hf
    have HO := Aside0.mk ho
    have HO2 := Aside0.mk ho2
    have g0 := hG.sachs0
    have g1 := hG.sachs1
    have d0 : decide (a1 < 0) = false := by simpa using h0
    have d1 : decide ((l0.length : Int) < a1) = false := by simpa using h1
    have hG2 := hG
    have kw0 : w.heap.size ≠ 0 := by have := hG.size; omega
    have jw0 : 0 ≠ w.heap.size := Ne.symm kw0
    have kw1 : w.heap.size ≠ 1 := by have := hG.size; omega
    have jw1 : 1 ≠ w.heap.size := Ne.symm kw1
    have kw2 : w.heap.size ≠ 2 := by have := hG.size; omega
    have jw2 : 2 ≠ w.heap.size := Ne.symm kw2
    clear h hr0 hG hf ho ho2
    go_enter Tryd.func22, Tryd.ntmps22
    go_wp2_with (first
        | (go_at_call 51; refine (read_calls A0 c0 l0 _ HC.out hc0).mono ?_; intro e w1 hh; unfold ReadP at hh; rw [HF.out] at hh; obtain ⟨rfl, n1, rfl⟩ := hh))
    have g2 := hG2.many0
    have g3 := hG2.many1
    clear hG2
    have hlx := ofF_length HO.out
    have hly := ofF_length HO2.out
    have hwr : IntKind.i64.wrap ((l0.length : Int) - a1) = l0.length - a1 := IntWalk.i64_in _ (by omega)
    have hj0 : (0 : Int) ≤ l0.length - a1 := by omega
    have hj1 : (l0.length : Int) - a1 < l0.length + 1 := by omega
    rename_i K hK
    have tail : ∀ (g g' : Nat) (ad2 ad3 : Addr) (c2 c3 : Nat) (W : World), W.heap[g]? = some (.cells #[.slice (some ad2) (l0.length + 1) c2, .int .i64 l0.length] 61 (0, 0)) → W.heap[g']? = some (.cells #[.slice (some ad3) (l0.length + 1) c3, .int .i64 l0.length] 61 (0, 0)) → W.cell? (ad2.add ((l0.length : Int) - a1).toNat) = some (.int .i64 (rd x (l0.length - a1))) → W.cell? (ad3.add ((l0.length : Int) - a1).toNat) = some (.int .i64 (rd y (l0.length - a1))) → Below w.heap.size w W →
        K ⟨#[Value.slice A0 l0.length c0, Value.int IntKind.i64 a1, undef, undef, Value.int IntKind.i64 0,
          Value.int IntKind.i64 0, Value.int IntKind.i64 0, Value.slice A0 l0.length c0, Value.bool true,
          Value.pointer (some { block := g, off := 0 }),
          Value.pointer (some { block := g', off := 0 }),
          Value.tuple #[Value.slice A0 l0.length c0, Value.bool true], Value.slice A0 l0.length c0,
          Value.tuple #[Value.slice A0 l0.length c0, Value.bool true], Value.slice A0 l0.length c0, Value.bool true,
          Value.bool true, Value.bool false, Value.bool false, Value.int IntKind.i64 a1, Value.bool false,
          Value.bool false, Value.bool false, Value.int IntKind.i64 a1, Value.slice A0 l0.length c0,
          Value.int IntKind.i64 ↑l0.length, Value.bool false, Value.bool false, Value.slice A0 l0.length c0,
          Value.agg #[Value.func (Fn.func 139) #[] #[], Value.func (Fn.func 140) #[] #[]],
          Value.agg #[Value.slice (some ad2) (l0.length + 1) c2, Value.int IntKind.i64 ↑l0.length], Value.slice A0 l0.length c0,
          Value.agg #[Value.func (Fn.func 143) #[] #[], Value.func (Fn.func 144) #[] #[]],
          Value.agg #[Value.slice (some ad3) (l0.length + 1) c3, Value.int IntKind.i64 ↑l0.length], undef, undef, undef, undef, undef,
          undef, undef, undef, undef, undef, undef, undef, undef, undef, undef, undef, undef, undef], []⟩ W := by
      intro g g' ad2 ad3 c2 c3 W t0 t2 z4 z5 hB
      have z0 := (blk_cell t0 0).trans rfl
      have z1 := (blk_cell t0 1).trans rfl
      have z2 := (blk_cell t2 0).trans rfl
      have z3 := (blk_cell t2 1).trans rfl
      clear t0 t2
      have HB := Aside0.mk hB
      clear hB g0 g1 g2 g3
      apply hK
      go_wp2_with fail
      go_quiet (fail)
      go_wp2_with fail
      go_ret3
      have he := HE.out
      injection he with he
      injection he with e1 he
      injection he with e2 e3
      subst e1
      subst e2
      subst e3
      exact ⟨rfl, by repeat (first | exact HB.out | apply pw_below_drewN | apply below_drew1)⟩
    go_region_held3 (fun w' => w'.cell? ⟨0, 0, none⟩ = some (.func (.func 139) #[] #[]) ∧ w'.cell? ⟨0, 1, none⟩ = some (.func (.func 140) #[] #[]) ∧ w'.cell? ⟨2, 0, none⟩ = some (.func (.func 143) #[] #[]) ∧ w'.cell? ⟨2, 1, none⟩ = some (.func (.func 144) #[] #[])) (first | exact ⟨hk0, hk1, hk2, hk3⟩ | go_keep)
      (first
        | (have hbq := HB2; clear hbq; go_at_call 54; refine (of_calls l0 gid gid m A0 c0 y 143 144 _ isFn143 isFn144 (HG.out.of_below (by repeat (first | exact HB2.out | apply below_alloc | apply pw_below_drewN | apply below_drew1))) (Kd.C_below HC.out (by repeat (first | exact HB2.out | apply below_alloc | apply pw_below_drewN | apply below_drew1))) hc0 hl.2 (isFr_bounds HF.out) HO2.out).mono ?_; rintro e w3 ⟨v3, rfl, hR, hB⟩; obtain ⟨A3, c3, e3⟩ := Kd.R_slice hR; subst e3; have hb3 : Below w.heap.size w w3 := below_then (by repeat (first | exact HB2.out | apply below_alloc | apply pw_below_drewN | apply below_drew1)) (below_size (by repeat (first | exact HB2.out | apply below_alloc | apply pw_below_drewN | apply below_drew1))) hB; (try (have tp : w3.heap[w.heap.size]? = some (.cells #[.slice none 0 0, .int .i64 0] 61 (0, 0)) := blk_below (g := w.heap.size) (o := .cells #[.slice none 0 0, .int .i64 0] 61 (0, 0)) (by (with_reducible repeat (first | refine blk_drewN ?_ _ | refine blk_drew ?_ | refine blk_alloc ?_ _)); exact Bp.out) hB; have Bp := Aside0.mk tp; have zp0 : w3.cell? ⟨w.heap.size, 0, none⟩ = some (.slice none 0 0) := (blk_cell tp 0).trans rfl; have zp1 : w3.cell? ⟨w.heap.size, 1, none⟩ = some (.int .i64 0) := (blk_cell tp 1).trans rfl; have fp0 := blk_frozen tp 0; have fp1 := blk_frozen tp 1; have lp : w.heap.size < w3.heap.size := blk_lt tp; have np : w.heap.size ≠ w3.heap.size := Nat.ne_of_lt lp; have mp : w3.heap.size ≠ w.heap.size := Nat.ne_of_gt lp; clear tp)); (try (have tq : w3.heap[w.heap.size + 1]? = some (.cells #[.slice none 0 0, .int .i64 0] 61 (0, 0)) := blk_below (g := w.heap.size + 1) (o := .cells #[.slice none 0 0, .int .i64 0] 61 (0, 0)) (by (with_reducible repeat (first | refine blk_drewN ?_ _ | refine blk_drew ?_ | refine blk_alloc ?_ _)); exact Bq.out) hB; have Bq := Aside0.mk tq; have zq0 : w3.cell? ⟨w.heap.size + 1, 0, none⟩ = some (.slice none 0 0) := (blk_cell tq 0).trans rfl; have zq1 : w3.cell? ⟨w.heap.size + 1, 1, none⟩ = some (.int .i64 0) := (blk_cell tq 1).trans rfl; have fq0 := blk_frozen tq 0; have fq1 := blk_frozen tq 1; have lq : w.heap.size + 1 < w3.heap.size := blk_lt tq; have nq : w.heap.size + 1 ≠ w3.heap.size := Nat.ne_of_lt lq; have mq : w3.heap.size ≠ w.heap.size + 1 := Nat.ne_of_gt lq; clear tq)); (try (have tr : w3.heap[w2.heap.size]? = some (.cells #[.slice none 0 0, .int .i64 0] 61 (0, 0)) := blk_below (g := w2.heap.size) (o := .cells #[.slice none 0 0, .int .i64 0] 61 (0, 0)) (by first | exact blk_new _ _ | exact (two_blocks _ _ _).1) hB; have Br := Aside0.mk tr; have zr0 : w3.cell? ⟨w2.heap.size, 0, none⟩ = some (.slice none 0 0) := (blk_cell tr 0).trans rfl; have zr1 : w3.cell? ⟨w2.heap.size, 1, none⟩ = some (.int .i64 0) := (blk_cell tr 1).trans rfl; have fr0 := blk_frozen tr 0; have fr1 := blk_frozen tr 1; have lr : w2.heap.size < w3.heap.size := blk_lt tr; have nr : w2.heap.size ≠ w3.heap.size := Nat.ne_of_lt lr; have mr : w3.heap.size ≠ w2.heap.size := Nat.ne_of_gt lr; clear tr)); (try (have ts : w3.heap[w2.heap.size + 1]? = some (.cells #[.slice none 0 0, .int .i64 0] 61 (0, 0)) := blk_below (g := w2.heap.size + 1) (o := .cells #[.slice none 0 0, .int .i64 0] 61 (0, 0)) (by exact (two_blocks _ _ _).2) hB; have Bs := Aside0.mk ts; have zs0 : w3.cell? ⟨w2.heap.size + 1, 0, none⟩ = some (.slice none 0 0) := (blk_cell ts 0).trans rfl; have zs1 : w3.cell? ⟨w2.heap.size + 1, 1, none⟩ = some (.int .i64 0) := (blk_cell ts 1).trans rfl; have fs0 := blk_frozen ts 0; have fs1 := blk_frozen ts 1; have ls : w2.heap.size + 1 < w3.heap.size := blk_lt ts; have ns : w2.heap.size + 1 ≠ w3.heap.size := Nat.ne_of_lt ls; have ms : w3.heap.size ≠ w2.heap.size + 1 := Nat.ne_of_gt ls; clear ts)); have HB3 := Aside0.mk hb3; have hb23 : Below w2.heap.size w2 w3 := below_then (by repeat (first | exact Below.refl _ _ | apply below_alloc | apply pw_below_drewN | apply below_drew1)) (below_size (by repeat (first | exact Below.refl _ _ | apply below_alloc | apply pw_below_drewN | apply below_drew1))) hB; have HB23 := Aside0.mk hb23; clear hb23; have HR3 := Aside0.mk hR; have hg3 := HG.out.of_below hb3; have kw30 : w3.heap.size ≠ 0 := (by have := hg3.size; omega); have jw30 : 0 ≠ w3.heap.size := Ne.symm kw30; have kw31 : w3.heap.size ≠ 1 := (by have := hg3.size; omega); have jw31 : 1 ≠ w3.heap.size := Ne.symm kw31; have kw32 : w3.heap.size ≠ 2 := (by have := hg3.size; omega); have jw32 : 2 ≠ w3.heap.size := Ne.symm kw32; have hk0 := hg3.sachs0; have hk1 := hg3.sachs1; have hk2 := hg3.many0; have hk3 := hg3.many1; clear hR hB hb3 hg3)
        | (go_at_call 54; refine (of_calls l0 gneg gneg2 k A0 c0 x 139 140 _ isFn139 isFn140 (HG.out.of_below (by repeat (first | exact Below.refl _ _ | apply below_alloc | apply pw_below_drewN | apply below_drew1))) (Kd.C_below HC.out (by repeat (first | exact Below.refl _ _ | apply below_alloc | apply pw_below_drewN | apply below_drew1))) hc0 hl.2 (isFr_bounds HF.out) HO.out).mono ?_; rintro e w2 ⟨v2, rfl, hR, hB⟩; obtain ⟨A2, c2, e2⟩ := Kd.R_slice hR; subst e2; have hb2 : Below w.heap.size w w2 := below_then (by repeat (first | exact Below.refl _ _ | apply below_alloc | apply pw_below_drewN | apply below_drew1)) (below_size (by repeat (first | exact Below.refl _ _ | apply below_alloc | apply pw_below_drewN | apply below_drew1))) hB; (try (have tp : w2.heap[w.heap.size]? = some (.cells #[.slice none 0 0, .int .i64 0] 61 (0, 0)) := blk_below (g := w.heap.size) (o := .cells #[.slice none 0 0, .int .i64 0] 61 (0, 0)) (by first | exact blk_new _ _ | exact (two_blocks _ _ _).1) hB; have Bp := Aside0.mk tp; have zp0 : w2.cell? ⟨w.heap.size, 0, none⟩ = some (.slice none 0 0) := (blk_cell tp 0).trans rfl; have zp1 : w2.cell? ⟨w.heap.size, 1, none⟩ = some (.int .i64 0) := (blk_cell tp 1).trans rfl; have fp0 := blk_frozen tp 0; have fp1 := blk_frozen tp 1; have lp : w.heap.size < w2.heap.size := blk_lt tp; have np : w.heap.size ≠ w2.heap.size := Nat.ne_of_lt lp; have mp : w2.heap.size ≠ w.heap.size := Nat.ne_of_gt lp; clear tp)); (try (have tq : w2.heap[w.heap.size + 1]? = some (.cells #[.slice none 0 0, .int .i64 0] 61 (0, 0)) := blk_below (g := w.heap.size + 1) (o := .cells #[.slice none 0 0, .int .i64 0] 61 (0, 0)) (by exact (two_blocks _ _ _).2) hB; have Bq := Aside0.mk tq; have zq0 : w2.cell? ⟨w.heap.size + 1, 0, none⟩ = some (.slice none 0 0) := (blk_cell tq 0).trans rfl; have zq1 : w2.cell? ⟨w.heap.size + 1, 1, none⟩ = some (.int .i64 0) := (blk_cell tq 1).trans rfl; have fq0 := blk_frozen tq 0; have fq1 := blk_frozen tq 1; have lq : w.heap.size + 1 < w2.heap.size := blk_lt tq; have nq : w.heap.size + 1 ≠ w2.heap.size := Nat.ne_of_lt lq; have mq : w2.heap.size ≠ w.heap.size + 1 := Nat.ne_of_gt lq; clear tq)); have HB2 := Aside0.mk hb2; have HR2 := Aside0.mk hR; have hg2 := HG.out.of_below hb2; have kw20 : w2.heap.size ≠ 0 := (by have := hg2.size; omega); have jw20 : 0 ≠ w2.heap.size := Ne.symm kw20; have kw21 : w2.heap.size ≠ 1 := (by have := hg2.size; omega); have jw21 : 1 ≠ w2.heap.size := Ne.symm kw21; have kw22 : w2.heap.size ≠ 2 := (by have := hg2.size; omega); have jw22 : 2 ≠ w2.heap.size := Ne.symm kw22; have hk0 := hg2.sachs0; have hk1 := hg2.sachs1; have hk2 := hg2.many0; have hk3 := hg2.many1; clear hR hB hb2 hg2))
    all_goals
      have hr2 := Kd.R_below HR2.out HB23.out
      obtain ⟨ad2, e4, hx2, hl2⟩ := row_at hr2 (l0.length - a1) (by omega) (by omega)
      subst e4
      obtain ⟨ad3, e5, hx3, hl3⟩ := row_at HR3.out (l0.length - a1) (by omega) (by omega)
      subst e5
      try (have tp := Bp.out; clear Bp; have up := row_ne hr2 tp; have vp := row_ne HR3.out tp)
      try (obtain ⟨up1, up2⟩ := up; obtain ⟨vp1, vp2⟩ := vp)
      try (have tq := Bq.out; clear Bq; have uq := row_ne hr2 tq; have vq := row_ne HR3.out tq)
      try (obtain ⟨uq1, uq2⟩ := uq; obtain ⟨vq1, vq2⟩ := vq)
      try (have tr := Br.out; clear Br; have ur := row_ne hr2 tr; have vr := row_ne HR3.out tr)
      try (obtain ⟨ur1, ur2⟩ := ur; obtain ⟨vr1, vr2⟩ := vr)
      try (have ts := Bs.out; clear Bs; have us := row_ne hr2 ts; have vs := row_ne HR3.out ts)
      try (obtain ⟨us1, us2⟩ := us; obtain ⟨vs1, vs2⟩ := vs)
      have hz2 := Nat.ne_of_lt hl2
      have hz2' := Ne.symm hz2
      have hz3 := Nat.ne_of_lt hl3
      have hz3' := Ne.symm hz3
      have hy2 : ad2.block ≠ w3.heap.size + 1 := by omega
      have hy3 : ad3.block ≠ w3.heap.size + 1 := by omega
      have hy2' := Ne.symm hy2
      have hy3' := Ne.symm hy3
      have hua := add_block ad2 ((l0.length : Int) - a1).toNat
      have hub := add_block ad3 ((l0.length : Int) - a1).toNat
      refine tail _ _ ad2 ad3 c2 c3 _ ?_ ?_ ?_ ?_ ?_
      case refine_1 => first | (with_reducible exact (two_blocks _ _ _).1) | (with_reducible exact (two_blocks _ _ _).2) | (with_reducible exact blk_new' _ (size_set2 _ _ _ _ _)) | (with_reducible exact blk_alloc (box_put2 (by with_reducible assumption) _ _) _) | (with_reducible exact box_put2 (by with_reducible assumption) _ _) | (with_reducible exact blk_set_far _ (by dsimp only; first | with_reducible assumption | omega) (blk_set_far _ (by dsimp only; first | with_reducible assumption | omega) (box_put2 (by with_reducible assumption) _ _))) | (with_reducible exact box_put2 (blk_set_far _ (by dsimp only; first | with_reducible assumption | omega) (blk_set_far _ (by dsimp only; first | with_reducible assumption | omega) (by with_reducible assumption))) _ _)
      case refine_2 => first | (with_reducible exact (two_blocks _ _ _).1) | (with_reducible exact (two_blocks _ _ _).2) | (with_reducible exact blk_new' _ (size_set2 _ _ _ _ _)) | (with_reducible exact blk_alloc (box_put2 (by with_reducible assumption) _ _) _) | (with_reducible exact box_put2 (by with_reducible assumption) _ _) | (with_reducible exact blk_set_far _ (by dsimp only; first | with_reducible assumption | omega) (blk_set_far _ (by dsimp only; first | with_reducible assumption | omega) (box_put2 (by with_reducible assumption) _ _))) | (with_reducible exact box_put2 (blk_set_far _ (by dsimp only; first | with_reducible assumption | omega) (blk_set_far _ (by dsimp only; first | with_reducible assumption | omega) (by with_reducible assumption))) _ _)
      case refine_3 => repeat (first | with_reducible exact hx2 | with_reducible refine cell_alloc_far _ ?_ | with_reducible refine cell_set_far _ (by rw [hua]; dsimp only; first | with_reducible assumption | omega) ?_)
      case refine_4 => repeat (first | with_reducible exact hx3 | with_reducible refine cell_alloc_far _ ?_ | with_reducible refine cell_set_far _ (by rw [hub]; dsimp only; first | with_reducible assumption | omega) ?_)
      case refine_5 => repeat (first | with_reducible exact HB3.out | with_reducible apply below_alloc | with_reducible refine Below.setCell ?_ (by dsimp only; first | omega | (have := HB2.out.size; omega)) _)
  · rw [if_neg hf] at h
    injection h with h
    injection h with e1 h
    injection h with e2 e3
    subst e1
    subst e2
    subst e3
    have HC := Aside0.mk hr0
    have HF := Aside0.mk hf
    clear hr0 hG
    cases hfr : isFr l0 with
    | false =>
      clear hf
      go_enter Tryd.func22, Tryd.ntmps22
      go_wp2_with (first
        | (go_at_call 51; refine (read_calls A0 c0 l0 _ HC.out hc0).mono ?_; intro e w1 hh; unfold ReadP at hh; rw [hfr] at hh; obtain ⟨rfl, n1, rfl⟩ := hh))
      go_ret3
      exact ⟨rfl, pw_below_drewN (Below.refl _ _) n1⟩
    | true =>
      rw [hfr] at hf
      cases d0 : decide (a1 < 0) with
      | true =>
        clear hf
        go_enter Tryd.func22, Tryd.ntmps22
        go_wp2_with (first
          | (go_at_call 51; refine (read_calls A0 c0 l0 _ HC.out hc0).mono ?_; intro e w1 hh; unfold ReadP at hh; rw [hfr] at hh; obtain ⟨rfl, n1, rfl⟩ := hh))
        go_ret3
        exact ⟨rfl, pw_below_drewN (Below.refl _ _) n1⟩
      | false =>
        have d1 : decide ((l0.length : Int) < a1) = true := by simp at d0 hf ⊢; omega
        clear hf
        go_enter Tryd.func22, Tryd.ntmps22
        go_wp2_with (first
          | (go_at_call 51; refine (read_calls A0 c0 l0 _ HC.out hc0).mono ?_; intro e w1 hh; unfold ReadP at hh; rw [hfr] at hh; obtain ⟨rfl, n1, rfl⟩ := hh))
        go_ret3
        exact ⟨rfl, pw_below_drewN (Below.refl _ _) n1⟩
end Go.Proofs.YtglalkenkmijkaaDoor.Hand
