/- Sachs: part 1 of the texts of this claim, joined by a program: the walks over the program's text, the plain laws, the card. No condition beyond the statement's own. -/
import Derived.Test.YtglalkenkmijkaaDoorJSachs0
import Derived.BigRegion
import Derived.Deep.RegionWith
import Derived.Deep.RegionHeld3
import Derived.Laws.EntriesVeiled
/- 'over': a walk. -/
namespace Go.Proofs.YtglalkenkmijkaaDoor.Hand
open Go.RowKit Go.Proofs.YtglalkenkmijkaaDoorW.PrintWords Go.Proofs.YtglalkenkmijkaaDoorW.PrintLast Go.Proofs.YtglalkenkmijkaaDoorW.PrintMore
open PAll (info3)
set_option linter.unusedVariables false
set_option linter.unusedSimpArgs false

theorem ctz_range (x : Int) (h0 : 0 < x) (h1 : x < 128) : 0 ≤ ctz x ∧ ctz x ≤ 6 := by
  obtain ⟨n, rfl⟩ := Int.eq_ofNat_of_zero_le (Int.le_of_lt h0)
  exact (deB_nat n (by omega) (by omega)).2.2.2
theorem pow_in (i : Int) (h0 : 0 ≤ i) (h1 : i ≤ 6) : IntKind.i64.wrap (2 ^ i.toNat) = 2 ^ i.toNat := by
  obtain ⟨n, rfl⟩ := Int.eq_ofNat_of_zero_le h0
  have : n < 7 := by omega
  clear h0 h1
  revert this
  revert n
  decide +kernel

theorem R_fresh (W : World) (base : Nat) (hb : base ≤ W.heap.size) (xs : List Int) (hm : xs.length ≤ maxLen) : Kd.R (Kd.int .i64) 3 (W.alloc (.cells (nums .i64 xs).toArray 3)) base (fun _ => True) (.slice (some ⟨W.heap.size, 0, none⟩) xs.length xs.length) xs := by
  refine ⟨fun _ _ => trivial, nums .i64 xs, ⟨?_, .inr ⟨W.heap.size, xs.length, (nums .i64 xs).toArray, rfl, hb, heap_alloc_new _ _, Nat.le_refl _, hm, ?_, ?_⟩⟩, ?_, ?_⟩
  · simp [nums, Kd.int, Kd.scalar]
  · simp [nums, Kd.int, Kd.scalar]
  · simp [nums, Kd.int, Kd.scalar]
    rw [List.take_of_length_le (by simp)]
  · simp [nums, Kd.int, Kd.scalar]
  · intro j p hj
    show _ = [Value.int .i64 p]
    have hj' : (nums .i64 xs)[j]? = some (.int .i64 p) := by simp [nums, hj]
    show List.take 1 (List.drop (j * 1) (nums .i64 xs)) = _
    rw [Nat.mul_one, List.take_one]
    simp [List.head?_drop, hj']

theorem four_blocks (w : World) (o0 o1 o2 o3 : Obj) : ((((w.alloc o0).alloc o1).alloc o2).alloc o3).drew.heap.size = w.heap.size + 4 ∧ ((((w.alloc o0).alloc o1).alloc o2).alloc o3).drew.heap[w.heap.size]? = some o0 ∧ ((((w.alloc o0).alloc o1).alloc o2).alloc o3).drew.heap[w.heap.size + 1]? = some o1 ∧ ((((w.alloc o0).alloc o1).alloc o2).alloc o3).drew.heap[w.heap.size + 2]? = some o2 ∧ ((((w.alloc o0).alloc o1).alloc o2).alloc o3).drew.heap[w.heap.size + 3]? = some o3 := by
  show ((((w.alloc o0).alloc o1).alloc o2).alloc o3).heap.size = _ ∧ ((((w.alloc o0).alloc o1).alloc o2).alloc o3).heap[_]? = _ ∧ ((((w.alloc o0).alloc o1).alloc o2).alloc o3).heap[_]? = _ ∧ ((((w.alloc o0).alloc o1).alloc o2).alloc o3).heap[_]? = _ ∧ ((((w.alloc o0).alloc o1).alloc o2).alloc o3).heap[_]? = _
  have s1 : (w.alloc o0).heap.size = w.heap.size + 1 := World.size_alloc ..
  have s2 : ((w.alloc o0).alloc o1).heap.size = w.heap.size + 2 := (World.size_alloc ..).trans (by rw [s1])
  have s3 : (((w.alloc o0).alloc o1).alloc o2).heap.size = w.heap.size + 3 := (World.size_alloc ..).trans (by rw [s2])
  refine ⟨(World.size_alloc ..).trans (by rw [s3]), ?_, ?_, ?_, ?_⟩
  · rw [Below.heap_alloc _ _ _ (by omega), Below.heap_alloc _ _ _ (by omega), Below.heap_alloc _ _ _ (by omega)]; exact heap_alloc_new w o0
  · rw [Below.heap_alloc _ _ _ (by omega), Below.heap_alloc _ _ _ (by omega), ← s1]; exact heap_alloc_new _ o1
  · rw [Below.heap_alloc _ _ _ (by omega), ← s2]; exact heap_alloc_new _ o2
  · rw [← s3]; exact heap_alloc_new _ o3
theorem four_below (w : World) (o0 o1 o2 o3 : Obj) : Below w.heap.size w ((((w.alloc o0).alloc o1).alloc o2).alloc o3).drew :=
  (below_alloc (below_alloc (below_alloc (below_alloc (Below.refl _ _) _) _) _) _).drew

theorem over_start {w W1 w2 : World} {A : Option Addr} {c : Nat} {f : List Int} {left i : Int} {Gw Gr : FuncId} {v : Value} {out : List Int} (hC : Kd.C (Kd.int .i64) w A f.length f) (hb1 : Below w.heap.size w W1) (hz : W1.heap.size = w.heap.size + 4)
    (e0 : W1.heap[w.heap.size]? = some (.cells #[.slice A f.length c] 52 (0, 0))) (e1 : W1.heap[w.heap.size + 1]? = some (.cells #[.int .i64 (sub1 left i)] 3 (0, 0))) (e2 : W1.heap[w.heap.size + 2]? = some (.cells #[.func (.func Gw) #[] #[], .func (.func Gr) #[] #[]] 57 (0, 0))) (e3 : W1.heap[w.heap.size + 3]? = some (.cells #[.int .i64 i] 3 (0, 0)))
    (hb2 : Below W1.heap.size W1 w2) (ho : Kd.R (Kd.int .i64) 3 w2 W1.heap.size (fun _ => True) v out) :
    Oo w A c f (sub1 left i) i Gw Gr ⟨w.heap.size, w.heap.size + 1, w.heap.size + 2, w.heap.size + 3, w2.heap.size, w2.heap.size + 1, w2.heap.size + 1⟩ v out ((w2.alloc (.cells #[v] 22)).alloc (.cells #[.func (.func 92) #[] #[.pointer (some ⟨w2.heap.size, 0, none⟩)]] 104)) := by
  have hs := hb2.size
  have s1 : (w2.alloc (.cells #[v] 22)).heap.size = w2.heap.size + 1 := World.size_alloc ..
  have old : ∀ k, k < W1.heap.size → ((w2.alloc (.cells #[v] 22)).alloc (.cells #[.func (.func 92) #[] #[.pointer (some ⟨w2.heap.size, 0, none⟩)]] 104)).heap[k]? = W1.heap[k]? := fun k hk => by
    rw [Below.heap_alloc _ _ _ (by omega), Below.heap_alloc _ _ _ (by omega)]; exact hb2.block k hk
  have hB : Below w.heap.size w ((w2.alloc (.cells #[v] 22)).alloc (.cells #[.func (.func 92) #[] #[.pointer (some ⟨w2.heap.size, 0, none⟩)]] 104)) := below_alloc (below_alloc (below_then hb1 (by omega) hb2) _) _
  refine ⟨⟨(old _ (by show w.heap.size < _; omega)).trans e0, (old _ (by show w.heap.size + 1 < _; omega)).trans e1, (old _ (by show w.heap.size + 2 < _; omega)).trans e2, (old _ (by show w.heap.size + 3 < _; omega)).trans e3, ?_, hC, hB, ?_⟩, ?_, ?_⟩
  · show _[w2.heap.size + 1]? = _
    rw [← s1]; exact heap_alloc_new _ _
  · exact ⟨by show w.heap.size ≤ w2.heap.size; omega, by show w2.heap.size ≠ w.heap.size; omega, by show w2.heap.size ≠ w.heap.size + 1; omega, by show w2.heap.size ≠ w.heap.size + 2; omega, by show w2.heap.size ≠ w.heap.size + 3; omega, by show w2.heap.size ≠ w2.heap.size + 1; omega, by show w2.heap.size ≠ w2.heap.size + 1; omega⟩
  · show _[w2.heap.size]? = _
    rw [Below.heap_alloc _ _ _ (by omega)]; exact heap_alloc_new _ _
  · refine Kd.R_alloc (Kd.R_alloc (Kd.R_lower (Kd.R_mono (Kd.R_bound ho) (fun k hk => ?_)) (by omega)) _) _
    obtain ⟨_, h1, h2, _⟩ := hk
    exact ⟨by omega, by show k ≠ w.heap.size; omega, by show k ≠ w.heap.size + 1; omega, by show k ≠ w.heap.size + 2; omega, by show k ≠ w.heap.size + 3; omega, by show k ≠ w2.heap.size + 1; omega, by show k ≠ w2.heap.size + 1; omega⟩

theorem more_calls' (G : FuncId) (g : Int → Int) (hF : IsFn G g) (kn : Int) (h0 : 0 ≤ kn) (h1 : kn ≤ 1000) (A : Option Addr) (c : Nat) (l : List Int) (Bo : Nat) (v : Value) (out : List Int) (w0 w : World) (P : Nat → Prop)
    (hP : P Bo) (hBo : w0.heap.size ≤ Bo) (hl : ∀ W_, Kept w W_ P → Kd.C (Kd.int .i64) W_ A l.length l) (hlen : l.length ≤ 1000) (hout : out.length ≤ 1000)
    (hI : MInv w0 w w P Bo v out) :
    Calls Tryd.prog 92 #[.int .i64 kn, .slice A l.length c, .func (.func G) #[] #[], .pointer (some ⟨Bo, 0, none⟩)] w fun e w' => e = .returned (.tuple #[]) ∧ ∃ v', MInv w0 w w' P Bo v' (moreL g kn.toNat l out) := by
  obtain ⟨n, rfl⟩ := Int.eq_ofNat_of_zero_le h0
  exact more_calls G g (fun s W => hF.enters _ W) hF.calls n A c l Bo v out w0 w P hP hBo hl hlen (by omega) hout hI
theorem kept_reads {W3 W_ : World} {Q : Nat → Prop} {base : Nat} {A : Option Addr} {c : Nat} {l : List Int} (hR : Kd.R (Kd.int .i64) 3 W3 base (fun _ => True) (.slice A l.length c) l) (hk : Kept W3 W_ (fun k => Q k ∧ k < base)) : Kd.C (Kd.int .i64) W_ A l.length l := by
  obtain ⟨A', c', e, _, h⟩ := Kd.R_reads (Kd.R_kept (Kd.R_bound hR) hk (fun k h1 h2 => by have := h1.2.1; omega))
  injection e with e1 e2 e3
  subst e1
  exact h

theorem on_start {w0 W : World} {A : Option Addr} {c : Nat} {f : List Int} {left i : Int} {Gw Gr : FuncId} {b : OB} {v : Value} {out : List Int} (h : Oo w0 A c f left i Gw Gr b v out W) (o : Obj) :
    Oo w0 A c f left i Gw Gr ⟨b.f, b.l, b.x, b.i, b.o, b.m, W.heap.size⟩ v out (W.alloc o) := by
  have g := h.grow (below_alloc (Below.refl _ _) o)
  have hn : ∀ k, OP w0 b k → k < W.heap.size → OP w0 ⟨b.f, b.l, b.x, b.i, b.o, b.m, W.heap.size⟩ k := fun k hk hl => ⟨hk.1, hk.2.1, hk.2.2.1, hk.2.2.2.1, hk.2.2.2.2.1, hk.2.2.2.2.2.1, by show k ≠ W.heap.size; omega⟩
  exact ⟨⟨g.ov.bf, g.ov.bl, g.ov.bx, g.ov.bi, g.ov.bm, g.ov.frame, g.ov.below, hn _ h.ov.op (lt_of_block h.var)⟩, g.var, Kd.R_alloc (Kd.R_mono (Kd.R_bound h.row) (fun k hk => hn k hk.1 hk.2.2.1)) o⟩

def OverSaid (f : List Int) (gw gr : Int → Int) (m : Nat) : Prop := ∀ (A : Option Addr) (c : Nat) (left : Int) (r : List Int) (Gw Gr : FuncId) (w : World), IsFn Gw gw → IsFn Gr gr → Glob w → Kd.C (Kd.int .i64) w A f.length f → f.length ≤ c → f.length ≤ 7 → (∀ j, 0 ≤ rd f j ∧ rd f j < 128) → okS left = true → overF f gw gr m left = some r →
  Calls Tryd.prog 71 #[.slice A f.length c, .int .i64 left, .agg #[.func (.func Gw) #[] #[], .func (.func Gr) #[] #[]]] w fun e w' => ∃ v, e = .returned v ∧ Kd.R (Kd.int .i64) 3 w' w.heap.size (fun _ => True) v r ∧ Below w.heap.size w w'

def OnSaid (f : List Int) (gw gr : Int → Int) (m : Nat) : Prop := ∀ (A : Option Addr) (c : Nat) (left i at_ second met : Int) (out out' : List Int) (v : Value) (Gw Gr : FuncId) (b : OB) (w0 W : World), IsFn Gw gw → IsFn Gr gr → Glob w0 → Oo w0 A c f left i Gw Gr b v out W → W.heap[b.n]? = some (.cells #[onV b] 105 (0, 0)) → f.length ≤ c → f.length ≤ 7 → (∀ j, 0 ≤ rd f j ∧ rd f j < 128) → okS left = true → 0 ≤ i → i ≤ 6 → onF f gw gr m i left at_ second met out = some out' →
  Calls Tryd.prog 93 #[.int .i64 at_, .int .i64 second, .int .i64 met, .pointer (some ⟨b.f, 0, none⟩), .pointer (some ⟨b.l, 0, none⟩), .pointer (some ⟨b.i, 0, none⟩), .pointer (some ⟨b.m, 0, none⟩), .pointer (some ⟨b.x, 0, none⟩), .pointer (some ⟨b.n, 0, none⟩)] W fun e W' => e = .returned (.tuple #[]) ∧ ∃ v', Oo w0 A c f left i Gw Gr b v' out' W' ∧ W'.heap[b.n]? = some (.cells #[onV b] 105 (0, 0))

set_option maxHeartbeats 4000000 in
set_option maxRecDepth 100000 in
theorem over_walk (f : List Int) (gw gr : Int → Int) (m : Nat) (ih : ∀ k, k < m → OverSaid f gw gr k ∧ OnSaid f gw gr k) : OverSaid f gw gr m := by
  intro A c left r Gw Gr w hGw hGr hG hC hc hf hfr hl h
  cases m with
  | zero => simp [overF] at h
  | succ m =>
  have hL : 0 ≤ left ∧ left < 128 := by simpa [okS] using hl
  have hL0 := hL.1
  have hL1 := hL.2
  clear hL hl
  simp only [overF] at h
  have HC := Aside0.mk hC
  have HG := Aside0.mk hG
  have HW := Aside0.mk hGw
  have HR := Aside0.mk hGr
  have HF := Aside0.mk hfr
  have IH := Aside0.mk ih
  clear hC hG hGw hGr hfr ih
  by_cases h0 : left = 0
  · rw [if_pos h0] at h
    have h0' : (left == 0) = true := by simpa using h0
    obtain rfl := Option.some.inj h
    clear h h0
    go_enter Tryd.func71, Tryd.ntmps71
    go_wp2
    go_ret
    have hf1 := R_fresh (((w.alloc (.cells #[.slice A f.length c] 52)).alloc (.cells #[.int .i64 left] 3)).alloc (.cells #[.func (.func Gw) #[] #[], .func (.func Gr) #[] #[]] 57)) w.heap.size (by simp; omega) [1] (by decide)
    rw [show (((w.alloc (.cells #[.slice A f.length c] 52)).alloc (.cells #[.int .i64 left] 3)).alloc (.cells #[.func (.func Gw) #[] #[], .func (.func Gr) #[] #[]] 57)).heap.size = w.heap.size + 1 + 1 + 1 from by simp] at hf1
    exact ⟨.slice (some ⟨w.heap.size + 1 + 1 + 1, 0, none⟩) 1 1, rfl, hf1, by repeat (first | exact Below.refl _ _ | apply below_alloc)⟩
  · rw [if_neg h0] at h
    have h0' : (left == 0) = false := by simpa using h0
    have hpos : 0 < left := by omega
    clear h0
    split at h
    · rename_i hh
      obtain ⟨hs1, hs2, hs3⟩ := hh
      have H := Aside0.mk h
      clear h
      go_enter Tryd.func71, Tryd.ntmps71
      go_wp2_with (go_at_call 91; refine (first_calls left hpos hL1 _ (HG.out.of_below (by repeat (first | exact Below.refl _ _ | apply below_alloc)))).mono ?_; rintro e w' ⟨rfl, rfl⟩)
      obtain ⟨i, hi⟩ : ∃ i, ctz left = i := ⟨_, rfl⟩
      have hr := ctz_range left hpos hL1
      rw [hi] at hr hs2 hs3
      have hr0 := hr.1
      have hr1 := hr.2
      rw [hi] at H
      rw [hi]
      clear hr hi
      have hw1 : IntKind.i64.wrap (2 ^ i.toNat) = 2 ^ i.toNat := pow_in i hr0 hr1
      go_region
      go_wp2_with fail
      obtain ⟨hz, e0, e1, e2, e3⟩ := four_blocks w (.cells #[.slice A f.length c] 52) (.cells #[.int .i64 (Go.bits .andNot .i64 left (2 ^ i.toNat))] 3) (.cells #[.func (.func Gw) #[] #[], .func (.func Gr) #[] #[]] 57) (.cells #[.int .i64 i] 3)
      have hb1 := four_below w (.cells #[.slice A f.length c] 52) (.cells #[.int .i64 (Go.bits .andNot .i64 left (2 ^ i.toNat))] 3) (.cells #[.func (.func Gw) #[] #[], .func (.func Gr) #[] #[]] 57) (.cells #[.int .i64 i] 3)
      generalize ((((w.alloc (.cells #[.slice A f.length c] 52)).alloc (.cells #[.int .i64 (Go.bits .andNot .i64 left (2 ^ i.toNat))] 3)).alloc (.cells #[.func (.func Gw) #[] #[], .func (.func Gr) #[] #[]] 57)).alloc (.cells #[.int .i64 i] 3)).drew = W1 at hz e0 e1 e2 e3 hb1 ⊢
      have HB1 := Aside0.mk hb1
      have E0 := Aside0.mk e0
      have E1 := Aside0.mk e1
      have E2 := Aside0.mk e2
      have E3 := Aside0.mk e3
      have HZ := Aside0.mk hz
      clear hb1 e0 e1 e2 e3 hz
      have HH := H.out
      obtain ⟨out2, ho2, ho3⟩ := Option.bind_eq_some_iff.1 HH
      obtain ⟨out1, ho1, ho2⟩ := Option.bind_eq_some_iff.1 ho2
      clear HH H
      have H1 := Aside0.mk ho1
      have H2 := Aside0.mk ho2
      have H3 := Aside0.mk ho3
      clear ho1 ho2 ho3
      refine ((IH.out m (by omega)).1 A c _ out1 Gw Gr W1 HW.out HR.out (HG.out.of_below HB1.out) (Kd.C_below HC.out HB1.out) hc hf HF.out hs3 H1.out).mono ?_
      rintro e w2 ⟨v, rfl, hR, hb⟩
      obtain ⟨Ao, co, eo⟩ := Kd.R_slice hR
      subst eo
      have HB2 := Aside0.mk hb
      have HO := Aside0.mk hR
      clear hb hR
      have Ho0 := Aside0.mk (over_start HC.out HB1.out HZ.out E0.out E1.out E2.out E3.out HB2.out HO.out)
      have hcf := cell_of_one Ho0.out.ov.bf
      go_wp2_with fail
      clear hcf
      go_loopg [28] m (fun gk v28 W => ∃ j : Nat, j ≤ f.length ∧ v28 = .int .i64 j ∧ Aside0 (∃ (v : Value) (out : List Int), Oo w A c f (sub1 left i) i Gw Gr ⟨w.heap.size, w.heap.size + 1, w.heap.size + 2, w.heap.size + 3, w2.heap.size, w2.heap.size + 1, w2.heap.size + 1⟩ v out W ∧ wiresF f gw gr gk i (sub1 left i) j out = some out2 ∧ gk ≤ m))
      case atStart => exact ⟨0, by omega, rfl, ⟨_, _, Ho0.out, H2.out, Nat.le_refl _⟩⟩
      case round =>
        obtain ⟨j, hj, rfl, HJ⟩ := hrel
        clear Ho0 H2
        obtain ⟨v, out, hO, hwi, hm⟩ := HJ.out
        clear HJ
        have hcf : wr.cell? ⟨w.heap.size, 0, none⟩ = _ := cell_of_one hO.ov.bf
        have hcl : wr.cell? ⟨w.heap.size + 1, 0, none⟩ = _ := cell_of_one hO.ov.bl
        have hci : wr.cell? ⟨w.heap.size + 1 + 1 + 1, 0, none⟩ = _ := cell_of_one hO.ov.bi
        have hcm : wr.cell? ⟨w2.heap.size + 1, 0, none⟩ = _ := cell_of_one hO.ov.bm
        obtain ⟨ad, e, hel⟩ := Kd.at_int hO.ov.reads i hr0 hs2
        subst e
        have HO := Aside0.mk hO
        clear hO
        cases gk with
        | zero => simp [wiresF] at hwi
        | succ gk =>
        simp only [wiresF] at hwi
        by_cases hlt : j < f.length
        · rw [if_pos hlt] at hwi
          by_cases ht : tst (Go.bits .and .i64 (rd f i) (sub1 left i)) j = true
          · rw [if_pos ht] at hwi
            split at hwi
            · rename_i hs4
              obtain ⟨out', hwi, hwj⟩ := Option.bind_eq_some_iff.1 hwi
              obtain ⟨l1, hl1, hmo⟩ := Option.bind_eq_some_iff.1 hwi
              clear hwi
              unfold moreO at hmo
              split at hmo
              · rename_i hb4
                obtain ⟨hb4, _, _, hb5⟩ := hb4
                obtain rfl := Option.some.inj hmo
                clear hmo
                have HN := Aside0.mk hwj
                have HL1 := Aside0.mk hl1
                clear hwj hl1
                have hj0 : (0 : Int) ≤ j := by omega
                have hj1 : (j : Int) ≤ 6 := by omega
                have hcx0 : wr.cell? ⟨w.heap.size + 1 + 1, 0, none⟩ = some (.func (.func Gw) #[] #[]) := (blk_cell HO.out.ov.bx 0).trans rfl
                have hcx1 : wr.cell? ⟨w.heap.size + 1 + 1, 1, none⟩ = some (.func (.func Gr) #[] #[]) := (blk_cell HO.out.ov.bx 1).trans rfl
                have hw2 : IntKind.i64.wrap (2 ^ j) = 2 ^ j := pow_in j hj0 hj1
                have ht' : (Go.bits .and .i64 (Go.bits .and .i64 (rd f i) (sub1 left i) / 2 ^ j) 1 == 1) = true := ht
                go_wp2_with fail
                go_quiet (fail)
                go_wp2_with fail
                have HO2 := Aside0.mk (HO.out.grow (pw_below_drewN (Below.refl _ _) nq))
                clear hcf hcl hcm hcx0 hcx1 hci hel HO
                generalize wr.drewN nq = wq at HO2 ⊢
                have hcf : wq.cell? ⟨w.heap.size, 0, none⟩ = _ := cell_of_one HO2.out.ov.bf
                have hcl : wq.cell? ⟨w.heap.size + 1, 0, none⟩ = _ := cell_of_one HO2.out.ov.bl
                have hcm : wq.cell? ⟨w2.heap.size + 1, 0, none⟩ = some (.func (.func 92) #[] #[.pointer (some ⟨w2.heap.size, 0, none⟩)]) := cell_of_one HO2.out.ov.bm
                have hcx0 : wq.cell? ⟨w.heap.size + 1 + 1, 0, none⟩ = some (.func (.func Gw) #[] #[]) := (blk_cell HO2.out.ov.bx 0).trans rfl
                have hcx1 : wq.cell? ⟨w.heap.size + 1 + 1, 1, none⟩ = some (.func (.func Gr) #[] #[]) := (blk_cell HO2.out.ov.bx 1).trans rfl
                go_region_held3 (fun w' => w'.cell? ⟨w.heap.size, 0, none⟩ = some (.slice (some ad) f.length c) ∧ w'.cell? ⟨w.heap.size + 1, 0, none⟩ = some (.int .i64 (sub1 left i)) ∧ w'.cell? ⟨w2.heap.size + 1, 0, none⟩ = some (.func (.func 92) #[] #[.pointer (some ⟨w2.heap.size, 0, none⟩)]) ∧ w'.cell? ⟨w.heap.size + 1 + 1, 0, none⟩ = some (.func (.func Gw) #[] #[]) ∧ w'.cell? ⟨w.heap.size + 1 + 1, 1, none⟩ = some (.func (.func Gr) #[] #[])) (first | go_keep | exact ⟨hcf3, hcl3, hcm3, hx03, hx13⟩ | exact ⟨hcf4, hcl4, hcm4, hx04, hx14⟩)
                  (first
                    | (go_at_call 71; refine ((IH.out gk (by omega)).1 _ _ _ l1 Gw Gr _ HW.out HR.out (HG.out.of_below (below_drew1 HO2.out.ov.below)) (Kd.C_below HO2.out.ov.frame (below_drew1 HO2.out.ov.below)) hc hf HF.out hs4 HL1.out).mono ?_; rintro e w3 ⟨vl, rfl, hRl, hbl⟩; obtain ⟨Al, cl, el⟩ := Kd.R_slice hRl; subst el; have hb3 : Below wq.heap.size wq w3 := ⟨hbl.os, hbl.tape, hbl.output, hbl.size, hbl.block⟩; have HO3 := Aside0.mk (HO2.out.grow hb3); have HB3 := Aside0.mk hb3; have HRl := Aside0.mk hRl; clear hRl hbl hb3; have hcf3 : w3.cell? ⟨w.heap.size, 0, none⟩ = some (.slice (some ad) f.length c) := cell_of_one HO3.out.ov.bf; have hcl3 : w3.cell? ⟨w.heap.size + 1, 0, none⟩ = some (.int .i64 (sub1 left i)) := cell_of_one HO3.out.ov.bl; have hcm3 : w3.cell? ⟨w2.heap.size + 1, 0, none⟩ = some (.func (.func 92) #[] #[.pointer (some ⟨w2.heap.size, 0, none⟩)]) := cell_of_one HO3.out.ov.bm; have hx03 : w3.cell? ⟨w.heap.size + 1 + 1, 0, none⟩ = some (.func (.func Gw) #[] #[]) := (blk_cell HO3.out.ov.bx 0).trans rfl; have hx13 : w3.cell? ⟨w.heap.size + 1 + 1, 1, none⟩ = some (.func (.func Gr) #[] #[]) := (blk_cell HO3.out.ov.bx 1).trans rfl)
                    | (go_at_call 92; refine (more_calls' Gw gw HW.out 2 (by omega) (by omega) Al cl l1 w2.heap.size v out w w3 (fun k => OP w _ k ∧ k < wq.heap.size) ⟨HO2.out.ov.op, lt_of_block HO2.out.var⟩ HO2.out.ov.op.1 (fun W_ hk => kept_reads HRl.out hk) hb4 hb5 (HO2.out.minv HB3.out)).mono ?_; rintro e w4 ⟨rfl, v', hM⟩; have HO4 := Aside0.mk (HO2.out.of_minv HB3.out (lt_of_block HO3.out.ov.bm) hM); clear hM; have hcf4 : w4.cell? ⟨w.heap.size, 0, none⟩ = some (.slice (some ad) f.length c) := cell_of_one HO4.out.ov.bf; have hcl4 : w4.cell? ⟨w.heap.size + 1, 0, none⟩ = some (.int .i64 (sub1 left i)) := cell_of_one HO4.out.ov.bl; have hcm4 : w4.cell? ⟨w2.heap.size + 1, 0, none⟩ = some (.func (.func 92) #[] #[.pointer (some ⟨w2.heap.size, 0, none⟩)]) := cell_of_one HO4.out.ov.bm; have hx04 : w4.cell? ⟨w.heap.size + 1 + 1, 0, none⟩ = some (.func (.func Gw) #[] #[]) := (blk_cell HO4.out.ov.bx 0).trans rfl; have hx14 : w4.cell? ⟨w.heap.size + 1 + 1, 1, none⟩ = some (.func (.func Gr) #[] #[]) := (blk_cell HO4.out.ov.bx 1).trans rfl))
                go_wp2_with fail
                go_roundg gk
                case measure => omega
                case rel => exact ⟨j + 1, by omega, by go_num, ⟨_, _, HO4.out, HN.out, by omega⟩⟩
              · simp at hmo
            · simp at hwi
          · rw [if_neg ht] at hwi
            have HN := Aside0.mk hwi
            clear hwi
            have hj0 : (0 : Int) ≤ j := by omega
            have hj1 : (j : Int) ≤ 6 := by omega
            go_wp2_with fail
            go_quiet (fail)
            go_wp2_with fail
            go_roundg gk
            case measure => omega
            case rel => exact ⟨j + 1, by omega, by go_num, ⟨v, out, HO.out.grow (pw_below_drewN (Below.refl _ _) _), HN.out, by omega⟩⟩
        · rw [if_neg hlt] at hwi
          obtain rfl := Option.some.inj hwi
          clear hwi
          have hje : j = f.length := by omega
          subst hje
          clear hcf hcl hci hcm hel
          have HS := Aside0.mk (on_start HO.out (.cells #[.func (.func 93) #[] #[.pointer (some ⟨w.heap.size, 0, none⟩), .pointer (some ⟨w.heap.size + 1, 0, none⟩), .pointer (some ⟨w.heap.size + 1 + 1 + 1, 0, none⟩), .pointer (some ⟨w2.heap.size + 1, 0, none⟩), .pointer (some ⟨w.heap.size + 1 + 1, 0, none⟩), .pointer (some ⟨wr.heap.size, 0, none⟩)]] 105))
          have hci : (wr.alloc (.cells #[.func (.func 93) #[] #[.pointer (some ⟨w.heap.size, 0, none⟩), .pointer (some ⟨w.heap.size + 1, 0, none⟩), .pointer (some ⟨w.heap.size + 1 + 1 + 1, 0, none⟩), .pointer (some ⟨w2.heap.size + 1, 0, none⟩), .pointer (some ⟨w.heap.size + 1 + 1, 0, none⟩), .pointer (some ⟨wr.heap.size, 0, none⟩)]] 105)).cell? ⟨w.heap.size + 1 + 1 + 1, 0, none⟩ = some (.int .i64 i) := cell_of_one HS.out.ov.bi
          go_wp2_with fail
          refine ((IH.out m (by omega)).2 _ c (sub1 left i) i i 0 0 out r v Gw Gr ⟨w.heap.size, w.heap.size + 1, w.heap.size + 1 + 1, w.heap.size + 1 + 1 + 1, w2.heap.size, w2.heap.size + 1, wr.heap.size⟩ w _ HW.out HR.out HG.out HS.out (heap_alloc_new _ _) hc hf HF.out hs3 hr0 hr1 H3.out).mono ?_
          rintro e w5 ⟨rfl, v', hO5, _⟩
          have hcv : w5.cell? ⟨w2.heap.size, 0, none⟩ = some v' := cell_of_one hO5.var
          obtain ⟨Av, cv, ev⟩ := Kd.R_slice hO5.row
          subst ev
          have HO5 := Aside0.mk hO5
          clear hO5
          go_wp2_with fail
          go_ret
          exact ⟨_, rfl, Kd.R_mono HO5.out.row (fun _ _ => trivial), HO5.out.ov.below⟩
    · simp at h
end Go.Proofs.YtglalkenkmijkaaDoor.Hand
/- 'on', the closure of 'over' that goes along rings: a walk. -/
namespace Go.Proofs.YtglalkenkmijkaaDoor.Hand
open Go.RowKit Go.Proofs.YtglalkenkmijkaaDoorW.PrintWords Go.Proofs.YtglalkenkmijkaaDoorW.PrintLast Go.Proofs.YtglalkenkmijkaaDoorW.PrintMore
set_option linter.unusedVariables false
set_option linter.unusedSimpArgs false

theorem below_any0 (w : World) : Below w.heap.size w w.drew := below_drew1 (Below.refl _ _)
theorem below_any1 (w : World) (n : Nat) : Below w.heap.size w (w.drewN n).drew := below_drew1 (pw_below_drewN (Below.refl _ _) _)

set_option maxHeartbeats 4000000 in
set_option maxRecDepth 100000 in
theorem on_walk (f : List Int) (gw gr : Int → Int) (m : Nat) (ih : ∀ k, k < m → OverSaid f gw gr k ∧ OnSaid f gw gr k) : OnSaid f gw gr m := by
  intro A c left i at_ second met out out' v Gw Gr b w0 W hGw hGr hG hO hn hc hf hfr hl hi0 hi1 h
  cases m with
  | zero => simp [onF] at h
  | succ m =>
  simp only [onF] at h
  split at h
  · rename_i hh
    obtain ⟨ha0, ha1, hmet⟩ := hh
    have hM : 0 ≤ met ∧ met < 128 := by simpa [okS] using hmet
    have hM0 := hM.1
    have hM1 := hM.2
    clear hM hmet
    have HG := Aside0.mk hG
    have HW := Aside0.mk hGw
    have HR := Aside0.mk hGr
    have HF := Aside0.mk hfr
    have IH := Aside0.mk ih
    have H := Aside0.mk h
    have HO := Aside0.mk hO
    have HN := Aside0.mk hn
    have hcf := cell_of_one hO.ov.bf
    clear hG hGw hGr hfr ih h hO hn
    go_enter Tryd.func93, Tryd.ntmps93
    go_wp2_with fail
    go_loopg [16] m (fun gk v16 W => ∃ k : Nat, k ≤ f.length ∧ v16 = .int .i64 k ∧ Aside0 (∃ (v : Value) (out : List Int), Oo w0 A c f left i Gw Gr b v out W ∧ W.heap[b.n]? = some (.cells #[onV b] 105 (0, 0)) ∧ onL f gw gr gk i left at_ second met k out = some out' ∧ gk ≤ m))
    case atStart => exact ⟨0, by omega, rfl, ⟨_, _, HO.out, HN.out, H.out, Nat.le_refl _⟩⟩
    case round =>
      obtain ⟨k, hk, rfl, HJ⟩ := hrel
      clear HO H HN hcf
      obtain ⟨v, out, hO, hn, hwi, hm⟩ := HJ.out
      clear HJ
      cases gk with
      | zero => simp [onL] at hwi
      | succ gk =>
      simp only [onL] at hwi
      by_cases hlt : k < f.length
      · rw [if_pos hlt] at hwi
        have hk0 : (0 : Int) ≤ k := by omega
        have hk1 : (k : Int) ≤ 6 := by omega
        have hcf : wr.cell? ⟨b.f, 0, none⟩ = _ := cell_of_one hO.ov.bf
        have hcl : wr.cell? ⟨b.l, 0, none⟩ = _ := cell_of_one hO.ov.bl
        have hci : wr.cell? ⟨b.i, 0, none⟩ = _ := cell_of_one hO.ov.bi
        obtain ⟨ad, e, hela⟩ := Kd.at_int hO.ov.reads at_ ha0 ha1
        cases e
        obtain ⟨ad2, e, helk⟩ := Kd.at_int hO.ov.reads k hk0 (by omega)
        cases e
        have helk' : wr.cell? (ad.add k) = some (.int .i64 (rd f k)) := by simpa using helk
        have HO := Aside0.mk hO
        have HN := Aside0.mk hn
        have hcn : wr.cell? ⟨b.n, 0, none⟩ = some (.func (.func 93) #[] #[.pointer (some ⟨b.f, 0, none⟩), .pointer (some ⟨b.l, 0, none⟩), .pointer (some ⟨b.i, 0, none⟩), .pointer (some ⟨b.m, 0, none⟩), .pointer (some ⟨b.x, 0, none⟩), .pointer (some ⟨b.n, 0, none⟩)]) := cell_of_one hn
        have hw2 : IntKind.i64.wrap (2 ^ k) = 2 ^ k := pow_in k hk0 hk1
        clear hO hn helk
        by_cases ht : Go.bits .and .i64 (Go.bits .andNot .i64 (Go.bits .and .i64 (rd f at_) left) met / 2 ^ k) 1 = 0
        · rw [if_pos ht] at hwi
          have ht' : (Go.bits .and .i64 (Go.bits .andNot .i64 (Go.bits .and .i64 (rd f at_) left) met / 2 ^ k) 1 == 0) = true := by simpa using ht
          clear ht
          have HH := Aside0.mk hwi
          clear hwi
          go_wp2_with fail
          go_quiet (fail)
          go_wp2_with fail
          go_roundg gk
          case measure => omega
          case rel => exact ⟨k + 1, by omega, by go_num, ⟨v, out, HO.out.grow (pw_below_drewN (Below.refl _ _) _), HN.out, HH.out, by omega⟩⟩
        · rw [if_neg ht] at hwi
          have ht' : (Go.bits .and .i64 (Go.bits .andNot .i64 (Go.bits .and .i64 (rd f at_) left) met / 2 ^ k) 1 == 0) = false := by simpa using ht
          clear ht
          obtain ⟨o1, hwi, hw2⟩ := Option.bind_eq_some_iff.1 hwi
          obtain ⟨o2, hw2, hw3⟩ := Option.bind_eq_some_iff.1 hw2
          have H2 := Aside0.mk hw2
          have H3 := Aside0.mk hw3
          clear hw2 hw3
          by_cases hcond : 0 < met ∧ second < (k : Int) ∧ tst (rd f k) i = true
          · rw [if_pos hcond] at hwi
            obtain ⟨hmp, hs, htt⟩ := hcond
            have hmd : decide (0 < met) = true := decide_eq_true hmp
            have hmz : (met == 0) = false := by simp; omega
            have hsd : decide (second < (k : Int)) = true := decide_eq_true hs
            have htd : (Go.bits .and .i64 (rd f k / 2 ^ i.toNat) 1 == 1) = true := htt
            have hme : ¬ met = 0 := by omega
            rw [if_neg hme] at H2
            clear hs htt hme
            split at hwi
            · rename_i hs4
              obtain ⟨l1, hl1, hmo⟩ := Option.bind_eq_some_iff.1 hwi
              clear hwi
              unfold moreO at hmo
              split at hmo
              · rename_i hb4
                obtain ⟨hb4, hb41, hb42, hb5⟩ := hb4
                obtain rfl := Option.some.inj hmo
                clear hmo
                have HL1 := Aside0.mk hl1
                clear hl1
                have hmu : IntKind.u64.wrap met = met := by rw [IntKind.wrap_u64]; omega
                have hw3 : IntKind.i64.wrap (pop met + 2) = pop met + 2 := IntWalk.i64_in _ (by omega)
                have hcf : wr.cell? ⟨b.f, 0, none⟩ = some (.slice (some ad) f.length c) := cell_of_one HO.out.ov.bf
                have hcl : wr.cell? ⟨b.l, 0, none⟩ = some (.int .i64 left) := cell_of_one HO.out.ov.bl
                have hcm : wr.cell? ⟨b.m, 0, none⟩ = some (.func (.func 92) #[] #[.pointer (some ⟨b.o, 0, none⟩)]) := cell_of_one HO.out.ov.bm
                have hx0 : wr.cell? ⟨b.x, 0, none⟩ = some (.func (.func Gw) #[] #[]) := (blk_cell HO.out.ov.bx 0).trans rfl
                have hx1 : wr.cell? ⟨b.x, 1, none⟩ = some (.func (.func Gr) #[] #[]) := (blk_cell HO.out.ov.bx 1).trans rfl
                go_wp2_with fail
                go_quiet (fail)
                go_wp2_with fail
                go_quiet (fail)
                go_wp2_with fail
                go_region_held3 (fun w' => w'.cell? ⟨b.f, 0, none⟩ = some (.slice (some ad) f.length c) ∧ w'.cell? ⟨b.l, 0, none⟩ = some (.int .i64 left) ∧ w'.cell? ⟨b.m, 0, none⟩ = some (.func (.func 92) #[] #[.pointer (some ⟨b.o, 0, none⟩)]) ∧ w'.cell? ⟨b.x, 0, none⟩ = some (.func (.func Gw) #[] #[]) ∧ w'.cell? ⟨b.x, 1, none⟩ = some (.func (.func Gr) #[] #[])) (first | go_keep | exact ⟨hcf4, hcl4, hcm4, hx04, hx14⟩ | exact ⟨hcf5, hcl5, hcm5, hx05, hx15⟩)
                  (first
                    | (go_at_call 68; refine (pop_calls met hM0 hM1 _).mono ?_; rintro e w' ⟨rfl, rfl⟩)
                    | (go_at_call 71; refine ((IH.out gk (by omega)).1 _ _ _ l1 Gw Gr _ HW.out HR.out (HG.out.of_below (below_drew1 (pw_below_drewN HO.out.ov.below _))) (Kd.C_below HO.out.ov.frame (below_drew1 (pw_below_drewN HO.out.ov.below _))) hc hf HF.out hs4 HL1.out).mono ?_; rintro e w4 ⟨vl, rfl, hRl, hbl⟩; obtain ⟨Al, cl, el⟩ := Kd.R_slice hRl; subst el; have hb3 : Below wr.heap.size wr w4 := ⟨hbl.os, hbl.tape, hbl.output, hbl.size, hbl.block⟩; have HO4 := Aside0.mk (HO.out.grow hb3); have HB4 := Aside0.mk hb3; have HN4 := Aside0.mk ((hb3.block _ (lt_of_block HN.out)).trans HN.out); have HRl := Aside0.mk hRl; clear hRl hbl hb3; have hcf4 : w4.cell? ⟨b.f, 0, none⟩ = some (.slice (some ad) f.length c) := cell_of_one HO4.out.ov.bf; have hcl4 : w4.cell? ⟨b.l, 0, none⟩ = some (.int .i64 left) := cell_of_one HO4.out.ov.bl; have hcm4 : w4.cell? ⟨b.m, 0, none⟩ = some (.func (.func 92) #[] #[.pointer (some ⟨b.o, 0, none⟩)]) := cell_of_one HO4.out.ov.bm; have hx04 : w4.cell? ⟨b.x, 0, none⟩ = some (.func (.func Gw) #[] #[]) := (blk_cell HO4.out.ov.bx 0).trans rfl; have hx14 : w4.cell? ⟨b.x, 1, none⟩ = some (.func (.func Gr) #[] #[]) := (blk_cell HO4.out.ov.bx 1).trans rfl)
                    | (go_at_call 92; refine (more_calls' Gr gr HR.out (pop met + 2) hb41 hb42 Al cl l1 b.o v out w0 w4 (fun k => OP w0 b k ∧ k < wr.heap.size) ⟨HO.out.ov.op, lt_of_block HO.out.var⟩ HO.out.ov.op.1 (fun W_ hk => kept_reads HRl.out hk) hb4 hb5 (HO.out.minv HB4.out)).mono ?_; rintro e w5 ⟨rfl, v5, hM⟩; have HO5 := Aside0.mk (HO.out.of_minv HB4.out (lt_of_block HN4.out) hM); have HN5 := Aside0.mk ((hM.kept.2 _ (lt_of_block HN4.out) (fun e => e.1.2.2.2.2.2.2 rfl)).trans HN4.out); clear hM; have hcf5 : w5.cell? ⟨b.f, 0, none⟩ = some (.slice (some ad) f.length c) := cell_of_one HO5.out.ov.bf; have hcl5 : w5.cell? ⟨b.l, 0, none⟩ = some (.int .i64 left) := cell_of_one HO5.out.ov.bl; have hcm5 : w5.cell? ⟨b.m, 0, none⟩ = some (.func (.func 92) #[] #[.pointer (some ⟨b.o, 0, none⟩)]) := cell_of_one HO5.out.ov.bm; have hx05 : w5.cell? ⟨b.x, 0, none⟩ = some (.func (.func Gw) #[] #[]) := (blk_cell HO5.out.ov.bx 0).trans rfl; have hx15 : w5.cell? ⟨b.x, 1, none⟩ = some (.func (.func Gr) #[] #[]) := (blk_cell HO5.out.ov.bx 1).trans rfl))
                have hcn5 : w5.cell? ⟨b.n, 0, none⟩ = some (.func (.func 93) #[] #[.pointer (some ⟨b.f, 0, none⟩), .pointer (some ⟨b.l, 0, none⟩), .pointer (some ⟨b.i, 0, none⟩), .pointer (some ⟨b.m, 0, none⟩), .pointer (some ⟨b.x, 0, none⟩), .pointer (some ⟨b.n, 0, none⟩)]) := cell_of_one HN5.out
                go_wp2_with fail
                go_region_held3 (fun w' => w'.cell? ⟨b.n, 0, none⟩ = some (.func (.func 93) #[] #[.pointer (some ⟨b.f, 0, none⟩), .pointer (some ⟨b.l, 0, none⟩), .pointer (some ⟨b.i, 0, none⟩), .pointer (some ⟨b.m, 0, none⟩), .pointer (some ⟨b.x, 0, none⟩), .pointer (some ⟨b.n, 0, none⟩)])) (first | go_keep | exact hcn6)
                  (first
                    | (go_at_call 93; refine ((IH.out gk (by omega)).2 _ c left i k second (Go.bits .or .i64 met (2 ^ k)) (moreL gr (pop met + 2).toNat l1 out) o2 v5 Gw Gr b w0 _ HW.out HR.out HG.out (HO5.out.grow (below_any0 _)) HN5.out hc hf HF.out hl hi0 hi1 H2.out).mono ?_; rintro e w6 ⟨rfl, v', hO6, hn6⟩; have hcn6 : w6.cell? ⟨b.n, 0, none⟩ = some (.func (.func 93) #[] #[.pointer (some ⟨b.f, 0, none⟩), .pointer (some ⟨b.l, 0, none⟩), .pointer (some ⟨b.i, 0, none⟩), .pointer (some ⟨b.m, 0, none⟩), .pointer (some ⟨b.x, 0, none⟩), .pointer (some ⟨b.n, 0, none⟩)]) := cell_of_one hn6; have HO6 := Aside0.mk hO6; have HN6 := Aside0.mk hn6; clear hO6 hn6))
                go_wp2_with fail
                go_roundg gk
                case measure => omega
                case rel => exact ⟨k + 1, by omega, by go_num, ⟨_, _, HO6.out, HN6.out, H3.out, by omega⟩⟩
              · simp at hmo
            · simp at hwi
          · rw [if_neg hcond] at hwi
            obtain rfl := Option.some.inj hwi
            clear hwi
            by_cases hm0 : met = 0
            · subst hm0
              clear hcond
              rw [if_pos rfl] at H2
              go_wp2_with fail
              go_quiet (fail)
              go_wp2_with fail
              go_quiet (fail)
              go_wp2_with fail
              go_region_held3 (fun w' => w'.cell? ⟨b.n, 0, none⟩ = some (.func (.func 93) #[] #[.pointer (some ⟨b.f, 0, none⟩), .pointer (some ⟨b.l, 0, none⟩), .pointer (some ⟨b.i, 0, none⟩), .pointer (some ⟨b.m, 0, none⟩), .pointer (some ⟨b.x, 0, none⟩), .pointer (some ⟨b.n, 0, none⟩)])) (first | go_keep | exact hcn4)
                (first
                  | (go_at_call 93; refine ((IH.out gk (by omega)).2 _ c left i k k (Go.bits .or .i64 0 (2 ^ k)) out o2 v Gw Gr b w0 _ HW.out HR.out HG.out (HO.out.grow (below_any1 _ _)) HN.out hc hf HF.out hl hi0 hi1 H2.out).mono ?_; rintro e w4 ⟨rfl, v', hO4, hn4⟩; have hcn4 : w4.cell? ⟨b.n, 0, none⟩ = some (.func (.func 93) #[] #[.pointer (some ⟨b.f, 0, none⟩), .pointer (some ⟨b.l, 0, none⟩), .pointer (some ⟨b.i, 0, none⟩), .pointer (some ⟨b.m, 0, none⟩), .pointer (some ⟨b.x, 0, none⟩), .pointer (some ⟨b.n, 0, none⟩)]) := cell_of_one hn4; have HO4 := Aside0.mk hO4; have HN4 := Aside0.mk hn4; clear hO4 hn4))
              go_wp2_with fail
              go_roundg gk
              case measure => omega
              case rel => exact ⟨k + 1, by omega, by go_num, ⟨_, _, HO4.out, HN4.out, H3.out, by omega⟩⟩
            · rw [if_neg hm0] at H2
              have hmp : 0 < met := by omega
              have hmd : decide (0 < met) = true := decide_eq_true hmp
              have hmz : (met == 0) = false := by simpa using hm0
              by_cases hs : second < (k : Int)
              · have hsd : decide (second < (k : Int)) = true := decide_eq_true hs
                have htd : (Go.bits .and .i64 (rd f k / 2 ^ i.toNat) 1 == 1) = false := by
                  have : ¬ tst (rd f k) i = true := fun e => hcond ⟨hmp, hs, e⟩
                  simpa [tst] using this
                clear hcond hs hm0
                go_wp2_with fail
                go_quiet (fail)
                go_wp2_with fail
                go_quiet (fail)
                go_wp2_with fail
                go_region_held3 (fun w' => w'.cell? ⟨b.n, 0, none⟩ = some (.func (.func 93) #[] #[.pointer (some ⟨b.f, 0, none⟩), .pointer (some ⟨b.l, 0, none⟩), .pointer (some ⟨b.i, 0, none⟩), .pointer (some ⟨b.m, 0, none⟩), .pointer (some ⟨b.x, 0, none⟩), .pointer (some ⟨b.n, 0, none⟩)])) (first | go_keep | exact hcn4)
                  (first
                    | (go_at_call 93; refine ((IH.out gk (by omega)).2 _ c left i k second (Go.bits .or .i64 met (2 ^ k)) out o2 v Gw Gr b w0 _ HW.out HR.out HG.out (HO.out.grow (below_any1 _ _)) HN.out hc hf HF.out hl hi0 hi1 H2.out).mono ?_; rintro e w4 ⟨rfl, v', hO4, hn4⟩; have hcn4 : w4.cell? ⟨b.n, 0, none⟩ = some (.func (.func 93) #[] #[.pointer (some ⟨b.f, 0, none⟩), .pointer (some ⟨b.l, 0, none⟩), .pointer (some ⟨b.i, 0, none⟩), .pointer (some ⟨b.m, 0, none⟩), .pointer (some ⟨b.x, 0, none⟩), .pointer (some ⟨b.n, 0, none⟩)]) := cell_of_one hn4; have HO4 := Aside0.mk hO4; have HN4 := Aside0.mk hn4; clear hO4 hn4))
                go_wp2_with fail
                go_roundg gk
                case measure => omega
                case rel => exact ⟨k + 1, by omega, by go_num, ⟨_, _, HO4.out, HN4.out, H3.out, by omega⟩⟩
              · have hsd : decide (second < (k : Int)) = false := decide_eq_false hs
                clear hcond hs hm0
                go_wp2_with fail
                go_quiet (fail)
                go_wp2_with fail
                go_quiet (fail)
                go_wp2_with fail
                go_region_held3 (fun w' => w'.cell? ⟨b.n, 0, none⟩ = some (.func (.func 93) #[] #[.pointer (some ⟨b.f, 0, none⟩), .pointer (some ⟨b.l, 0, none⟩), .pointer (some ⟨b.i, 0, none⟩), .pointer (some ⟨b.m, 0, none⟩), .pointer (some ⟨b.x, 0, none⟩), .pointer (some ⟨b.n, 0, none⟩)])) (first | go_keep | exact hcn4)
                  (first
                    | (go_at_call 93; refine ((IH.out gk (by omega)).2 _ c left i k second (Go.bits .or .i64 met (2 ^ k)) out o2 v Gw Gr b w0 _ HW.out HR.out HG.out (HO.out.grow (below_any1 _ _)) HN.out hc hf HF.out hl hi0 hi1 H2.out).mono ?_; rintro e w4 ⟨rfl, v', hO4, hn4⟩; have hcn4 : w4.cell? ⟨b.n, 0, none⟩ = some (.func (.func 93) #[] #[.pointer (some ⟨b.f, 0, none⟩), .pointer (some ⟨b.l, 0, none⟩), .pointer (some ⟨b.i, 0, none⟩), .pointer (some ⟨b.m, 0, none⟩), .pointer (some ⟨b.x, 0, none⟩), .pointer (some ⟨b.n, 0, none⟩)]) := cell_of_one hn4; have HO4 := Aside0.mk hO4; have HN4 := Aside0.mk hn4; clear hO4 hn4))
                go_wp2_with fail
                go_roundg gk
                case measure => omega
                case rel => exact ⟨k + 1, by omega, by go_num, ⟨_, _, HO4.out, HN4.out, H3.out, by omega⟩⟩
      · rw [if_neg hlt] at hwi
        obtain rfl := Option.some.inj hwi
        clear hwi
        have hke : k = f.length := by omega
        subst hke
        have HO := Aside0.mk hO
        have HN := Aside0.mk hn
        clear hO hn
        go_wp2_with fail
        go_end0
        exact ⟨rfl, _, HO.out, HN.out⟩
  · simp at h

theorem over_on (f : List Int) (gw gr : Int → Int) (m : Nat) : OverSaid f gw gr m ∧ OnSaid f gw gr m := by
  induction m using Nat.strongRecOn with
  | _ m ih => exact ⟨over_walk f gw gr m ih, on_walk f gw gr m ih⟩
end Go.Proofs.YtglalkenkmijkaaDoor.Hand
/- 'read', which looks at frames: a walk. -/
namespace Go.Proofs.YtglalkenkmijkaaDoor.Hand
open Go.RowKit Go.Proofs.YtglalkenkmijkaaDoorW.PrintWords Go.Proofs.YtglalkenkmijkaaDoorW.PrintLast Go.Proofs.YtglalkenkmijkaaDoorW.PrintMore
set_option linter.unusedVariables false
set_option linter.unusedSimpArgs false

def tstN (s : Int) (k : Nat) : Int := Go.bits .and .i64 (s / 2 ^ k) 1
def rowOk (l : List Int) (i : Nat) : Bool := decide (0 ≤ rd l i) && decide (rd l i < 2 ^ l.length) && !(tstN (rd l i) i == 1)
def symOk (l : List Int) (i k : Nat) : Bool := tstN (rd l i) k == tstN (rd l k) i
def isFr (l : List Int) : Bool := decide (1 ≤ l.length) && decide (l.length ≤ 7) && (List.range l.length).all fun i => rowOk l i && (List.range l.length).all fun k => symOk l i k

theorem isFr_of_row {l : List Int} {i : Nat} (hi : i < l.length) (h : rowOk l i = false) : isFr l = false := by
  cases hb : isFr l with
  | false => rfl
  | true =>
    unfold isFr at hb
    simp only [Bool.and_eq_true, List.all_eq_true, List.mem_range] at hb
    rw [(hb.2 i hi).1] at h
    cases h
theorem isFr_of_sym {l : List Int} {i k : Nat} (hi : i < l.length) (hk : k < l.length) (h : symOk l i k = false) : isFr l = false := by
  cases hb : isFr l with
  | false => rfl
  | true =>
    unfold isFr at hb
    simp only [Bool.and_eq_true, List.all_eq_true, List.mem_range] at hb
    rw [(hb.2 i hi).2 k hk] at h
    cases h
theorem isFr_of_all {l : List Int} (h1 : 1 ≤ l.length) (h2 : l.length ≤ 7) (h : ∀ i, i < l.length → rowOk l i = true ∧ ∀ k, k < l.length → symOk l i k = true) : isFr l = true := by
  unfold isFr
  simp only [Bool.and_eq_true, List.all_eq_true, List.mem_range, decide_eq_true_eq]
  exact ⟨⟨h1, h2⟩, h⟩
theorem pow_in' (i : Nat) (h1 : i ≤ 7) : IntKind.i64.wrap (2 ^ i) = 2 ^ i := by
  have : i < 8 := by omega
  clear h1
  revert this
  revert i
  decide +kernel

def ReadP (A : Option Addr) (c : Nat) (l : List Int) (w : World) (e : Ending) (w' : World) : Prop := e = .returned (.tuple #[if isFr l then .slice A l.length c else .slice none 0 0, .bool (isFr l)]) ∧ ∃ n, w' = w.drewN n
theorem ReadP.no {A : Option Addr} {c : Nat} {l : List Int} {w : World} (h : isFr l = false) (n : Nat) : ReadP A c l w (.returned (.tuple #[.slice none 0 0, .bool false])) (w.drewN n) := by
  unfold ReadP
  rw [h]
  exact ⟨rfl, n, rfl⟩
theorem ReadP.yes {A : Option Addr} {c : Nat} {l : List Int} {w : World} (h : isFr l = true) (n : Nat) : ReadP A c l w (.returned (.tuple #[.slice A l.length c, .bool true])) (w.drewN n) := by
  unfold ReadP
  rw [h]
  exact ⟨rfl, n, rfl⟩

set_option maxHeartbeats 4000000 in
set_option maxRecDepth 100000 in
theorem read_calls (A : Option Addr) (c : Nat) (l : List Int) (w : World) (hC : Kd.C (Kd.int .i64) w A l.length l) (hc : l.length ≤ c) :
    Calls Tryd.prog 51 #[.slice A l.length c] w (ReadP A c l w) := by
  have HC := Aside0.mk hC
  clear hC
  by_cases h1 : 1 ≤ l.length ∧ l.length ≤ 7
  · obtain ⟨h1, h2⟩ := h1
    have g1 : decide ((l.length : Int) < 1) = false := decide_eq_false (by omega)
    have g2 : decide ((7 : Int) < l.length) = false := decide_eq_false (by omega)
    have g1' : decide (l.length < 1) = false := decide_eq_false (by omega)
    have g2' : decide (7 < l.length) = false := decide_eq_false (by omega)
    have hw1 : IntKind.i64.wrap (2 ^ l.length) = 2 ^ l.length := pow_in' _ h2
    go_enter Tryd.func51, Tryd.ntmps51
    go_wp2_with fail
    go_loopg [18] l.length (fun gk v18 W => ∃ i : Nat, i ≤ l.length ∧ gk = l.length - i ∧ v18 = .int .i64 i ∧ Aside0 ((∃ n, W = w.drewN n) ∧ ∀ j, j < i → rowOk l j = true ∧ ∀ k, k < l.length → symOk l j k = true))
    case atStart => exact ⟨0, by omega, rfl, rfl, ⟨⟨0, rfl⟩, fun j hj => by omega⟩⟩
    case round =>
      obtain ⟨i, hi, rfl, rfl, HJ⟩ := hrel
      by_cases hlt : i < l.length
      · obtain ⟨⟨nq, hnq⟩, hall⟩ := HJ.out
        clear HJ
        subst hnq
        have HA := Aside0.mk hall
        clear hall
        have hi0 : (0 : Int) ≤ i := by omega
        have hi1 : (i : Int) ≤ 6 := by omega
        obtain ⟨ad, e, hel⟩ := Kd.at_int HC.out i hi0 (by omega)
        cases e
        have hel' : (w.drewN nq).cell? (ad.add i) = some (.int .i64 (rd l i)) := by simpa using hel
        clear hel
        by_cases hneg : 0 ≤ rd l i
        · have d1 : decide (rd l i < 0) = false := by simp; omega
          by_cases hbig : rd l i < 2 ^ l.length
          · have d2 : decide (2 ^ l.length ≤ rd l i) = false := by simp; omega
            by_cases hself : (Go.bits .and .i64 (rd l i / 2 ^ i) 1 == 1) = true
            · have HN := Aside0.mk (isFr_of_row hlt (by unfold rowOk tstN; rw [hself]; simp))
              go_wp2_with fail
              go_ret2
              exact ReadP.no HN.out _
            · have hself : (Go.bits .and .i64 (rd l i / 2 ^ i) 1 == 1) = false := by simpa using hself
              have HR := Aside0.mk (show rowOk l i = true by unfold rowOk tstN; rw [hself]; simp; omega)
              clear hneg hbig
              go_wp2_with fail
              go_loopg [41] l.length (fun gk v41 W => ∃ k : Nat, k ≤ l.length ∧ gk = l.length - k ∧ v41 = .int .i64 k ∧ Aside0 ((∃ n, W = w.drewN n) ∧ ∀ j, j < k → symOk l i j = true))
              case atStart => exact ⟨0, by omega, rfl, rfl, ⟨⟨_, rfl⟩, fun j hj => by omega⟩⟩
              case round =>
                obtain ⟨k, hk, rfl, rfl, HJ⟩ := hrel
                clear hel'
                obtain ⟨⟨nr, hnr⟩, hall⟩ := HJ.out
                clear HJ
                subst hnr
                have HB := Aside0.mk hall
                clear hall
                by_cases hkl : k < l.length
                · have hk0 : (0 : Int) ≤ k := by omega
                  have hk1 : (k : Int) ≤ 6 := by omega
                  obtain ⟨ad2, e, hel⟩ := Kd.at_int HC.out k hk0 (by omega)
                  cases e
                  have hel' : (w.drewN nr).cell? (ad.add k) = some (.int .i64 (rd l k)) := by simpa using hel
                  clear hel
                  by_cases hs : (Go.bits .and .i64 (rd l i / 2 ^ k) 1 == Go.bits .and .i64 (rd l k / 2 ^ i) 1) = true
                  · have hs' : (Go.bits .and .i64 (rd l i / 2 ^ k) 1 != Go.bits .and .i64 (rd l k / 2 ^ i) 1) = false := by simpa using hs
                    have HS := Aside0.mk (show symOk l i k = true from hs)
                    clear hs
                    go_wp2_with fail
                    go_quiet (fail)
                    go_wp2_with fail
                    go_roundg (l.length - (k + 1))
                    case measure => omega
                    case rel => exact ⟨k + 1, by omega, rfl, by go_num, ⟨⟨_, rfl⟩, fun j hj => by rcases Nat.lt_succ_iff_lt_or_eq.1 hj with h | h; exact HB.out j h; subst h; exact HS.out⟩⟩
                  · have hs' : (Go.bits .and .i64 (rd l i / 2 ^ k) 1 != Go.bits .and .i64 (rd l k / 2 ^ i) 1) = true := by simpa using hs
                    have HS := Aside0.mk (isFr_of_sym hlt hkl (show symOk l i k = false by simpa [symOk, tstN] using hs))
                    clear hs
                    go_wp2_with fail
                    go_quiet (fail)
                    go_wp2_with fail
                    go_ret2
                    rw [World.drewN_drewN]
                    exact ReadP.no HS.out _
                · have hke : k = l.length := by omega
                  subst hke
                  go_wp2_with fail
                  go_roundg (l.length - (i + 1))
                  case measure => omega
                  case rel => exact ⟨i + 1, by omega, rfl, by go_num, ⟨⟨_, rfl⟩, fun j hj => by rcases Nat.lt_succ_iff_lt_or_eq.1 hj with h | h; exact HA.out j h; subst h; exact ⟨HR.out, HB.out⟩⟩⟩
          · have d2 : decide (2 ^ l.length ≤ rd l i) = true := by simp; omega
            have HN := Aside0.mk (isFr_of_row hlt (by unfold rowOk; simp; omega))
            go_wp2_with fail
            go_ret2
            exact ReadP.no HN.out _
        · have d1 : decide (rd l i < 0) = true := by simp; omega
          have HN := Aside0.mk (isFr_of_row hlt (by unfold rowOk; simp; omega))
          go_wp2_with fail
          go_ret2
          exact ReadP.no HN.out _
      · have hie : i = l.length := by omega
        subst hie
        obtain ⟨⟨nq, hnq⟩, hall⟩ := HJ.out
        clear HJ
        subst hnq
        have HY := Aside0.mk (isFr_of_all h1 h2 hall)
        clear hall
        go_wp2_with fail
        go_ret2
        exact ReadP.yes HY.out _
  · have HN := Aside0.mk (show isFr l = false by
      unfold isFr
      rw [show (decide (1 ≤ l.length) && decide (l.length ≤ 7)) = false by simpa using h1]
      rfl)
    by_cases h3 : l.length < 1
    · have g1 : decide ((l.length : Int) < 1) = true := decide_eq_true (by omega)
      have g1' : decide (l.length < 1) = true := decide_eq_true (by omega)
      go_enter Tryd.func51, Tryd.ntmps51
      go_wp2_with fail
      go_ret2
      exact ReadP.no HN.out 0
    · have g1 : decide ((l.length : Int) < 1) = false := decide_eq_false (by omega)
      have g1' : decide (l.length < 1) = false := decide_eq_false (by omega)
      have g2 : decide ((7 : Int) < l.length) = true := decide_eq_true (by omega)
      have g2' : decide (7 < l.length) = true := decide_eq_true (by omega)
      go_enter Tryd.func51, Tryd.ntmps51
      go_wp2_with fail
      go_ret2
      exact ReadP.no HN.out 0

/-- 'all': the set of all knots. -/
theorem all_calls (A : Option Addr) (c : Nat) (l : List Int) (h2 : l.length ≤ 7) (w : World) : Calls Tryd.prog 69 #[.slice A l.length c] w fun e w' => e = .returned (.int .i64 (2 ^ l.length - 1)) ∧ w = w' := by
  have hw1 : IntKind.i64.wrap (2 ^ l.length) = 2 ^ l.length := pow_in' _ h2
  have hp : (1 : Int) ≤ 2 ^ l.length ∧ (2 : Int) ^ l.length ≤ 128 := by
    generalize l.length = n at h2
    have : n < 8 := by omega
    clear h2
    revert this
    revert n
    decide +kernel
  have hp1 := hp.1
  have hp2 := hp.2
  clear hp
  have hfin : wrap64 (wrap64 (2 ^ l.length) - 1) = 2 ^ l.length - 1 := by rw [← i64_w, ← i64_w, hw1, IntWalk.i64_in _ (by omega)]
  have HFIN := Aside0.mk hfin
  clear hfin hw1 hp1 hp2
  go_enter Tryd.func69, Tryd.ntmps69
  go_wp2
  go_ret
  refine ⟨?_, rfl⟩
  show Ending.returned (.int .i64 (wrap64 (wrap64 (2 ^ l.length) - 1))) = _
  rw [HFIN.out]
end Go.Proofs.YtglalkenkmijkaaDoor.Hand
/- 'of', which makes a polynomial of sums over figures: a walk. -/
namespace Go.Proofs.YtglalkenkmijkaaDoor.Hand
open Go.RowKit Go.Proofs.YtglalkenkmijkaaDoorW.PrintWords Go.Proofs.YtglalkenkmijkaaDoorW.PrintLast Go.Proofs.YtglalkenkmijkaaDoorW.PrintMore
open PAll (info3)
set_option linter.unusedVariables false
set_option linter.unusedSimpArgs false

def setsTo (n : Nat) (l : List Int) : Nat → List Int
  | 0 => List.replicate (n + 1) 0
  | j + 1 => (setsTo n l j).set (n - j) (rd l j)
theorem setsTo_length (n : Nat) (l : List Int) : ∀ j, (setsTo n l j).length = n + 1
  | 0 => by simp [setsTo]
  | j + 1 => by simp [setsTo, setsTo_length n l j]
def ofF (f : List Int) (gw gr : Int → Int) (m : Nat) : Option (List Int) :=
  if okS (2 ^ f.length - 1) = true then (overF f gw gr m (2 ^ f.length - 1)).bind fun l => if l.length ≤ f.length + 1 then some (setsTo f.length l l.length) else none else none

structure OfI (w w1 W : World) (Bt : Nat) (vo : Value) (out : List Int) (vl : Value) (l : List Int) : Prop where
  told : W.heap[Bt]? = some (.cells #[.slice none 0 0, .int .i64 0] 61 (0, 0))
  row : Kd.R (Kd.int .i64) 3 W w.heap.size (fun k => k < w1.heap.size) vo out
  lrow : Kd.R (Kd.int .i64) 3 W w.heap.size (fun k => w1.heap.size ≤ k) vl l
  below : Below w.heap.size w W
theorem OfI.put {w w1 W : World} {Bt gb co : Nat} {out l : List Int} {vl : Value} (h : OfI w w1 W Bt (.slice (some ⟨gb, 0, none⟩) out.length co) out vl l) (i : Int) (x : Int) :
    OfI w w1 (W.setCell ⟨gb, i.toNat, none⟩ (.int .i64 x)) Bt (.slice (some ⟨gb, 0, none⟩) out.length co) (out.set i.toNat x) vl l := by
  have h2 := Kd.R_putg h.row i x
  have hb : w.heap.size ≤ gb := own_base h.row.2.choose_spec.1 gb rfl
  exact ⟨(h2.2.block Bt (lt_of_block h.told) (Kd.R_ne h.row h.told (by decide))).trans h.told, h2.1, Kd.R_grown h.lrow h2.2 (fun k hk e => by have := h.row.1 gb rfl; injection e with e; omega), h.below.setCell hb _⟩

theorem two_blocks (w : World) (o0 o1 : Obj) : ((w.alloc o0).alloc o1).heap[w.heap.size]? = some o0 ∧ ((w.alloc o0).alloc o1).heap[w.heap.size + 1]? = some o1 := by
  have s1 : (w.alloc o0).heap.size = w.heap.size + 1 := World.size_alloc ..
  refine ⟨?_, ?_⟩
  · rw [Below.heap_alloc _ _ _ (by omega)]; exact heap_alloc_new w o0
  · rw [← s1]; exact heap_alloc_new _ o1
theorem of_start {w w1 w2 : World} {f l : List Int} {A1 Al : Option Addr} {c1 cl : Nat} (ht : w1.heap[w.heap.size + 1]? = some (.cells #[.slice none 0 0, .int .i64 0] 61 (0, 0))) (ho : Kd.R (Kd.int .i64) 3 w1 w.heap.size (fun _ => True) (.slice A1 (f.length + 1) c1) (List.replicate ((f.length : Int) + 1).toNat 0))
    (hb : Below w.heap.size w w1) (hb2 : Below w1.heap.size w1 w2) (hl : Kd.R (Kd.int .i64) 3 w2 w1.heap.size (fun _ => True) (.slice Al l.length cl) l) :
    OfI w w1 w2 (w.heap.size + 1) (.slice A1 (f.length + 1) c1) (setsTo f.length l 0) (.slice Al l.length cl) l := by
  refine ⟨(hb2.block _ (lt_of_block ht)).trans ht, ?_, Kd.R_lower (Kd.R_mono (Kd.R_bound hl) (fun k hk => hk.2.1)) hb.size, below_then hb hb.size hb2⟩
  have e : setsTo f.length l 0 = List.replicate ((f.length : Int) + 1).toNat 0 := by show List.replicate (f.length + 1) 0 = _; congr 1
  rw [e]
  exact Kd.R_below (Kd.R_mono (Kd.R_bound ho) (fun k hk => hk.2.2.1)) hb2

set_option maxHeartbeats 4000000 in
set_option maxRecDepth 100000 in
theorem of_calls (f : List Int) (gw gr : Int → Int) (m : Nat) (A : Option Addr) (c : Nat) (r : List Int) (Gw Gr : FuncId) (w : World) (hGw : IsFn Gw gw) (hGr : IsFn Gr gr) (hG : Glob w) (hC : Kd.C (Kd.int .i64) w A f.length f) (hc : f.length ≤ c) (hf : f.length ≤ 7) (hfr : ∀ j, 0 ≤ rd f j ∧ rd f j < 128) (h : ofF f gw gr m = some r) :
    Calls Tryd.prog 54 #[.slice A f.length c, .agg #[.func (.func Gw) #[] #[], .func (.func Gr) #[] #[]]] w fun e w' => ∃ v, e = .returned (.agg #[v, .int .i64 f.length]) ∧ Kd.R (Kd.int .i64) 3 w' w.heap.size (fun _ => True) v r ∧ Below w.heap.size w w' := by
  unfold ofF at h
  split at h
  · rename_i hok
    obtain ⟨l, hl, h⟩ := Option.bind_eq_some_iff.1 h
    split at h
    · rename_i hll
      obtain rfl := Option.some.inj h
      clear h
      have HC := Aside0.mk hC
      have HG := Aside0.mk hG
      have HW := Aside0.mk hGw
      have HR := Aside0.mk hGr
      have HF := Aside0.mk hfr
      have HL := Aside0.mk hl
      clear hC hG hGw hGr hfr hl
      have hw1 : IntKind.i64.wrap ((f.length : Int) + 1) = f.length + 1 := IntWalk.i64_in _ (by omega)
      go_enter Tryd.func54, Tryd.ntmps54
      go_wp2_with ((with_reducible refine gate_dst (N := 11) rfl ?_); refine Kd.R_make (Kd.int .i64) (w0 := w) w.heap.size 3 rfl (N := 11) rfl 22 _ _ rfl ((f.length : Int) + 1) rfl rfl Tryd.underlying22 (.int .i64 0) 8 info3 rfl (by decide) (by decide) 0 (ok := fun _ => True) (okp := fun _ => True) rfl (fun _ hk => hk) trivial (by omega) (by omega) (by repeat (first | exact Below.refl _ _ | apply below_alloc)) (by simp; omega) ?_; intro v1 w1 ho hb hg hnew; obtain ⟨A1, c1, e1⟩ := Kd.R_slice ho; subst e1; have HO := Aside0.mk ho; have HB := Aside0.mk hb; have HGr := Aside0.mk hg; clear ho hb hg hnew)
      rw [show (List.replicate ((f.length : Int) + 1).toNat (0 : Int)).length = f.length + 1 from by rw [List.length_replicate]; omega] at HO
      obtain ⟨t0, t1⟩ := two_blocks w (.cells #[.func (.func Gw) #[] #[], .func (.func Gr) #[] #[]] 57) (.cells #[.slice none 0 0, .int .i64 0] 61)
      have hbx : w1.heap[w.heap.size]? = some (.cells #[.func (.func Gw) #[] #[], .func (.func Gr) #[] #[]] 57 (0, 0)) := (HGr.out.block _ (lt_of_block t0) (by simp)).trans t0
      have hbt : w1.heap[w.heap.size + 1]? = some (.cells #[.slice none 0 0, .int .i64 0] 61 (0, 0)) := (HGr.out.block _ (lt_of_block t1) (by simp)).trans t1
      have hx0 : w1.cell? ⟨w.heap.size, 0, none⟩ = some (.func (.func Gw) #[] #[]) := (blk_cell hbx 0).trans rfl
      have hx1 : w1.cell? ⟨w.heap.size, 1, none⟩ = some (.func (.func Gr) #[] #[]) := (blk_cell hbx 1).trans rfl
      have HBX := Aside0.mk hbx
      have HBT := Aside0.mk hbt
      clear t0 t1 hbx hbt HGr
      go_region_held3 (fun w' => w'.cell? ⟨w.heap.size, 0, none⟩ = some (.func (.func Gw) #[] #[]) ∧ w'.cell? ⟨w.heap.size, 1, none⟩ = some (.func (.func Gr) #[] #[])) (first | go_keep | exact ⟨hx02, hx12⟩)
        (first
          | (go_at_call 69; refine (all_calls A c f hf _).mono ?_; rintro e w' ⟨rfl, rfl⟩)
          | (go_at_call 71; refine ((over_on f gw gr m).1 A c _ l Gw Gr _ HW.out HR.out (HG.out.of_below (below_drew1 HB.out)) (Kd.C_below HC.out (below_drew1 HB.out)) hc hf HF.out hok HL.out).mono ?_; rintro e w2 ⟨vl, rfl, hRl, hbl⟩; obtain ⟨Al, cl, el⟩ := Kd.R_slice hRl; subst el; have hb2 : Below w1.heap.size w1 w2 := ⟨hbl.os, hbl.tape, hbl.output, hbl.size, hbl.block⟩; have HI := Aside0.mk (of_start HBT.out HO.out HB.out hb2 hRl); have hx02 : w2.cell? ⟨w.heap.size, 0, none⟩ = some (.func (.func Gw) #[] #[]) := (blk_cell ((hb2.block _ (lt_of_block HBX.out)).trans HBX.out) 0).trans rfl; have hx12 : w2.cell? ⟨w.heap.size, 1, none⟩ = some (.func (.func Gr) #[] #[]) := (blk_cell ((hb2.block _ (lt_of_block HBX.out)).trans HBX.out) 1).trans rfl; clear hRl hbl hb2))
      clear hx0 hx1 hx02 hx12
      go_wp2_with fail
      go_loopg [18] l.length (fun gk v18 W => ∃ k : Nat, k ≤ l.length ∧ gk = l.length - k ∧ v18 = .int .i64 k ∧ Aside0 (OfI w w1 W (w.heap.size + 1) (.slice A1 (f.length + 1) c1) (setsTo f.length l k) (.slice Al l.length cl) l))
      case atStart => exact ⟨0, by omega, rfl, rfl, HI⟩
      case round =>
        obtain ⟨k, hk, rfl, rfl, HI⟩ := hrel
        by_cases hlt : k < l.length
        · obtain ⟨ad, e, hel⟩ := Kd.at_int (Kd.R_reads' HI.out.lrow).2.2 k (by omega) (by omega)
          subst e
          have hel' : wr.cell? (ad.add k) = some (.int .i64 (rd l k)) := by simpa using hel
          clear hel
          have hlen := setsTo_length f.length l k
          obtain ⟨gb, co2, eo2, gb2, gl2, cl2, HG2⟩ := Kd.R_form HI.out.row (by omega)
          injection eo2 with ea_ en_ ec_
          subst ea_; subst ec_; clear en_
          have hq0 : (0 : Int) ≤ f.length - k := by omega
          have hq1 : ((f.length : Int) - k) < f.length + 1 := by omega
          obtain ⟨hy0, hyf⟩ := Kd.R_celln 0 HI.out.row ((f.length : Int) - k) hq0 (by omega)
          have HP := Aside0.mk ((show OfI w w1 wr (w.heap.size + 1) (.slice (some ⟨gb, 0, none⟩) (setsTo f.length l k).length c1) (setsTo f.length l k) (.slice (some ad) l.length cl) l by rw [hlen]; exact HI.out).put ((f.length : Int) - k) (rd l k))
          clear HI gb2 gl2 cl2 HG2
          have et : ((f.length : Int) - k).toNat = f.length - k := by omega
          rw [et] at hy0 hyf HP
          rw [hlen] at HP
          clear et
          have hw2 : IntKind.i64.wrap ((f.length : Int) - k) = f.length - k := IntWalk.i64_in _ (by omega)
          go_wp2_with fail
          go_roundg (l.length - (k + 1))
          case measure => omega
          case rel => exact ⟨k + 1, by omega, rfl, by go_num, HP⟩
        · have hke : k = l.length := by omega
          subst hke
          have hc0 : wr.cell? ⟨w.heap.size + 1, 0, none⟩ = some (.slice none 0 0) := (blk_cell HI.out.told 0).trans rfl
          have hc1 : wr.cell? ⟨w.heap.size + 1, 1, none⟩ = some (.int .i64 0) := (blk_cell HI.out.told 1).trans rfl
          have hf0 := blk_frozen HI.out.told 0
          have hf1 := blk_frozen HI.out.told 1
          go_wp2_with fail
          have hfin : ((wr.setCell ⟨w.heap.size + 1, 0, none⟩ (.slice A1 (f.length + 1) c1)).setCell ⟨w.heap.size + 1, 1, none⟩ (.int .i64 f.length)).heap[w.heap.size + 1]? = some (.cells #[.slice A1 (f.length + 1) c1, .int .i64 f.length] 61 (0, 0)) := blk_put (blk_put HI.out.told 0 _ rfl) 1 _ rfl
          refine bodyPost_ret (results_cell_row rfl _ _ (w.heap.size + 1) 61 #[.slice A1 (f.length + 1) c1, .int .i64 f.length] (0, 0) _ rfl hfin Tryd.underlying61 rfl (by kernel_rfl)) rfl ⟨_, rfl, ?_, (HI.out.below.setCell (by show w.heap.size ≤ w.heap.size + 1; omega) _).setCell (by show w.heap.size ≤ w.heap.size + 1; omega) _⟩
          exact Kd.R_mono (Kd.R_set (Kd.R_set HI.out.row HI.out.told (by decide) 0 _) (blk_put HI.out.told 0 _ rfl) (by decide) 1 _) (fun _ _ => trivial)
    · simp at h
  · simp at h
end Go.Proofs.YtglalkenkmijkaaDoor.Hand
/- 'trimmed' of a polynomial: a walk. -/
namespace Go.Proofs.YtglalkenkmijkaaDoor.Hand
open Go.RowKit Go.Proofs.YtglalkenkmijkaaDoorW.PrintWords Go.Proofs.YtglalkenkmijkaaDoorW.PrintLast Go.Proofs.YtglalkenkmijkaaDoorW.PrintMore
set_option linter.unusedVariables false
set_option linter.unusedSimpArgs false

/-- A list without zeros at its end. -/
def trimZ (r : List Int) : List Int := (r.reverse.dropWhile (· == 0)).reverse
theorem trimZ_nil : trimZ [] = [] := rfl
theorem trimZ_zero (xs : List Int) : trimZ (xs ++ [0]) = trimZ xs := by simp [trimZ]
theorem trimZ_last (xs : List Int) (x : Int) (h : (x == 0) = false) : trimZ (xs ++ [x]) = xs ++ [x] := by simp [trimZ, h]
theorem trimZ_step (xs : List Int) (h : 0 < xs.length) (hx : (rd xs ((xs.length : Int) - 1) == 0) = true) : trimZ (xs.take (xs.length - 1)) = trimZ xs := by
  have h1 : xs = xs.take (xs.length - 1) ++ [rd xs ((xs.length : Int) - 1)] := by
    conv => lhs; rw [← List.take_append_drop (xs.length - 1) xs]
    congr 1
    have : ((xs.length : Int) - 1).toNat = xs.length - 1 := by omega
    rw [rd, this, List.drop_eq_getElem_cons (by omega)]
    simp only [List.getD_eq_getElem?_getD, List.getElem?_eq_getElem (show xs.length - 1 < xs.length by omega), Option.getD_some]
    congr 1
    exact List.drop_eq_nil_of_le (by omega)
  conv => rhs; rw [h1]
  rw [beq_iff_eq.1 hx, trimZ_zero]
theorem trimZ_stop (xs : List Int) (hx : xs.length = 0 ∨ (rd xs ((xs.length : Int) - 1) == 0) = false) : trimZ xs = xs := by
  by_cases h : xs.length = 0
  · rw [List.eq_nil_of_length_eq_zero h]; rfl
  · have hx := hx.resolve_left h
    have h1 : xs = xs.take (xs.length - 1) ++ [rd xs ((xs.length : Int) - 1)] := by
      conv => lhs; rw [← List.take_append_drop (xs.length - 1) xs]
      congr 1
      have : ((xs.length : Int) - 1).toNat = xs.length - 1 := by omega
      rw [rd, this, List.drop_eq_getElem_cons (by omega)]
      simp only [List.getD_eq_getElem?_getD, List.getElem?_eq_getElem (show xs.length - 1 < xs.length by omega), Option.getD_some]
      congr 1
      exact List.drop_eq_nil_of_le (by omega)
    rw [h1]
    exact trimZ_last _ _ hx

structure TrI (w W : World) (base : Nat) (ok : Nat → Prop) (v : Value) (xs : List Int) : Prop where
  var : W.heap[w.heap.size]? = some (.cells #[v] 59 (0, 0))
  res : W.heap[w.heap.size + 1]? = some (.cells #[.slice none 0 0] 59 (0, 0))
  row : Kd.R (Kd.int .i64) 3 W base ok v xs
  below : Below w.heap.size w W

set_option maxHeartbeats 4000000 in
set_option maxRecDepth 100000 in
theorem trimmed_calls (base : Nat) (ok : Nat → Prop) (v : Value) (r : List Int) (w : World) (hr : Kd.R (Kd.int .i64) 3 w base ok v r) (hlen : r.length ≤ 1000) :
    Calls Tryd.prog 57 #[.agg #[v]] w fun e w' => ∃ v', e = .returned (.agg #[v']) ∧ Kd.R (Kd.int .i64) 3 w' base ok v' (trimZ r) ∧ Below w.heap.size w w' := by
  obtain ⟨A0, c0, e0⟩ := Kd.R_slice hr
  subst e0
  obtain ⟨t0, t1⟩ := two_blocks w (.cells #[.slice A0 r.length c0] 59) (.cells #[.slice none 0 0] 59)
  have HI := Aside0.mk (show TrI w ((w.alloc (.cells #[.slice A0 r.length c0] 59)).alloc (.cells #[.slice none 0 0] 59)) base ok (.slice A0 r.length c0) r from ⟨t0, t1, Kd.R_alloc (Kd.R_alloc hr _) _, below_alloc (below_alloc (Below.refl _ _) _) _⟩)
  clear t0 t1 hr
  go_enter Tryd.func57, Tryd.ntmps57
  go_wp2_with fail
  go_loopg [] r.length (fun gk W => ∃ (v : Value) (xs : List Int), gk = xs.length ∧ xs.length ≤ 1000 ∧ Aside0 (TrI w W base ok v xs) ∧ Aside0 (trimZ xs = trimZ r))
  case atStart => exact ⟨_, r, rfl, hlen, HI, ⟨rfl⟩⟩
  case round =>
    obtain ⟨v, xs, rfl, hx, HI, HT⟩ := hrel
    obtain ⟨A, c, e⟩ := Kd.R_slice HI.out.row
    subst e
    have hcv : wr.cell? ⟨w.heap.size, 0, none⟩ = some (.slice A xs.length c) := cell_of_one HI.out.var
    have hfv := free_of_one HI.out.var
    have hcr : wr.cell? ⟨w.heap.size + 1, 0, none⟩ = some (.slice none 0 0) := cell_of_one HI.out.res
    have hfr := free_of_one HI.out.res
    by_cases h0 : xs.length = 0
    · have d0 : decide ((0 : Int) < xs.length) = false := decide_eq_false (by omega)
      have d0' : decide (0 < xs.length) = false := decide_eq_false (by omega)
      have HS := Aside0.mk (trimZ_stop xs (.inl h0))
      clear h0
      go_wp2_with fail
      have hfin : (wr.setCell ⟨w.heap.size + 1, 0, none⟩ (.slice A xs.length c)).heap[w.heap.size + 1]? = some (.cells #[.slice A xs.length c] 59 (0, 0)) := one_setCell HI.out.res
      refine bodyPost_ret (results_cell_row rfl _ _ (w.heap.size + 1) 59 #[.slice A xs.length c] (0, 0) _ rfl hfin Tryd.underlying59 rfl (by kernel_rfl)) rfl ⟨_, rfl, ?_, HI.out.below.setCell (by show w.heap.size ≤ w.heap.size + 1; omega) _⟩
      rw [← HT.out, HS.out]
      exact Kd.R_set HI.out.row HI.out.res (by decide) 0 _
    · have d0 : decide ((0 : Int) < xs.length) = true := decide_eq_true (by omega)
      have d0' : decide (0 < xs.length) = true := decide_eq_true (by omega)
      have hi0 : (0 : Int) ≤ (xs.length : Int) - 1 := by omega
      have hi1 : (xs.length : Int) - 1 < xs.length := by omega
      obtain ⟨ad, e, hel⟩ := Kd.at_int (Kd.R_reads' HI.out.row).2.2 ((xs.length : Int) - 1) hi0 hi1
      subst e
      have hcap : (xs.length : Int) - 1 ≤ c := by have := (Kd.R_reads' HI.out.row).2.1; omega
      have et : ((xs.length : Int) - 1).toNat = xs.length - 1 := by omega
      rw [et] at hel
      clear et
      by_cases hz : (rd xs ((xs.length : Int) - 1) == 0) = true
      · have HS := Aside0.mk (trimZ_step xs (by omega) hz)
        go_wp2_with fail
        go_roundg (xs.length - 1)
        case measure => omega
        case rel =>
          refine ⟨_, xs.take (xs.length - 1), by rw [List.length_take]; omega, by rw [List.length_take]; omega, ⟨one_setCell HI.out.var, ?_, ?_, HI.out.below.setCell (Nat.le_refl _) _⟩, ⟨by rw [HS.out]; exact HT.out⟩⟩
          · exact (Below.heap_setCell _ _ _ _ (by show w.heap.size + 1 ≠ w.heap.size; omega)).trans HI.out.res
          · exact Kd.R_set (Kd.R_take HI.out.row (by omega)) HI.out.var (by decide) 0 _
      · have hz : (rd xs ((xs.length : Int) - 1) == 0) = false := by simpa using hz
        have HS := Aside0.mk (trimZ_stop xs (.inr hz))
        go_wp2_with fail
        have hfin : (wr.setCell ⟨w.heap.size + 1, 0, none⟩ (.slice (some ad) xs.length c)).heap[w.heap.size + 1]? = some (.cells #[.slice (some ad) xs.length c] 59 (0, 0)) := one_setCell HI.out.res
        refine bodyPost_ret (results_cell_row rfl _ _ (w.heap.size + 1) 59 #[.slice (some ad) xs.length c] (0, 0) _ rfl hfin Tryd.underlying59 rfl (by kernel_rfl)) rfl ⟨_, rfl, ?_, HI.out.below.setCell (by show w.heap.size ≤ w.heap.size + 1; omega) _⟩
        rw [← HT.out, HS.out]
        exact Kd.R_set HI.out.row HI.out.res (by decide) 0 _
end Go.Proofs.YtglalkenkmijkaaDoor.Hand
/- Tones, Matchings, Figures: walks. -/
namespace Go.Proofs.YtglalkenkmijkaaDoor.Hand
open Go.RowKit Go.Proofs.YtglalkenkmijkaaDoorW.PrintWords Go.Proofs.YtglalkenkmijkaaDoorW.PrintLast Go.Proofs.YtglalkenkmijkaaDoorW.PrintMore
set_option linter.unusedVariables false
set_option linter.unusedSimpArgs false

theorem isFr_len {l : List Int} (h : isFr l = true) : 1 ≤ l.length ∧ l.length ≤ 7 := by
  unfold isFr at h
  simp only [Bool.and_eq_true, decide_eq_true_eq] at h
  exact h.1
theorem isFr_bounds {l : List Int} (h : isFr l = true) (j : Int) : 0 ≤ rd l j ∧ rd l j < 128 := by
  have hl := isFr_len h
  unfold isFr at h
  simp only [Bool.and_eq_true, List.all_eq_true, List.mem_range] at h
  unfold rd
  by_cases hj : j.toNat < l.length
  · have h1 := (h.2 _ hj).1
    unfold rowOk at h1
    simp only [Bool.and_eq_true, decide_eq_true_eq] at h1
    have h2 : rd l (j.toNat : Int) = l.getD j.toNat 0 := by unfold rd; rw [Int.toNat_natCast]
    rw [h2] at h1
    have h3 : (2 : Int) ^ l.length ≤ 128 := by
      have : l.length < 8 := by omega
      generalize l.length = n at this
      revert this
      revert n
      decide +kernel
    omega
  · rw [List.getD_eq_getElem?_getD, List.getElem?_eq_none (by omega)]
    simp

def gneg (s : Int) : Int := wrap64 (-s)
def gneg2 (s : Int) : Int := wrap64 (-2 * s)
def gzero (_ : Int) : Int := 0
def gid (s : Int) : Int := s
def tonesF (k : Nat) (l : List Int) : Option (List Int × Int) :=
  if isFr l = true then (ofF l gneg gneg2 k).bind fun r => if r.length ≤ 1000 then some (trimZ r, 0) else none else some ([], 2)
def matchingsF (k : Nat) (l : List Int) : Option (List Int × Int) :=
  if isFr l = true then (ofF l gneg gzero k).bind fun r => if r.length ≤ 1000 then some (trimZ r, 0) else none else some ([], 2)

theorem field61_0 (a b : Value) (w : World) : Sem.run Tryd.prog (Instr.field 61 (.agg #[a, b]) 0) w = .ok (.agg #[a]) w := by kernel_rfl
theorem field59_0 (a : Value) (w : World) : Sem.run Tryd.prog (Instr.field 59 (.agg #[a]) 0) w = .ok a w := by kernel_rfl
set_option maxHeartbeats 4000000 in
set_option maxRecDepth 100000 in
theorem tones_calls (k : Nat) (A0 : Option Addr) (c0 : Nat) (l0 : List Int) (r1 : List Int) (r2 : Int) (w : World) (hr0 : Kd.C (Kd.int .i64) w A0 l0.length l0) (hc0 : l0.length ≤ c0) (h : tonesF k l0 = some (r1, r2)) (hG : Glob w) :
    Calls Tryd.prog 21 #[.slice A0 l0.length c0] w fun e w' => ∃ v0_ : Value, e = .returned (.tuple #[v0_, .int .i64 r2]) ∧ Kd.R (Kd.int .i64) 3 w' w.heap.size (fun _ => True) v0_ r1 ∧ Below w.heap.size w w' := by
  unfold tonesF at h
  by_cases hf : isFr l0 = true
  · rw [if_pos hf] at h
    obtain ⟨r, ho, h⟩ := Option.bind_eq_some_iff.1 h
    split at h
    · rename_i hr
      injection h with h
      injection h with e1 e2
      subst e1
      have HE := Aside0.mk e2
      have HC := Aside0.mk hr0
      have HG := Aside0.mk hG
      have HF := Aside0.mk hf
      have HO := Aside0.mk ho
      have g0 := hG.sachs0
      have g1 := hG.sachs1
      clear e2 hr0 hG hf ho
      go_enter Tryd.func21, Tryd.ntmps21
      go_wp2_with (first
        | (go_at_call 51; refine (read_calls A0 c0 l0 _ HC.out hc0).mono ?_; intro e w1 hh; unfold ReadP at hh; rw [HF.out] at hh; obtain ⟨rfl, n1, rfl⟩ := hh)
        | (go_at_call 54; refine (of_calls l0 gneg gneg2 k A0 c0 r 139 140 _ isFn139 isFn140 (HG.out.of_below (pw_below_drewN (Below.refl _ _) _)) (Kd.C_drewN HC.out _) hc0 (isFr_len HF.out).2 (isFr_bounds HF.out) HO.out).mono ?_; rintro e w2 ⟨v2, rfl, hR, hB⟩; obtain ⟨A2, c2, e2⟩ := Kd.R_slice hR; subst e2; have HR := Aside0.mk hR; have HB := Aside0.mk hB; clear hR hB)
        | (rw [field61_0])
        | (rw [field59_0])
        | (go_at_call 57; refine (trimmed_calls _ _ _ r _ HR.out hr).mono ?_; rintro e w3 ⟨v3, rfl, hR3, hB3⟩; obtain ⟨A3, c3, e3⟩ := Kd.R_slice hR3; subst e3; have HR3 := Aside0.mk hR3; have HB3 := Aside0.mk hB3; clear hR3 hB3))
      clear g0 g1
      have hs : w.heap.size ≤ (w.drewN n1).heap.size := Nat.le_refl _
      have hb2 : Below w.heap.size w w2 := below_then (pw_below_drewN (Below.refl _ _) n1) hs HB.out
      have hb3 : Below w.heap.size w w3 := below_then hb2 hb2.size HB3.out
      have hR4 := Kd.R_lower HR3.out hs
      have he := HE.out
      subst he
      go_ret2
      exact ⟨_, rfl, hR4, hb3⟩
    · simp at h
  · rw [if_neg hf] at h
    injection h with h
    injection h with e1 e2
    subst e1
    subst e2
    have hf : isFr l0 = false := by simpa using hf
    have HC := Aside0.mk hr0
    have HF := Aside0.mk hf
    clear hr0 hf hG
    go_enter Tryd.func21, Tryd.ntmps21
    go_wp2_with (first
        | (go_at_call 51; refine (read_calls A0 c0 l0 _ HC.out hc0).mono ?_; intro e w1 hh; unfold ReadP at hh; rw [HF.out] at hh; obtain ⟨rfl, n1, rfl⟩ := hh))
    go_ret2
    exact ⟨_, rfl, Kd.R_nil _ _ _ _ _, pw_below_drewN (Below.refl _ _) n1⟩
set_option maxHeartbeats 4000000 in
set_option maxRecDepth 100000 in
theorem matchings_calls (k : Nat) (A0 : Option Addr) (c0 : Nat) (l0 : List Int) (r1 : List Int) (r2 : Int) (w : World) (hr0 : Kd.C (Kd.int .i64) w A0 l0.length l0) (hc0 : l0.length ≤ c0) (h : matchingsF k l0 = some (r1, r2)) (hG : Glob w) :
    Calls Tryd.prog 23 #[.slice A0 l0.length c0] w fun e w' => ∃ v0_ : Value, e = .returned (.tuple #[v0_, .int .i64 r2]) ∧ Kd.R (Kd.int .i64) 3 w' w.heap.size (fun _ => True) v0_ r1 ∧ Below w.heap.size w w' := by
  unfold matchingsF at h
  by_cases hf : isFr l0 = true
  · rw [if_pos hf] at h
    obtain ⟨r, ho, h⟩ := Option.bind_eq_some_iff.1 h
    split at h
    · rename_i hr
      injection h with h
      injection h with e1 e2
      subst e1
      have HE := Aside0.mk e2
      have HC := Aside0.mk hr0
      have HG := Aside0.mk hG
      have HF := Aside0.mk hf
      have HO := Aside0.mk ho
      have g0 := hG.matched0
      have g1 := hG.matched1
      clear e2 hr0 hG hf ho
      go_enter Tryd.func23, Tryd.ntmps23
      go_wp2_with (first
        | (go_at_call 51; refine (read_calls A0 c0 l0 _ HC.out hc0).mono ?_; intro e w1 hh; unfold ReadP at hh; rw [HF.out] at hh; obtain ⟨rfl, n1, rfl⟩ := hh)
        | (go_at_call 54; refine (of_calls l0 gneg gzero k A0 c0 r 141 142 _ isFn141 isFn142 (HG.out.of_below (pw_below_drewN (Below.refl _ _) _)) (Kd.C_drewN HC.out _) hc0 (isFr_len HF.out).2 (isFr_bounds HF.out) HO.out).mono ?_; rintro e w2 ⟨v2, rfl, hR, hB⟩; obtain ⟨A2, c2, e2⟩ := Kd.R_slice hR; subst e2; have HR := Aside0.mk hR; have HB := Aside0.mk hB; clear hR hB)
        | (rw [field61_0])
        | (rw [field59_0])
        | (go_at_call 57; refine (trimmed_calls _ _ _ r _ HR.out hr).mono ?_; rintro e w3 ⟨v3, rfl, hR3, hB3⟩; obtain ⟨A3, c3, e3⟩ := Kd.R_slice hR3; subst e3; have HR3 := Aside0.mk hR3; have HB3 := Aside0.mk hB3; clear hR3 hB3))
      clear g0 g1
      have hs : w.heap.size ≤ (w.drewN n1).heap.size := Nat.le_refl _
      have hb2 : Below w.heap.size w w2 := below_then (pw_below_drewN (Below.refl _ _) n1) hs HB.out
      have hb3 : Below w.heap.size w w3 := below_then hb2 hb2.size HB3.out
      have hR4 := Kd.R_lower HR3.out hs
      have he := HE.out
      subst he
      go_ret2
      exact ⟨_, rfl, hR4, hb3⟩
    · simp at h
  · rw [if_neg hf] at h
    injection h with h
    injection h with e1 e2
    subst e1
    subst e2
    have hf : isFr l0 = false := by simpa using hf
    have HC := Aside0.mk hr0
    have HF := Aside0.mk hf
    clear hr0 hf hG
    go_enter Tryd.func23, Tryd.ntmps23
    go_wp2_with (first
        | (go_at_call 51; refine (read_calls A0 c0 l0 _ HC.out hc0).mono ?_; intro e w1 hh; unfold ReadP at hh; rw [HF.out] at hh; obtain ⟨rfl, n1, rfl⟩ := hh))
    go_ret2
    exact ⟨_, rfl, Kd.R_nil _ _ _ _ _, pw_below_drewN (Below.refl _ _) n1⟩
end Go.Proofs.YtglalkenkmijkaaDoor.Hand
