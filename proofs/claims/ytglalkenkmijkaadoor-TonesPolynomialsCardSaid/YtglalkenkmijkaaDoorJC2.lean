/- The common part 2 of the tones claims: walks over the program's text up to the layer's closed example, sums over figures, the listed variables; joined by a program. No condition beyond the statement's own. -/
import Derived.Test.YtglalkenkmijkaaDoorJC1
import Derived.BigRegion
/- The rest of a polynomial by another one: a walk. -/
namespace Go.Proofs.YtglalkenkmijkaaDoor.Hand
open Go.RowKit Go.Proofs.YtglalkenkmijkaaDoorW.PrintWords Go.Proofs.YtglalkenkmijkaaDoorW.PrintLast Go.Proofs.YtglalkenkmijkaaDoorW.PrintMore
open PAll
set_option linter.unusedVariables false
set_option linter.unusedSimpArgs false

/-- One number of the row, in a round. -/
def elF (k : Nat) (q : List S87) (size last : S87) (shift i : Nat) (x : S87) : Option S87 :=
  (tones_big_times.f k x.f0 x.f1 size.f0 size.f1).bind fun y =>
    if shift ≤ i then (tones_big_times.f k (rd_T87 q ((i : Int) - shift)).f0 (rd_T87 q ((i : Int) - shift)).f1 last.f0 last.f1).bind fun z => (tones_big_plus.f k y.1 y.2 z.1 z.2).map fun u => ⟨u.1, u.2⟩
    else some ⟨y.1, y.2⟩
def rowF (k : Nat) (q : List S87) (size last : S87) (shift : Nat) (l : List S87) : Nat → Option (List S87)
  | 0 => some l
  | i + 1 => (rowF k q size last shift l i).bind fun l' => (elF k q size last shift i (rd_T87 l' i)).map fun u => l'.set i u
def lastOf (lead x : S87) : S87 := ⟨wrap64 (x.f0 * wrap64 (-lead.f0)), x.f1⟩
def restL (k : Nat) (q : List S87) (lead : S87) : Nat → List S87 → Option (List S87)
  | 0, _ => none
  | m + 1, l => if q.length ≤ l.length then (rowF k q ⟨1, lead.f1⟩ (lastOf lead (rd_T87 l ((l.length : Int) - 1))) (l.length - q.length) l l.length).bind fun l' => restL k q lead m (l'.take (trimLen l' l'.length)) else some l
def restF (k m : Nat) (p q : List S87) : Option (List S87) := if 0 < q.length ∧ p.length ≤ 1000 then restL k q (rd_T87 q ((q.length : Int) - 1)) m p else none
theorem rowF_length {k : Nat} {q : List S87} {size last : S87} {shift : Nat} {l : List S87} : ∀ {i : Nat} {l' : List S87}, rowF k q size last shift l i = some l' → l'.length = l.length
  | 0, l', h => by injection h with h; rw [h]
  | i + 1, l', h => by
    obtain ⟨l2, h2, h⟩ := Option.bind_eq_some_iff.1 h
    obtain ⟨u, _, h⟩ := Option.map_eq_some_iff.1 h
    rw [← h, List.length_set, rowF_length h2]
theorem rd_set {l : List S87} {i : Nat} (h : i < l.length) (x : S87) : rd_T87 (l.set i x) i = x := by
  unfold rd_T87
  rw [Int.toNat_natCast, List.getD_eq_getElem?_getD, List.getElem?_set_self h]
  rfl
theorem rowF_some {k : Nat} {q : List S87} {size last : S87} {shift : Nat} {l r : List S87} : ∀ {d i : Nat}, rowF k q size last shift l (i + d) = some r → ∃ l', rowF k q size last shift l i = some l'
  | 0, i, h => ⟨r, h⟩
  | d + 1, i, h => by
    obtain ⟨l2, h2, h⟩ := Option.bind_eq_some_iff.1 (show (rowF k q size last shift l (i + d)).bind _ = some r from h)
    exact rowF_some (d := d) h2

theorem N_cells {W : World} {base n cap g : Nat} {ok : Nat → Prop} {l : List S87} (h : Kd.N k87 87 W base ok (.slice (some ⟨g, 0, none⟩) n cap) l) (i : Nat) (hi : i < n) :
    ∃ A c, W.cell? ⟨g, i * 2, none⟩ = some (.int .i64 (rd_T87 l i).f0) ∧ W.cell? ⟨g, i * 2 + 1, none⟩ = some (.slice A (rd_T87 l i).f1.length c) ∧ (rd_T87 l i).f1.length ≤ c ∧
      Kd.F (Kd.int .i64) W (fun k => ok k ∧ k ≠ g) A (rd_T87 l i).f1.length (rd_T87 l i).f1 ∧ W.frozen? ⟨g, i * 2, none⟩ = false ∧ W.frozen? ⟨g, i * 2 + 1, none⟩ = false := by
  obtain ⟨c7, hc7, hF7, hcc7, hfr⟩ := Kd.N_elem h z87 (i : Int) (by omega) (by omega)
  obtain ⟨Ax, cx, rfl, hcx, hFx⟩ := k87_openF hF7
  rw [Int.toNat_natCast] at hcc7 hfr
  exact ⟨Ax, cx, hcc7 0 _ rfl, hcc7 1 _ rfl, hcx, hFx, hfr 0, hfr 1⟩
theorem N_put87 {W : World} {base n cap g : Nat} {ok okp : Nat → Prop} {l : List S87} (h : Kd.N k87 87 W base ok (.slice (some ⟨g, 0, none⟩) n cap) l) (i : Nat) (hi : i < n) (x' : S87) {Ay : Option Addr} {cy : Nat} (hF : Kd.F (Kd.int .i64) W okp Ay x'.f1.length x'.f1) (hcy : x'.f1.length ≤ cy)
    (hokp : ∀ k, okp k → ok k ∧ k ≠ g) :
    Kd.N k87 87 ((W.setCell ⟨g, i * 2, none⟩ (.int .i64 x'.f0)).setCell ⟨g, i * 2 + 1, none⟩ (.slice Ay x'.f1.length cy)) base ok (.slice (some ⟨g, 0, none⟩) n cap) (l.set i x') ∧
      W.grownBy ((W.setCell ⟨g, i * 2, none⟩ (.int .i64 x'.f0)).setCell ⟨g, i * 2 + 1, none⟩ (.slice Ay x'.f1.length cy)) (some g) := by
  obtain ⟨c7, hc7, hF7, hcc7, hfr⟩ := Kd.N_elem h z87 (i : Int) (by omega) (by omega)
  have := Kd.N_seg h (i : Int) (by omega) (by omega) (c := c7) (seg := [.int .i64 x'.f0, .slice Ay x'.f1.length cy]) (j := 0) (okp := okp) hc7 hcc7 (by show 0 + 2 ≤ 2; omega) (x' := x') (by
    have e2 : (c7.take 0 ++ [Value.int .i64 x'.f0, .slice Ay x'.f1.length cy] ++ c7.drop (0 + [Value.int .i64 x'.f0, .slice Ay x'.f1.length cy].length)) = [Value.int .i64 x'.f0, .slice Ay x'.f1.length cy] := by
      have : c7.drop 2 = [] := List.drop_eq_nil_of_le (by rw [hc7]; exact Nat.le_refl 2)
      simp [this]
    rw [e2]
    exact k87_mkF W okp x' hcy hF) hokp
  rw [Int.toNat_natCast] at this
  simpa [World.setCells, k87, Kd.iso, Kd.pair, Kd.slice, Kd.int, Kd.scalar] using this

/-- What stands in rest's outer loop: the own row, the variables lead and size; S: which blocks are not to be touched by the row. -/
structure RI (w w1 W : World) (lead : S87) (S : Nat → Prop) (v : Value) (A : Option Addr) (c : Nat) (l : List S87) : Prop where
  row : Kd.N k87 87 W w.heap.size (fun k => (k ≠ w1.heap.size ∧ k ≠ w1.heap.size + 1) ∧ S k) v l
  b5 : W.heap[w1.heap.size]? = some (.cells #[.int .i64 lead.f0, .slice A lead.f1.length c] 87 (0, 0))
  b6 : W.heap[w1.heap.size + 1]? = some (.cells #[.int .i64 1, .slice A lead.f1.length c] 87 (0, 0))
  below : Below w.heap.size w W
  base : w.heap.size ≤ w1.heap.size
/-- .. and in the inner one: the variable last. -/
structure RJ (Q : Nat → Prop) (w w1 W : World) (lead last : S87) (B g : Nat) (v : Value) (A : Option Addr) (c : Nat) (Ax : Option Addr) (cx : Nat) (l : List S87) : Prop where
  ri : RI w w1 W lead (fun k => Q k ∧ k ≠ B) v A c l
  new_ : ∀ k, w.heap.size ≤ k → Q k
  b7 : W.heap[B]? = some (.cells #[.int .i64 last.f0, .slice Ax last.f1.length cx] 87 (0, 0))
  lst : Kd.F (Kd.int .i64) W (fun k => ((k ≠ w1.heap.size ∧ k ≠ w1.heap.size + 1) ∧ (Q k ∧ k ≠ B)) ∧ k ≠ g) Ax last.f1.length last.f1
  cap : last.f1.length ≤ cx
  newer : w1.heap.size + 1 < B

theorem RI.below_ {w w1 W W2 : World} {lead : S87} {S : Nat → Prop} {v : Value} {A : Option Addr} {c : Nat} {l : List S87} (h : RI w w1 W lead S v A c l) (hb : Below W.heap.size W W2) : RI w w1 W2 lead S v A c l where
  row := Kd.N_below h.row hb
  b5 := blk_below h.b5 hb
  b6 := blk_below h.b6 hb
  below := below_then h.below h.below.size hb
  base := h.base
theorem RJ.below_ {Q : Nat → Prop} {w w1 W W2 : World} {lead last : S87} {B g : Nat} {v : Value} {A : Option Addr} {c : Nat} {Ax : Option Addr} {cx : Nat} {l : List S87} (h : RJ Q w w1 W lead last B g v A c Ax cx l) (hb : Below W.heap.size W W2) : RJ Q w w1 W2 lead last B g v A c Ax cx l where
  ri := h.ri.below_ hb
  new_ := h.new_
  b7 := blk_below h.b7 hb
  lst := Kd.F_below h.lst hb
  cap := h.cap
  newer := h.newer
theorem RJ.drew_ {Q : Nat → Prop} {w w1 W : World} {lead last : S87} {B g : Nat} {v : Value} {A : Option Addr} {c : Nat} {Ax : Option Addr} {cx : Nat} {l : List S87} (h : RJ Q w w1 W lead last B g v A c Ax cx l) : RJ Q w w1 W.drew lead last B g v A c Ax cx l := h.below_ (below_drew1 (Below.refl _ _))
theorem RJ.put {Q : Nat → Prop} {w w1 W W2 : World} {lead last : S87} {B g n c i : Nat} {A : Option Addr} {cA : Nat} {Ax : Option Addr} {cx : Nat} {l : List S87} (h : RJ Q w w1 W lead last B g (.slice (some ⟨g, 0, none⟩) n c) A cA Ax cx l) (hb : Below W.heap.size W W2) (hi : i < n) (x' : S87)
    {Ay : Option Addr} {cy : Nat} {okp : Nat → Prop} (hF : Kd.F (Kd.int .i64) W2 okp Ay x'.f1.length x'.f1) (hcy : x'.f1.length ≤ cy) (hokp : ∀ k, okp k → (((k ≠ w1.heap.size ∧ k ≠ w1.heap.size + 1) ∧ (Q k ∧ k ≠ B)) ∧ k ≠ g) ∨ W.heap.size ≤ k)
    (a0 a1 : Addr) (h0 : a0 = ⟨g, i * 2, none⟩) (h1 : a1 = ⟨g, i * 2 + 1, none⟩) (u0 u1 : Value) (g0 : u0 = .int .i64 x'.f0) (g1 : u1 = .slice Ay x'.f1.length cy) :
    RJ Q w w1 ((W2.setCell a0 u0).setCell a1 u1) lead last B g (.slice (some ⟨g, 0, none⟩) n c) A cA Ax cx (l.set i x') := by
  subst h0 h1 g0 g1
  have h2 := h.below_ hb
  have hB := lt_of_block h.b7
  have h5 := lt_of_block h.ri.b5
  have h6 := lt_of_block h.ri.b6
  have hlt : g < W.heap.size := Kd.N_lt h.ri.row g rfl
  have hbase : w.heap.size ≤ g := Kd.N_base h.ri.row g rfl
  obtain ⟨hN, hg⟩ := N_put87 h2.ri.row i hi x' hF hcy (fun k hk => by
    rcases hokp k hk with hk | hk
    · exact hk
    · exact ⟨⟨⟨by omega, by omega⟩, h.new_ k (Nat.le_trans h.ri.below.size hk), by omega⟩, by omega⟩)
  have hne : ∀ k, ((k = w1.heap.size ∨ k = w1.heap.size + 1) ∨ k = B) → some k ≠ some g := fun k hk e => by
    have := h.ri.row.1 g rfl
    injection e with e
    subst e
    rcases hk with (hk | hk) | hk
    · exact this.1.1 hk
    · exact this.1.2 hk
    · exact this.2.2 hk
  refine ⟨⟨hN, (hg.block _ (lt_of_block h2.ri.b5) (hne _ (.inl (.inl rfl)))).trans h2.ri.b5, (hg.block _ (lt_of_block h2.ri.b6) (hne _ (.inl (.inr rfl)))).trans h2.ri.b6, ?_, h.ri.base⟩, h.new_, (hg.block _ (lt_of_block h2.b7) (hne _ (.inr rfl))).trans h2.b7, ?_, h.cap, h.newer⟩
  · exact (h2.ri.below.setCell hbase _).setCell hbase _
  · exact Kd.F_grown h2.lst hg (fun k hk e => hk.2 (by injection e))

set_option maxHeartbeats 20000000 in
set_option maxRecDepth 100000 in
theorem rest_calls (P0 : Nat → Prop) (k m : Nat) (Ap : Option Addr) (cp : Nat) (p : List S87) (Aq : Option Addr) (cq : Nat) (q r : List S87) (w : World) (hp : Kd.V k87 87 w w.heap.size (fun k => P0 k) (.slice Ap p.length cp) p) (hq : Kd.C k87 w Aq q.length q) (hcq : q.length ≤ cq) (h : restF k m p q = some r) :
    Calls Tryd.prog 78 #[.slice Ap p.length cp, .slice Aq q.length cq] w fun e w' => ∃ v : Value, e = .returned v ∧ Kd.N k87 87 w' w.heap.size (fun k => P0 k ∨ w.heap.size ≤ k) v r ∧ Below w.heap.size w w' := by
  unfold restF at h
  by_cases h0 : 0 < q.length ∧ p.length ≤ 1000
  · rw [if_pos h0] at h
    obtain ⟨hq0, hpl⟩ := h0
    have HP := Aside0.mk hp
    have HQ := Aside0.mk hq
    obtain ⟨lead, hlead⟩ : ∃ lead, rd_T87 q ((q.length : Int) - 1) = lead := ⟨_, rfl⟩
    obtain ⟨adq, Al, cl, eA, e1, e2, e3, e4⟩ := at_T87 hq ((q.length : Int) - 1) (by omega) (by omega)
    subst eA
    have et : ((q.length : Int) - 1).toNat = q.length - 1 := by omega
    rw [hlead] at h e1 e2 e3 e4
    rw [et] at e1 e2
    clear et
    have HL := Aside0.mk hlead
    have H := Aside0.mk h
    have HE1 := Aside0.mk e1
    have HE2 := Aside0.mk e2
    have HE4 := Aside0.mk e4
    have hqm := hq.2.1
    have hq1 : (0 : Int) ≤ (q.length : Int) - 1 := by omega
    have hq2 : (q.length : Int) - 1 < q.length := by omega
    clear hp hq hlead h e1 e2 e4
    go_enter Tryd.func78, Tryd.ntmps78
    go_wp2_with ((go_at_call 94; refine (clone94_calls P0 Ap cp p _ HP.out hpl).mono ?_; rintro e w1 ⟨v0, rfl, hN, hB⟩; obtain ⟨A0, c0, e0⟩ := Kd.N_slice hN; subst e0; have HN := Aside0.mk hN; have HB := Aside0.mk hB; have hcl1 := (hB.cell (World.block_lt_of_cell? w _ HE1.out)).trans HE1.out; have hcl2 := (hB.cell (World.block_lt_of_cell? w _ HE2.out)).trans HE2.out; clear hN hB))
    go_loopg [0] m (fun gk t0 W => ∃ (m' : Nat) (l : List S87) (A : Option Addr) (c : Nat), gk = m' ∧ t0 = .slice A l.length c ∧ l.length ≤ 1000 ∧ Aside0 (RI w w1 W lead (fun k => P0 k ∨ w.heap.size ≤ k) (.slice A l.length c) Al cl l) ∧ Aside0 (restL k q lead m' l = some r))
    case atStart =>
      have t0 := blk_new w1 (.cells #[.int .i64 lead.f0, .slice Al lead.f1.length cl] 87)
      have t1 := blk_new (w1.alloc (.cells #[.int .i64 lead.f0, .slice Al lead.f1.length cl] 87)) (.cells #[.int .i64 1, .slice Al lead.f1.length cl] 87)
      rw [World.size_alloc] at t1
      refine ⟨m, p, A0, c0, rfl, rfl, hpl, ⟨⟨?_, blk_alloc t0 _, t1, below_alloc (below_alloc HB.out _) _, HB.out.size⟩⟩, H⟩
      exact Kd.N_alloc (Kd.N_alloc (Kd.N_mono (Kd.N_bound HN.out) (fun k hk => ⟨⟨Nat.ne_of_lt hk.2, Nat.ne_of_lt (Nat.lt_succ_of_lt hk.2)⟩, hk.1⟩)) _) _
    case round =>
      obtain ⟨m', l, A, c, hgk, rfl, hl, HI, H⟩ := hrel
      by_cases hlt : q.length ≤ l.length
      · obtain ⟨m2, rfl⟩ : ∃ m2, m' = m2 + 1 := by
          cases m' with
          | zero => have := H.out; simp [restL] at this
          | succ m2 => exact ⟨m2, rfl⟩
        have h := H.out
        rw [restL, if_pos hlt] at h
        obtain ⟨l2, hrow, hres⟩ := Option.bind_eq_some_iff.1 h
        have HROW := Aside0.mk hrow
        have HRES := Aside0.mk hres
        clear h H hrow hres
        obtain ⟨g, cap, e0, hgb, hgl, cells, hcells⟩ := Kd.N_form HI.out.row (by omega)
        injection e0 with e0 _ e1
        clear e1
        subst e0
        obtain ⟨last0, hlast⟩ : ∃ last0, rd_T87 l ((l.length : Int) - 1) = last0 := ⟨_, rfl⟩
        obtain ⟨Ax, cx, f0, f1, hcx, hFx, -, -⟩ := N_cells HI.out.row (l.length - 1) (by omega)
        have et : (((l.length - 1 : Nat) : Int)) = (l.length : Int) - 1 := by omega
        rw [et, hlast] at f0 f1 hcx hFx
        have HLAST := Aside0.mk hlast
        have HFX := Aside0.mk hFx
        have h51 := HI.out.b5
        have z50 : wr.cell? ⟨w1.heap.size, 0, none⟩ = some (.int .i64 lead.f0) := (blk_cell h51 0).trans rfl
        have z51 := cell_alloc_far' (.cells #[.int .i64 last0.f0, .slice Ax last0.f1.length cx] 87) z50
        have hl1 : (1 : Int) ≤ l.length := by omega
        have hl2 : (0 : Int) ≤ (l.length : Int) - 1 := by omega
        have hl3 : (l.length : Int) - 1 < l.length := by omega
        have d0 : decide ((q.length : Int) ≤ l.length) = true := decide_eq_true (by omega)
        clear et hlast hFx h51
        go_wp2_with fail
        obtain ⟨W1, hW1⟩ : ∃ W1, W1 = wr := ⟨_, rfl⟩
        subst hW1
        have hRJ : RJ (fun k => P0 k ∨ w.heap.size ≤ k) w w1 (W1.alloc (.cells #[.int .i64 (lastOf lead last0).f0, .slice Ax (lastOf lead last0).f1.length cx] 87)) lead (lastOf lead last0) W1.heap.size g (.slice (some ⟨g, 0, none⟩) l.length c) Al cl Ax cx l := by
          have hlt6 : w1.heap.size + 1 < W1.heap.size := lt_of_block HI.out.b6
          refine ⟨⟨Kd.N_alloc (Kd.N_mono (Kd.N_bound HI.out.row) (fun k hk => ⟨hk.1.1, hk.1.2, Nat.ne_of_lt hk.2⟩)) _, blk_alloc HI.out.b5 _, blk_alloc HI.out.b6 _, below_alloc HI.out.below _, HI.out.base⟩, fun k hk => .inr hk, blk_new W1 _, ?_, hcx, hlt6⟩
          exact Kd.F_alloc (Kd.F_mono (Kd.F_bound HFX.out) (fun k hk => ⟨⟨hk.1.1.1, hk.1.1.2, Nat.ne_of_lt hk.2⟩, hk.1.2⟩)) _
        have HRJ := Aside0.mk hRJ
        clear hRJ
        go_loopg [45] l.length (fun gk t45 W => ∃ (i : Nat) (l' : List S87), i ≤ l.length ∧ gk = l.length - i ∧ t45 = .int .i64 i ∧ Aside0 (rowF k q ⟨1, lead.f1⟩ (lastOf lead last0) (l.length - q.length) l i = some l') ∧ Aside0 (RJ (fun k => P0 k ∨ w.heap.size ≤ k) w w1 W lead (lastOf lead last0) W1.heap.size g (.slice (some ⟨g, 0, none⟩) l.length c) Al cl Ax cx l'))
        case atStart => exact ⟨0, l, Nat.zero_le _, by omega, rfl, ⟨rfl⟩, HRJ⟩
        case round =>
          obtain ⟨i, l', hi, hgi, rfl, HR, HJ⟩ := hrel
          by_cases hil : i < l.length
          · have hlen := rowF_length HR.out
            have hrow : rowF k q ⟨1, lead.f1⟩ (lastOf lead last0) (l.length - q.length) l ((i + 1) + (l.length - (i + 1))) = some l2 := by rw [Nat.add_sub_cancel' hil, ← HLAST.out]; exact HROW.out
            obtain ⟨l3, h3⟩ := rowF_some hrow
            clear hrow
            have h3' := h3
            rw [rowF, HR.out] at h3'
            obtain ⟨u, hu, h3'⟩ := Option.map_eq_some_iff.1 h3'
            obtain ⟨y, hy, hu⟩ := Option.bind_eq_some_iff.1 hu
            have H3 := Aside0.mk h3
            have H3' := Aside0.mk h3'
            have HU := Aside0.mk hu
            have HY := Aside0.mk hy
            clear h3 h3' hu hy
            obtain ⟨Ai, ci, p0, p1, hci, hFi, -, -⟩ := N_cells HJ.out.ri.row i hil
            have HFI := Aside0.mk hFi
            have HCI := Aside0.mk (Kd.F_now hFi)
            have HCL := Aside0.mk (Kd.C_below HE4.out HJ.out.ri.below)
            have h61 := HJ.out.ri.b6
            have z60 : wr.cell? ⟨w1.heap.size + 1, 0, none⟩ = some (.int .i64 1) := (blk_cell h61 0).trans rfl
            have z61 : wr.cell? ⟨w1.heap.size + 1, 1, none⟩ = some (.slice Al lead.f1.length cl) := (blk_cell h61 1).trans rfl
            have d1 : decide ((i : Int) < l.length) = true := decide_eq_true (by omega)
            have hi0 : (0 : Int) ≤ i := by omega
            have hi1 : (i : Int) < l.length := by omega
            clear hFi h61
            go_upto_region 12 with fail
            go_cut [9, 45] from 45 to 76 (fun t9 t45 wx => t9 = .int .i64 i ∧ t45 = .int .i64 i ∧ Aside0 (RJ (fun k => P0 k ∨ w.heap.size ≤ k) w w1 wx lead (lastOf lead last0) W1.heap.size g (.slice (some ⟨g, 0, none⟩) l.length c) Al cl Ax cx (l'.set i ⟨y.1, y.2⟩)))
            case first =>
              go_region_with (go_at_call 95; refine (tones_big_times.calls k _ Ai ci _ 1 Al cl lead.f1 y.1 y.2 _ (Kd.C_below HCI.out (by repeat (first | exact Below.refl _ _ | apply below_alloc | apply pw_below_drewN | apply below_drew1))) hci (Kd.C_below HCL.out (by repeat (first | exact Below.refl _ _ | apply below_alloc | apply pw_below_drewN | apply below_drew1))) e3 HY.out).mono ?_; rintro e w2 ⟨v2, rfl, ⟨A2, c2, rfl, hl2, hF2⟩, hB2⟩; have hb2 : Below wr.heap.size wr w2 := below_then (by repeat (first | exact Below.refl _ _ | apply below_alloc | apply pw_below_drewN | apply below_drew1)) (below_size (by repeat (first | exact Below.refl _ _ | apply below_alloc | apply pw_below_drewN | apply below_drew1))) hB2; have HB2 := Aside0.mk hb2; have HF2 := Aside0.mk hF2; have HL2 := Aside0.mk hl2; obtain ⟨_, _, q0, q1, -, -, r0, r1⟩ := N_cells (Kd.N_below HJ.out.ri.row hb2) i hil; clear hB2 hb2 hF2 hl2)
              all_goals
                go_wp2_with fail
                go_meet
                case rel => exact ⟨rfl, rfl, ⟨HJ.out.put HB2.out hil ⟨y.1, y.2⟩ HF2.out HL2.out (fun k hk => .inr hk) _ _ rfl rfl _ _ rfl rfl⟩⟩
            case rest =>
              obtain ⟨rfl, rfl, HM⟩ := hcut
              by_cases hs : l.length - q.length ≤ i
              · have hu := HU.out
                rw [if_pos hs] at hu
                obtain ⟨z, hz, hu⟩ := Option.bind_eq_some_iff.1 hu
                obtain ⟨u2, hu9, hu8⟩ := Option.map_eq_some_iff.1 hu
                subst hu8
                have HU2 := Aside0.mk hu9
                clear hu hu9
                obtain ⟨j, hj⟩ : ∃ j : Nat, j = i - (l.length - q.length) := ⟨_, rfl⟩
                have hji : (i : Int) - ((l.length - q.length : Nat) : Int) = j := by omega
                rw [hji] at hz
                have HZ := Aside0.mk hz
                clear hz
                obtain ⟨Ay, cy, m0, m1, hcy, hFy, mf0, mf1⟩ := N_cells HM.out.ri.row i hil
                rw [rd_set (by omega)] at m0 m1 hcy hFy
                have HFY := Aside0.mk hFy
                clear hFy
                obtain ⟨adj, Aj, cj, eAj, n0, n1, hcj, hCj⟩ := at_T87 (Kd.C_below HQ.out HM.out.ri.below) (j : Int) (by omega) (by omega)
                injection eAj with eAj
                subst eAj
                rw [Int.toNat_natCast] at n0 n1
                have HCJ := Aside0.mk hCj
                clear hCj
                have HCX := Aside0.mk (Kd.F_now HM.out.lst)
                have h71 := HM.out.b7
                have z70 : wc.cell? ⟨W1.heap.size, 0, none⟩ = some (.int .i64 (lastOf lead last0).f0) := (blk_cell h71 0).trans rfl
                have z71 : wc.cell? ⟨W1.heap.size, 1, none⟩ = some (.slice Ax (lastOf lead last0).f1.length cx) := (blk_cell h71 1).trans rfl
                clear h71
                have d2 : decide ((l.length : Int) - q.length ≤ i) = true := decide_eq_true (by omega)
                have hwj : IntKind.i64.wrap ((i : Int) - ((l.length : Int) - q.length)) = (j : Int) := by rw [IntWalk.i64_in _ (by omega)]; omega
                have hj0 : (0 : Int) ≤ j := by omega
                have hj1 : (j : Int) < q.length := by omega
                clear hji hj
                have hgl2 : g < wc.heap.size := Kd.N_lt HM.out.ri.row g rfl
                have hql : (adq.add (j * 2)).block < wc.heap.size := World.block_lt_of_cell? wc _ n0
                have hbl : W1.heap.size < wc.heap.size := lt_of_block HM.out.b7
                go_wp2_with fail
                go_region_with (first
                  | (go_at_call 95; refine (tones_big_times.calls k _ Aj cj _ (lastOf lead last0).f0 Ax cx (lastOf lead last0).f1 z.1 z.2 _ (Kd.C_below HCJ.out (by repeat (first | (with_reducible exact Below.refl _ _) | apply pw_below_drewN | apply below_drew1))) hcj (Kd.C_below HCX.out (by repeat (first | (with_reducible exact Below.refl _ _) | apply pw_below_drewN | apply below_drew1))) HM.out.cap HZ.out).mono ?_; rintro e w2 ⟨v2, rfl, ⟨A2, c2, rfl, hl2, hF2⟩, hB2⟩; have hb2 : Below wc.heap.size wc w2 := below_then (by repeat (first | (with_reducible exact Below.refl _ _) | apply pw_below_drewN | apply below_drew1)) (below_size (by repeat (first | (with_reducible exact Below.refl _ _) | apply pw_below_drewN | apply below_drew1))) hB2; have HB2 := Aside0.mk hb2; have HF2 := Aside0.mk hF2; have HL2 := Aside0.mk hl2; have k0 := (hb2.cell (p := ⟨g, i * 2, none⟩) hgl2).trans m0; have k1 := (hb2.cell (p := ⟨g, i * 2 + 1, none⟩) hgl2).trans m1; have k2 := (hb2.frozen (p := ⟨g, i * 2, none⟩) hgl2).trans mf0; have k3 := (hb2.frozen (p := ⟨g, i * 2 + 1, none⟩) hgl2).trans mf1; have k4 := (hb2.cell hql).trans n0; have k5 := (hb2.cell (p := ⟨(adq.add (j * 2)).block, (adq.add (j * 2)).off + 1, none⟩) hql).trans n1; have k6 := (hb2.cell (p := ⟨W1.heap.size, 0, none⟩) hbl).trans z70; have k7 := (hb2.cell (p := ⟨W1.heap.size, 1, none⟩) hbl).trans z71; clear hB2 hb2 hF2 hl2)
                  | (go_at_call 96; refine (tones_big_plus.calls k y.1 (fun k => ((k ≠ w1.heap.size ∧ k ≠ w1.heap.size + 1) ∧ ((P0 k ∨ w.heap.size ≤ k) ∧ k ≠ W1.heap.size)) ∧ k ≠ g) _ _ y.2 z.1 (fun k => wc.heap.size ≤ k) A2 c2 z.2 u2.1 u2.2 _ ⟨_, _, rfl, hcy, Kd.F_below HFY.out HB2.out⟩ ⟨A2, c2, rfl, HL2.out, HF2.out⟩ HU2.out).mono ?_; rintro e w3 ⟨v3, rfl, ⟨A3, c3, rfl, hl3, hF3⟩, hB3⟩; have hb3 : Below wc.heap.size wc w3 := below_then HB2.out HB2.out.size hB3; have HB3 := Aside0.mk hb3; have HF3 := Aside0.mk hF3; have HL3 := Aside0.mk hl3; have k0 := (hb3.cell (p := ⟨g, i * 2, none⟩) hgl2).trans m0; have k1 := (hb3.cell (p := ⟨g, i * 2 + 1, none⟩) hgl2).trans m1; have k2 := (hb3.frozen (p := ⟨g, i * 2, none⟩) hgl2).trans mf0; have k3 := (hb3.frozen (p := ⟨g, i * 2 + 1, none⟩) hgl2).trans mf1; have k4 := (hb3.cell hql).trans n0; have k5 := (hb3.cell (p := ⟨(adq.add (j * 2)).block, (adq.add (j * 2)).off + 1, none⟩) hql).trans n1; have k6 := (hb3.cell (p := ⟨W1.heap.size, 0, none⟩) hbl).trans z70; have k7 := (hb3.cell (p := ⟨W1.heap.size, 1, none⟩) hbl).trans z71; clear hB3 hb3 hF3 hl3))
                all_goals
                  go_wp2_with fail
                  go_roundg (l.length - (i + 1))
                  case measure => omega
                  case rel =>
                    refine ⟨i + 1, l3, by omega, rfl, by go_num, H3, ⟨?_⟩⟩
                    rw [← H3'.out]
                    have := HM.out.put HB3.out hil ⟨u2.1, u2.2⟩ HF3.out HL3.out (fun k hk => by
                      rcases hk with (hk | hk) | hk
                      · exact .inl hk
                      · exact .inr hk
                      · exact .inr (Nat.le_trans HB2.out.size hk)) _ _ rfl rfl _ _ rfl rfl
                    rwa [List.set_set] at this
              · have hu := HU.out
                rw [if_neg hs] at hu
                injection hu with hu
                subst hu
                have d2 : decide ((l.length : Int) - q.length ≤ i) = false := decide_eq_false (by omega)
                go_wp2_with fail
                go_roundg (l.length - (i + 1))
                case measure => omega
                case rel => exact ⟨i + 1, l3, by omega, rfl, by go_num, H3, ⟨by rw [← H3'.out]; exact HM.out⟩⟩
          · have hie : i = l.length := by omega
            subst hie
            have hl2 : l' = l2 := by
              have h1 := HR.out
              have h2 := HROW.out
              rw [HLAST.out, h1] at h2
              injection h2
            subst hl2
            have hlen := rowF_length HR.out
            have d1 : decide ((l.length : Int) < l.length) = false := decide_eq_false (by omega)
            have hcap : l.length ≤ c := by have := (Kd.N_reads' HJ.out.ri.row).2.1; omega
            have hle := trimLen_le l' l.length
            go_wp2_with (go_at_call 77; refine (trimL_calls (some ⟨g, 0, none⟩) l.length c l' _ hl hcap (fun i hi => by obtain ⟨Ai, ci, p0, -⟩ := N_cells HJ.out.ri.row i hi; exact ⟨_, rfl, by rw [add_at, Nat.zero_add]; exact p0⟩)).mono ?_; rintro e w2 ⟨rfl, rfl⟩)
            have htl : (l'.take (trimLen l' l.length)).length = trimLen l' l.length := by rw [List.length_take]; omega
            go_roundg m2
            case measure => omega
            case rel =>
              refine ⟨m2, l'.take (trimLen l' l.length), some ⟨g, 0, none⟩, c, rfl, by rw [htl], by omega, ⟨?_⟩, ⟨by rw [← hlen]; exact HRES.out⟩⟩
              rw [htl]
              exact ⟨Kd.N_take (Kd.N_mono HJ.out.ri.row (fun k hk => ⟨hk.1, hk.2.1⟩)) (by omega), HJ.out.ri.b5, HJ.out.ri.b6, HJ.out.ri.below, HJ.out.ri.base⟩
      · have h := H.out
        cases m' with
        | zero => simp [restL] at h
        | succ m2 =>
          rw [restL, if_neg hlt] at h
          injection h with h
          subst h
          have d0 : decide ((q.length : Int) ≤ l.length) = false := decide_eq_false (by omega)
          go_wp2_with fail
          go_ret
          exact ⟨_, rfl, Kd.N_mono HI.out.row (fun _ hk => hk.2), HI.out.below⟩
  · rw [if_neg h0] at h
    cases h
end Go.Proofs.YtglalkenkmijkaaDoor.Hand
