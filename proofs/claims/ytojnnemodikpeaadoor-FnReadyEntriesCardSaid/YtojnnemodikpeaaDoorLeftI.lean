/-
  LeftIn, of the program and of the reference.
-/
import Derived.Test.YtojnnemodikpeaaDoorDrain
namespace Go.Proofs.YtojnnemodikpeaaDoor
open Go.RowKit Go.Conc
set_option linter.unusedVariables false
def leftF (rooms : List Int) (ds : List DeedD) : List (List Int) × Bool := if deedsB rooms ds then (((runF rooms ds).1.drop 1).map Ln.held, true) else ([], false)
/-- A new slice of slices: the outer one, then the rows, each a block of its own; and a bool. -/
def NewRowsB (w : World) (xss : List (List Int)) (t : Bool) (e : Ending) (w' : World) : Prop :=
  ∃ (A : Option Addr) (n c : Nat) (rs : List Row) (mid : Nat), e = .returned (.tuple #[.slice A n c, .bool t]) ∧ w.heap.size ≤ mid ∧ Slc w' w.heap.size mid 1 A n c (rs.map Row.val) ∧ RowsIn w' mid w'.heap.size rs ∧ rs.map Row.xs = xss ∧ Below w.heap.size w w'
/-- A slice of slices that reads so; and a bool. -/
def ReadsRowsB (w : World) (xss : List (List Int)) (t : Bool) (e : Ending) (w' : World) : Prop :=
  ∃ (A : Option Addr) (n c : Nat) (rs : List Row), e = .returned (.tuple #[.slice A n c, .bool t]) ∧ Slc w' 0 w'.heap.size 1 A n c (rs.map Row.val) ∧ (∀ r ∈ rs, Slc w' 0 w'.heap.size 1 r.A r.n r.c (ints r.xs) ∧ ∃ b off, r.A = some ⟨b, off, none⟩) ∧ rs.map Row.xs = xss ∧ Below w.heap.size w w'
theorem run_held0 {rooms : List Int} {ds : List DeedD} (hd : deedsB rooms ds = true) : ∀ l ∈ (runF rooms ds).1, l.held.length ≤ 1000 := by
  obtain ⟨_, _, h60, hp⟩ := deedsB_of hd
  have hs := runF_small hp ds.length
  rw [List.take_length] at hs
  intro l hl
  have := hs l hl
  omega
set_option maxHeartbeats 4000000 in
theorem impl_LeftIn (lo hi n c lo2 hi2 m c2 : Nat) (A A2 : Option Addr) (rooms : List Int) (ds : List DeedD) (w : World) (h : Slc w lo hi 1 A n c (ints rooms)) (h2 : Slc w lo2 hi2 3 A2 m c2 (deeds ds)) (hn : n ≤ 1048576) (hm : m ≤ 1048576) (ht : TabW w) :
    Calls Tryd.prog 30 #[.slice A n c, .slice A2 m c2] w (NewRowsB w (leftF rooms ds).1 (leftF rooms ds).2) := by
  have HT := Lib.hid ht
  clear ht
  cases hd : deedsB rooms ds with
  | false =>
    have hF : leftF rooms ds = ([], false) := by unfold leftF; rw [hd]; rfl
    rw [hF]
    go_enter Tryd.func30, Tryd.ntmps30
    go_wp2_with (go_at_call 62; refine (impl_deedsValid _ _ _ _ _ _ _ _ _ _ rooms ds _ h h2 hn hm).mono ?_; rintro e w1 ⟨rfl, b1⟩; rw [hd])
    go_ret2
    exact ⟨none, 0, 0, [], w.heap.size, rfl, Nat.le_refl _, (OwnV.nil (E := 0) _ _ _).slc, b1.size, rfl, b1⟩
  | true =>
    obtain ⟨⟨r1, r6⟩, -, -, -⟩ := deedsB_of hd
    have hF : leftF rooms ds = (((runF rooms ds).1.drop 1).map Ln.held, true) := by unfold leftF; rw [hd]; rfl
    rw [hF]
    have HD := Lib.hid hd
    clear hF hd
    go_enter Tryd.func30, Tryd.ntmps30
    go_wp2_with (first
      | (go_at_call 62; refine (impl_deedsValid _ _ _ _ _ _ _ _ _ _ rooms ds _ h h2 hn hm).mono ?_; rintro e w1 ⟨rfl, b1⟩; rw [HD.out]; have h1 := h.below b1; have h21 := h2.below b1; have HT1 := Lib.hid (HT.out.below b1))
      | (go_at_call 63; refine (new_from h1 HD.out).mono ?_; rintro e w2 ⟨S, rfl, hsw, hln, b2⟩)
      | (go_at_call 64; refine (doAll_from hsw b2 hln HD.out h21 HT1.out).mono ?_; rintro e w3 ⟨AL, cL, rfl, o3, hsw3, b3⟩; have hs6 : S.cs.length ≤ 6 := (by omega); have HSW := Lib.hid hsw3; have HB3 := Lib.hid b3; clear hsw3 b3 o3)
      | (go_at_call 69; refine (drain_any HSW.out HB3.out.size hs6 (run_held0 HD.out)).mono ?_; rintro e w4 ⟨c9, rs, rfl, h9, hr9, hx9, b9⟩; rw [hln] at h9))
    go_ret2
    have z1 := b1.size
    have z3 := HB3.out.size
    exact ⟨_, _, _, rs, w3.heap.size + 1, rfl, by omega, h9.wide (by omega) (Nat.le_refl _), hr9, hx9, b1.trans ((HB3.out.trans b9).mono z1)⟩
def rowOf (v : LnV) (l : Ln) : Row := ⟨v.AH, v.nH, v.cH, l.held⟩
theorem zip_get {vs : List LnV} {ls : List Ln} {k : Nat} {v : LnV} {l : Ln} (hv : vs[k]? = some v) (hl : ls[k]? = some l) : (List.zipWith rowOf vs ls)[k]? = some (rowOf v l) := by
  simp [List.getElem?_zipWith, hv, hl]
theorem zip_xs : ∀ {vs : List LnV} {ls : List Ln}, vs.length = ls.length → (List.zipWith rowOf vs ls).map Row.xs = ls.map Ln.held
  | [], [], _ => rfl
  | v :: vs, l :: ls, h => by simp [rowOf, zip_xs (vs := vs) (ls := ls) (by simpa using h)]
theorem rows_succ {RS : List Row} {i : Nat} {r : Row} (h : RS[i + 1]? = some r) : (RS.drop 1).take (i + 1) = (RS.drop 1).take i ++ [r] := by
  have h' : (RS.drop 1)[i]? = some r := by rw [List.getElem?_drop, Nat.add_comm]; exact h
  obtain ⟨hk1, e⟩ := List.getElem?_eq_some_iff.1 h'
  rw [List.take_succ_eq_append_getElem hk1, e]
set_option maxHeartbeats 4000000 in
set_option maxRecDepth 20000 in
theorem spec_l1RawLeftIn (lo hi n c lo2 hi2 m c2 : Nat) (A A2 : Option Addr) (rooms : List Int) (ds : List DeedD) (w : World) (h : Slc w lo hi 1 A n c (ints rooms)) (h2 : Slc w lo2 hi2 3 A2 m c2 (deeds ds)) (hn : n ≤ 1048576) (hm : m ≤ 1048576) :
    Calls Tryd.prog 71 #[.slice A n c, .slice A2 m c2] w (ReadsRowsB w (leftF rooms ds).1 (leftF rooms ds).2) := by
  have ha := h.alloc (.cells #[] 22)
  have ha2 := h2.alloc (.cells #[] 22)
  have b0 := below_al (Below.refl w.heap.size w) (.cells #[] 22)
  cases hd : deedsB rooms ds with
  | false =>
    have hF : leftF rooms ds = ([], false) := by unfold leftF; rw [hd]; rfl
    rw [hF]
    go_enter Tryd.func71, Tryd.ntmps71
    go_wp2_with (go_at_call 58; refine (spec_l1Valid _ _ _ _ _ _ _ _ _ _ rooms ds _ ha ha2 hn hm).mono ?_; rintro e w1 ⟨rfl, b1⟩; rw [hd])
    go_ret2
    exact ⟨_, 0, 0, [], rfl, (OwnV.empty (E := 0) _ _ _ _).slc, fun r hr => (List.not_mem_nil hr).elim, rfl, below_step b0 b1⟩
  | true =>
    obtain ⟨⟨r1, r6⟩, -, -, -⟩ := deedsB_of hd
    have hF : leftF rooms ds = (((runF rooms ds).1.drop 1).map Ln.held, true) := by unfold leftF; rw [hd]; rfl
    rw [hF]
    clear hF
    obtain ⟨N, hN⟩ : ∃ N, N = rooms.length + 1 := ⟨_, rfl⟩
    have hN7 : N ≤ 7 := by omega
    have hN2 : 2 ≤ N := by omega
    have HN := Lib.hid hN
    clear hN r1 r6
    have k0 : (w.alloc (.cells #[] 22)).heap[w.heap.size]? = some (.cells #[] 22) := heap_alloc_new _ _
    have HK0 := Lib.hid (And.intro b0 k0)
    clear b0 k0
    go_enter Tryd.func71, Tryd.ntmps71
    go_wp2_with (go_at_call 58; refine (spec_l1Valid _ _ _ _ _ _ _ _ _ _ rooms ds _ ha ha2 hn hm).mono ?_; rintro e w1 ⟨rfl, b1⟩; rw [hd])
    refine (l1Run_any _ _ _ _ _ _ _ _ _ _ rooms ds _ (ha.below b1) (ha2.below b1) hd).mono ?_
    rintro e w2 ⟨gl, cl, go, co, vs, rfl, St⟩
    rw [← HN.out] at St ⊢
    have hb := below_step HK0.out.1 (below_step b1 St.B)
    obtain ⟨k1, z1⟩ := blk_below b1 HK0.out.2
    obtain ⟨k2, z2⟩ := blk_below St.B k1
    have z12 := St.B.size
    have hvl := lns_len St.lines
    have hll := St.len
    obtain ⟨RS, hRS⟩ : ∃ RS, RS = List.zipWith rowOf vs (runF rooms ds).1 := ⟨_, rfl⟩
    have hRl : RS.length = N := by rw [hRS, List.length_zipWith, hvl, hll]; simp
    have hRx : RS.map Row.xs = (runF rooms ds).1.map Ln.held := by rw [hRS]; exact zip_xs (by rw [hvl, hll])
    have hRow : ∀ i r, 0 < i → RS[i]? = some r → ∃ b off, r.A = some ⟨b, off, none⟩ ∧ (0 < r.n → w1.heap.size ≤ b) ∧ Slc w2 0 w2.heap.size 1 r.A r.n r.c (ints r.xs) ∧ r.n ≤ maxLen ∧ w2.cell? ⟨gl, i * 4 + 1, none⟩ = some (.slice r.A r.n r.c) := by
      intro i r hi hr
      have hiN : i < N := by rw [← hRl]; exact (List.getElem?_eq_some_iff.1 hr).1
      obtain ⟨v, hv⟩ : ∃ v, vs[i]? = some v := ⟨_, List.getElem?_eq_getElem (by rw [hvl]; exact hiN)⟩
      obtain ⟨l, hl⟩ : ∃ l, (runF rooms ds).1[i]? = some l := ⟨_, List.getElem?_eq_getElem (by rw [hll]; exact hiN)⟩
      have := zip_get hv hl
      rw [← hRS, hr] at this
      injection this with this
      subst this
      obtain ⟨ok, hf⟩ := St.lns i v l hv hl
      obtain ⟨⟨b, off, e⟩, _⟩ := hf hi
      exact ⟨b, off, e, fun h0 => (ok.heldP b off h0 e).1, ok.held, Nat.le_trans ok.held.le ok.held.cap, row_cells St.lines (lnCells_get hv).2.1⟩
    have HR := Lib.hid (And.intro hRow (And.intro hRx hRl))
    obtain ⟨gl1, glc, glh, _⟩ := row_blk St.lines
    have zgl := blk_lt glh
    have HST := Lib.hid (And.intro hb k2)
    obtain ⟨i0, hi0, hz0, hz1, hz2⟩ := info_parts info_ints
    have HI := Lib.hid hi0
    have zw : w.heap.size < w1.heap.size := z1
    clear hi0 hRS hRl hRx hRow hvl hll hb k1 k2 ha ha2 b1 h h2 glh St z1
    go_wp2_with fail
    go_loopw [6, 9] (fun v i wr => ∃ (k g cO : Nat), 1 ≤ k ∧ k ≤ N ∧ i = .int .i64 k ∧ v = .slice (some ⟨g, 0, none⟩) (k - 1) cO ∧ (g = w.heap.size ∨ w2.heap.size ≤ g) ∧ wr.ownsRow w.heap.size 22 1 (.slice (some ⟨g, 0, none⟩) (k - 1) cO) (k - 1) (((RS.drop 1).take (k - 1)).map Row.val) ∧ (∀ b, w.heap.size < b → b < w2.heap.size → wr.heap[b]? = w2.heap[b]?) ∧ w2.heap.size ≤ wr.heap.size ∧ Below w.heap.size w wr) (fun _ i _ => N - (intOf i).toNat)
    case atStart => exact ⟨1, w.heap.size, 0, Nat.le_refl _, by omega, rfl, rfl, .inl rfl, row_empty (Nat.le_refl _) HST.out.2, fun _ _ _ => rfl, Nat.le_refl _, HST.out.1⟩
    case round =>
      obtain ⟨k, g, cO, hk1, hk, rfl, rfl, hg, hown, hbl, hsz, B⟩ := hrel
      obtain ⟨i, rfl⟩ : ∃ i, k = i + 1 := ⟨k - 1, by omega⟩
      simp only [Nat.add_sub_cancel] at hown
      have HOW := Lib.hid (And.intro hown (And.intro hbl B))
      clear hown hbl
      by_cases hlt : i + 1 < N
      · obtain ⟨r, hr⟩ : ∃ r, RS[i + 1]? = some r := ⟨_, List.getElem?_eq_getElem (by rw [HR.out.2.2]; exact hlt)⟩
        obtain ⟨b, off, rA, rb, rs1, rn, rc⟩ := HR.out.1 (i + 1) r (by omega) hr
        have HRR := Lib.hid hr
        have rc' : wr.cell? ⟨gl, (i + 1) * 4 + 1, none⟩ = some (.slice r.A r.n r.c) := (World.cell?_of_block (HOW.out.2.1 gl (by omega) zgl)).trans rc
        have i0' : (0 : Int) ≤ ((i : Int) + 1) := by omega
        have i1 : ((i : Int) + 1) < (N : Int) := by omega
        clear rc hr rs1 rb rA
        go_wp2_with (at_builtin; go_loud (refine wpList_append_lies _ rfl (.tmp 28) (.tmp 34) 41 rfl w.heap.size 22 i0 (.slice none 0 0) 1 24 Tryd.underlying41 HI.out hz0 hz1 hz2 rfl (by decide) (.slice (some ⟨g, 0, none⟩) i cO) i _ rfl (row_below' HOW.out.1 (below_al (Below.refl _ _) _)) ⟨_, 0, none⟩ 1 1 [.slice r.A r.n r.c] rfl rfl (cell_one_new _ _ _) (by simp [Value.oneCell']) (by decide) (by unfold maxLen; omega) (by omega) (by have := B.size; simp; omega) _ rfl ?_; intro g2 c2n w4 hown2 hgr2 hat2 hlt2; have HO2 := Lib.hid hown2; have HG2 := Lib.hid hgr2; have HAT := Lib.hid hat2; clear hown2 hgr2 hat2))
        go_roundw
        case rel =>
          have hg2 : g2 = w.heap.size ∨ w2.heap.size ≤ g2 := by
            rcases HAT.out with e | e
            · have e : g = g2 := by simpa [Value.ownBlock] using e
              omega
            · simp at e; omega
          have hgr := HG2.out
          refine ⟨i + 2, g2, c2n, by omega, by omega, by go_num, by go_num, hg2, ?_, ?_, ?_, ?_⟩
          · rw [show i + 2 - 1 = i + 1 from rfl, rows_succ HRR.out]; simpa [Row.val] using HO2.out
          · intro q q1 q2
            exact (hgr.block q (by simp; omega) (by simp [Value.ownBlock]; omega)).trans ((Below.heap_alloc _ _ _ (by omega)).trans (HOW.out.2.1 q q1 q2))
          · have := hgr.size; simp at this; omega
          · exact (below_al B _).trans (row_below HOW.out.1 hgr (by have := B.size; simp; omega))
        case measure => simp [intOf]; omega
      · have e : i + 1 = N := by omega
        subst e
        go_wp2
        go_ret2
        obtain ⟨A', c', e', o⟩ := ownV_of_row HOW.out.1 (by decide)
        injection e' with e1 e2 e3
        subst e1 e3
        have hT : (RS.drop 1).take i = RS.drop 1 := List.take_of_length_le (by rw [List.length_drop, HR.out.2.2]; omega)
        rw [hT] at o
        refine ⟨_, _, _, RS.drop 1, rfl, o.slc.wide (Nat.zero_le _) (Nat.le_refl _), ?_, ?_, B⟩
        · intro r hr
          obtain ⟨j, hj⟩ := List.mem_iff_getElem?.1 hr
          rw [List.getElem?_drop] at hj
          obtain ⟨b, off, rA, rb, rs1, rn, rc⟩ := HR.out.1 (1 + j) r (by omega) hj
          refine ⟨⟨rs1.len, rs1.le, rs1.cap, fun h0 => ?_⟩, b, off, rA⟩
          obtain ⟨b', off', e', h1', h2', h3', h4'⟩ := rs1.at_ h0
          rw [rA] at e'; injection e' with e'; injection e' with e1 e2; subst e1 e2
          refine ⟨b, off, rA, Nat.zero_le _, by omega, by omega, fun j v hv => (World.cell?_of_block (HOW.out.2.1 b (by have := rb (by omega); omega) h3')).trans (h4' j v hv)⟩
        · rw [List.map_drop, HR.out.2.1, List.map_drop]
end Go.Proofs.YtojnnemodikpeaaDoor
