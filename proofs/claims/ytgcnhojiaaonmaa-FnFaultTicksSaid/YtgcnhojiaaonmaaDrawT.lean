/-
  l9Tasks, DrawFaultsNeeded: some ticks and some tasks of workers.
-/
import Derived.Test.YtgcnhojiaaonmaaDrawS
import Derived.Deep.AppendLies
namespace Go.Proofs.Ytgcnhojiaaonmaa
open Go.RowKit
set_option linter.unusedVariables false
theorem Own.keepT {w w' : World} {lo hi n c : Nat} {A : Option Addr} {xs : List Int} (h : Own w lo hi A n c xs) (hs : w.heap.size ≤ w'.heap.size) (k : ∀ b cs, w.heap[b]? = some (.cells cs 3) → lo ≤ b → b < hi → w'.heap[b]? = w.heap[b]?) : Own w' lo hi A n c xs := by
  refine ⟨⟨h.slc.len, h.slc.le, h.slc.cap, fun hn => ?_⟩, fun hn => ?_⟩
  all_goals
    obtain ⟨b, cs, e, hb, hc⟩ := h.blk hn
    obtain ⟨b', off, e', h1, h2, h3, h4⟩ := h.slc.at_ hn
    rw [e] at e'; injection e' with e'; injection e' with e1 e2 e3; subst e1 e2
    have hk := k b cs hb h1 h2
  · exact ⟨b, 0, e, h1, h2, Nat.lt_of_lt_of_le h3 hs, fun j v hv => (World.cell?_of_block hk).trans (h4 j v hv)⟩
  · exact ⟨b, cs, e, hk.trans hb, hc⟩
/-- The state of l9Tasks: the lists that are made, each in memory of its own. -/
structure NSt (w0 : World) (g : Nat) (A : Option Addr) (n c q : Nat) (v : Value) (k : Nat) (rs : List Row) (hi : Nat) (W : World) : Prop where
  st : DSt w0 g A n c q 54 1 v k (rs.map Row.val) W
  rows : ∀ r ∈ rs, r.n ≤ 30 ∧ Own W w0.heap.size hi r.A r.n r.c r.xs
section
variable {w0 : World} {g : Nat} {A : Option Addr} {n c q : Nat} {v : Value} {k hi : Nat} {rs : List Row} {W W' : World}
theorem NSt.below (h : NSt w0 g A n c q v k rs hi W) (hb : Below W.heap.size W W') : NSt w0 g A n c q v k rs hi W' :=
  ⟨h.st.below hb, fun r hr => ⟨(h.rows r hr).1, (h.rows r hr).2.below hb⟩⟩
theorem NSt.alloc (h : NSt w0 g A n c q v k rs hi W) (o : Obj) : NSt w0 g A n c q v k rs hi (W.alloc o) := h.below ((Below.refl _ _).alloc (Nat.le_refl _) _)
theorem NSt.grown {q' : Nat} (h : NSt w0 g A n c q v k rs hi W) (hr : Rd W' g A n c q') (hg : W.grownBy W' (some g)) : NSt w0 g A n c q' v k rs hi W' :=
  ⟨h.st.grown hr hg, fun r hr => ⟨(h.rows r hr).1, (h.rows r hr).2.keepT hg.size fun b cs hb h1 h2 => hg.block b (blk_lt hb) (by have := h.st.hg; simp; omega)⟩⟩
theorem NSt.wide {q' hi' : Nat} (h : NSt w0 g A n c q v k rs hi W) (hq : q ≤ q') (hh : hi ≤ hi') : NSt w0 g A n c q' v k rs hi' W :=
  ⟨h.st.wide hq, fun r hr => ⟨(h.rows r hr).1, (h.rows r hr).2.wide (Nat.le_refl _) hh⟩⟩
/-- An inner list, younger than hi, has turned. -/
theorem NSt.aside {row : Option Nat} (h : NSt w0 g A n c q v k rs hi W) (hg : W.grownBy W' row) (hv : ∀ b, v.ownBlock = some b → b < hi) (hw : w0.heap.size ≤ hi) (hy : ∀ b, row = some b → hi ≤ b) : NSt w0 g A n c q v k rs hi W' :=
  ⟨h.st.aside hg (by
      cases e : v.ownBlock with
      | none => exact .inl rfl
      | some b => right; intro e2; have := hv b e; have := hy b e2.symm; omega) (fun b e => by have := hy b e; omega),
   fun r hr => ⟨(h.rows r hr).1, (h.rows r hr).2.keepT hg.size fun b cs hb h1 h2 => hg.block b (blk_lt hb) (fun e => by have := hy b e.symm; omega)⟩⟩
/-- The outer list takes more lists. -/
theorem NSt.app {v' : Value} {k' : Nat} {rs' : List Row} (h : NSt w0 g A n c q v k rs hi W) (ho : W'.ownsRow w0.heap.size 54 1 v' k' ((rs ++ rs').map Row.val)) (hg : W.grownBy W' v.ownBlock)
    (hr : ∀ r ∈ rs', r.n ≤ 30 ∧ Own W w0.heap.size hi r.A r.n r.c r.xs) : NSt w0 g A n c q v' k' (rs ++ rs') hi W' :=
  ⟨h.st.app ho hg, fun r hr' => by
    have hx : r.n ≤ 30 ∧ Own W w0.heap.size hi r.A r.n r.c r.xs := (List.mem_append.1 hr').elim (h.rows r) (hr r)
    refine ⟨hx.1, hx.2.keepT hg.size fun b cs hb h1 h2 => hg.block b (blk_lt hb) (fun e => ?_)⟩
    obtain ⟨_, h3 | ⟨g', cap, cur, e3, _, h4, _⟩⟩ := h.st.own
    · rw [h3.1] at e; simp [Value.ownBlock] at e
    · rw [e3] at e; simp [Value.ownBlock] at e; subst e
      rw [hb] at h4; simp at h4⟩
end
/-- .. and a list under way, younger than hi. -/
structure ISt (w0 : World) (g : Nat) (A : Option Addr) (n c q : Nat) (v : Value) (k : Nat) (rs : List Row) (hi : Nat) (v2 : Value) (k2 : Nat) (ys : List Int) (W : World) : Prop where
  ns : NSt w0 g A n c q v k rs hi W
  own : W.ownsRow hi 3 1 v2 k2 (ints ys)
  lt : ∀ b, v.ownBlock = some b → b < hi
  lo : w0.heap.size ≤ hi
  hs : hi ≤ W.heap.size
section
variable {w0 : World} {g : Nat} {A : Option Addr} {n c q : Nat} {v v2 : Value} {k k2 hi : Nat} {rs : List Row} {ys : List Int} {W W' : World}
theorem ISt.alloc (h : ISt w0 g A n c q v k rs hi v2 k2 ys W) (o : Obj) : ISt w0 g A n c q v k rs hi v2 k2 ys (W.alloc o) := ⟨h.ns.alloc o, h.own.alloc o, h.lt, h.lo, by have := h.hs; simp; omega⟩
theorem ISt.grown {q' : Nat} (h : ISt w0 g A n c q v k rs hi v2 k2 ys W) (hr : Rd W' g A n c q') (hg : W.grownBy W' (some g)) : ISt w0 g A n c q' v k rs hi v2 k2 ys W' :=
  ⟨h.ns.grown hr hg, h.own.kept hg (.inr fun e => by have := (h.own.lt g e).1; have := h.ns.st.hg; have := h.lo; omega), h.lt, h.lo, Nat.le_trans h.hs hg.size⟩
theorem ISt.wide {q' : Nat} (h : ISt w0 g A n c q v k rs hi v2 k2 ys W) (hq : q ≤ q') : ISt w0 g A n c q' v k rs hi v2 k2 ys W := ⟨h.ns.wide hq (Nat.le_refl _), h.own, h.lt, h.lo, h.hs⟩
theorem ISt.app {v' : Value} {k' : Nat} {ys' : List Int} (h : ISt w0 g A n c q v k rs hi v2 k2 ys W) (ho : W'.ownsRow hi 3 1 v' k' (ints ys')) (hg : W.grownBy W' v2.ownBlock) : ISt w0 g A n c q v k rs hi v' k' ys' W' :=
  ⟨h.ns.aside hg h.lt h.lo (fun b e => (h.own.lt b e).1), ho, h.lt, h.lo, Nat.le_trans h.hs hg.size⟩
theorem ISt.start (h : NSt w0 g A n c q v k rs W.heap.size W) : ISt w0 g A n c q v k rs W.heap.size (.slice (some ⟨W.heap.size, 0, none⟩) 0 0) 0 [] (W.alloc (.cells #[] 3)) :=
  ⟨h.alloc _, World.ownsRow_made W #[] 0 (Nat.le_refl _) (Nat.zero_le _) (by simp), fun b e => (h.st.own.lt b e).2, h.st.hb, by simp⟩
/-- The list as a row. -/
theorem ISt.row (h : ISt w0 g A n c q v k rs hi v2 k2 ys W) : ∃ A2 c2, v2 = .slice A2 k2 c2 ∧ Own W w0.heap.size W.heap.size A2 k2 c2 ys := by
  obtain ⟨A2, c2, rfl, ho⟩ := own_of_row h.own
  exact ⟨A2, c2, rfl, ho.wide h.lo (Nat.le_refl _)⟩
end
def DrewTasks (w : World) (g : Nat) (A : Option Addr) (n c q : Nat) (e : Ending) (w' : World) : Prop :=
  ∃ (A' : Option Addr) (n' c' : Nat) (rs : List Row), e = .returned (.slice A' n' c') ∧ Mat w' w.heap.size w'.heap.size w.heap.size w'.heap.size A' n' c' rs ∧ n' ≤ 10 ∧ (∀ r ∈ rs, r.n ≤ 30) ∧ Rd w' g A n c q ∧ w.grownBy w' (some g)
theorem slc_of_row {w : World} {base n : Nat} {v : Value} {E : Nat} {xs : List Value} (h : w.ownsRow base E 1 v n xs) : ∃ A c, v = .slice A n c ∧ Slc w base w.heap.size 1 A n c xs := by
  obtain ⟨hl, h | ⟨g, cap, cur, rfl, hb, hg, hn, hc, hsz, ht⟩⟩ := h
  · obtain ⟨rfl, rfl⟩ := h
    exact ⟨none, 0, rfl, ⟨hl, Nat.le_refl _, Nat.zero_le _, fun h => absurd h (by omega)⟩⟩
  · refine ⟨_, cap, rfl, ⟨hl, hn, hc, fun h0 => ⟨g, 0, rfl, hb, blk_lt hg, blk_lt hg, fun j v hv => ?_⟩⟩⟩
    rw [Nat.zero_add, blk_cell hg]
    rw [← ht] at hv
    have hj : j < n * 1 := by
      rcases Nat.lt_or_ge j (n * 1) with h | h
      · exact h
      · rw [List.getElem?_eq_none (by rw [List.length_take]; omega)] at hv; cases hv
    rw [List.getElem?_take_of_lt hj] at hv
    simpa using hv
theorem drewTasks_of {w0 : World} {g : Nat} {A : Option Addr} {n c q q' : Nat} {v : Value} {k hi : Nat} {rs : List Row} {W : World} (h : NSt w0 g A n c q v k rs hi W) (hh : hi ≤ W.heap.size) (hk : k ≤ 10) (hq : q ≤ q') : DrewTasks w0 g A n c q' (.returned v) W := by
  obtain ⟨A1, c1, rfl, hs⟩ := slc_of_row h.st.own
  exact ⟨A1, k, c1, rs, rfl, ⟨hs, fun r hr => ((h.rows r hr).2.wide (Nat.le_refl _) hh).slc⟩, hk, fun r hr => (h.rows r hr).1, h.st.rd.mono hq, h.st.gr⟩
theorem cell_one_new' (w : World) (x : Value) (t : TypeId) {b : Nat} (hb : b = w.heap.size) : ∀ j u, [x][j]? = some u → (w.alloc (.cells #[x] t)).cell? ((⟨b, 0, none⟩ : Addr).add j) = some u := by subst hb; exact cell_one_new w x t
theorem heap_new' (w : World) (o : Obj) {b : Nat} (hb : b = w.heap.size) : (w.alloc o).heap[b]? = some o := by subst hb; exact heap_alloc_new w o
theorem info_ints' : ∃ i, Try.prog.info? 54 = some i ∧ i.zero = some (.slice none 0 0) ∧ i.size = 1 ∧ i.bytes = 24 := info_parts info_ints
set_option maxHeartbeats 4000000 in
theorem l9Tasks_any (g q n c : Nat) (A : Option Addr) (w : World) (h : Rd w g A n c q) (hq : q < 900000000) :
    Calls Try.prog 62 #[.pointer (some ⟨g, 0, none⟩)] w (DrewTasks w g A n c (q + 300)) := by
  have hgl := h.gblt
  obtain ⟨i0, hi, hz0, hz1, hz2⟩ := info_parts info_int
  have HI := Lib.hid (And.intro hi (And.intro hz0 (And.intro hz1 hz2)))
  clear hi hz0 hz1 hz2
  obtain ⟨i1, hi, hz0, hz1, hz2⟩ := info_ints'
  have HJ := Lib.hid (And.intro hi (And.intro hz0 (And.intro hz1 hz2)))
  clear hi hz0 hz1 hz2
  go_enter Try.func62, Try.ntmps62
  have D0 : NSt w g A n c q (.slice (some ⟨w.heap.size, 0, none⟩) 0 0) 0 [] w.heap.size (w.alloc (.cells #[] 54)) := ⟨DSt.init 54 1 h, fun r hr => by cases hr⟩
  clear h
  go_wp2_with fail
  refine (pick_any g q n c A _ _ D0.st.rd (by omega) (by omega) (by omega)).mono ?_
  rintro e w2 ⟨r, rfl, ⟨r0, r3⟩, hr, hg⟩
  have D2 := (D0.grown hr hg).wide (q' := q + 200 - 40 * (1 + r.toNat)) (hi' := w2.heap.size) (by omega) (by have := hg.size; simp at this; omega)
  clear D0 hr hg
  obtain ⟨R, rfl⟩ := Int.eq_ofNat_of_zero_le r0
  have HD2 := Lib.hid D2
  clear D2
  go_wp2
  go_loopw [3, 4] (fun v i wr => ∃ (m k : Nat) (rs : List Row), i = .int .i64 m ∧ m + k ≤ 3 ∧ rs.length = k ∧ NSt w g A n c (q + 200 - 40 * m) v k rs wr.heap.size wr) (fun _ i _ => (intOf i).toNat)
  case atStart => exact ⟨1 + R, 0, [], by first | rfl | (congr 1; omega), by omega, rfl, HD2.out⟩
  case round =>
    obtain ⟨m, k, rs, rfl, hmk, hrk, D⟩ := hrel
    have HX := Lib.hid hrk
    clear hrk
    by_cases hlt : 0 < m
    · obtain ⟨wo, rfl⟩ : ∃ wo : World, wo = wr := ⟨_, rfl⟩
      have I0 := ISt.start D
      clear D
      go_wp2_with fail
      refine (pick_any g _ n c A _ _ I0.ns.st.rd (by omega) (by omega) (by omega)).mono ?_
      rintro e w3 ⟨r2, rfl, ⟨r20, r21⟩, hr, hg⟩
      have I3 := (I0.grown hr hg).wide (q' := q + 200 - 40 * m + 30 - 4 * r2.toNat) (by omega)
      clear I0 hr hg
      obtain ⟨R2, rfl⟩ := Int.eq_ofNat_of_zero_le r20
      have HI3 := Lib.hid I3
      clear I3
      go_wp2
      go_loopw [5, 6] (fun v i wr => ∃ (j k2 : Nat) (ys : List Int), i = .int .i64 j ∧ j + k2 ≤ 6 ∧ ys.length = k2 ∧ ISt w g A n c (q + 200 - 40 * m + 30 - 4 * j) u3 k rs wo.heap.size v k2 ys wr) (fun _ i _ => (intOf i).toNat)
      case atStart => exact ⟨R2, 0, [], rfl, by omega, rfl, HI3.out⟩
      case round =>
        obtain ⟨j, k2, ys, rfl, hjk, hyk, I⟩ := hrel
        have HY := Lib.hid hyk
        clear hyk
        by_cases hlj : 0 < j
        · go_wp2_with fail
          refine (pick_any g _ n c A _ _ I.ns.st.rd (by omega) (by omega) (by omega)).mono ?_
          rintro e w4 ⟨p1, rfl, ⟨p10, p11⟩, hr, hg⟩
          have I4 := I.grown hr hg
          clear I hr hg
          go_wp2_with fail
          refine (pick_any g _ n c A _ _ I4.ns.st.rd (by omega) (by omega) (by omega)).mono ?_
          rintro e w5 ⟨p2, rfl, ⟨p20, p21⟩, hr, hg⟩
          have I5 := I4.grown hr hg
          clear I4 hr hg
          have z5 := I5.hs
          have z5' := I5.lo
          go_wp2_with fail
          refine (num_any g _ n c _ 0 4 4 A _ (I5.alloc _).ns.st.rd (by omega) (by omega) (by omega) (by simp) (by omega) (num_lits (xs := [1 + p1, 1 + p2, 0, 5]) (heap_alloc_new _ _) rfl)).mono ?_
          rintro e w6 ⟨p3, rfl, _, hr, hg⟩
          have I6 := (I5.alloc _).grown hr hg
          clear I5 hr hg
          have z6 := I6.hs
          have HI6 := Lib.hid I6
          obtain ⟨hi, hz0, hz1, hz2⟩ := HI.out
          have HH := Lib.hid hi
          clear hi I6
          go_wp2_with (at_builtin; refine wpList_append_own_at _ rfl _ _ 54 rfl wo.heap.size 3 i0 (.int .i64 0) 1 8 Try.underlying54 HH.out hz0 hz1 hz2 rfl (by decide) _ _ _ rfl ((HI6.out.alloc _).own) ⟨w6.heap.size, 0, none⟩ 1 1 [.int .i64 p3] rfl rfl (cell_one_new _ _ _) (by simp [Value.oneCell']) (by unfold maxLen; omega) (by omega) (by simp; omega) ?_; intro v' w7 hown7 hgr _ _)
          have I7 := ((HI6.out.alloc _).app (ys' := ys ++ [p3]) (by simpa [ints] using hown7) hgr).wide (q' := q + 200 - 40 * m + 30 - 4 * (j - 1)) (by omega)
          have HI7 := Lib.hid I7
          clear I7 hown7 hgr hz0 hz1 hz2
          go_wp2
          go_roundw
          case rel => exact ⟨j - 1, k2 + 1, ys ++ [p3], int_pred hlj, by omega, by simp [HY.out], HI7.out⟩
          case measure => simp [intOf]; omega
        · have ej : j = 0 := by omega
          subst ej
          obtain ⟨A2, c2, rfl, hro⟩ := I.row
          have N1 := I.ns.wide (q' := q + 200 - 40 * (m - 1)) (hi' := wr.heap.size) (by omega) I.hs
          have HN1 := Lib.hid N1
          have HRO := Lib.hid hro
          have z1 := N1.st.hb
          obtain ⟨hi, hz0, hz1, hz2⟩ := HJ.out
          have HH := Lib.hid hi
          clear hi I N1 hro hlj
          go_wp2_with (at_builtin; refine wpList_append_own_at _ rfl _ _ 49 rfl w.heap.size 54 i1 (.slice none 0 0) 1 24 Try.underlying49 HH.out hz0 hz1 hz2 rfl (by decide) _ _ _ rfl ((HN1.out.alloc _).st.own) ⟨wr.heap.size, 0, none⟩ 1 1 [.slice A2 k2 c2] rfl rfl (cell_one_new _ _ _) (by simp [Value.oneCell']) (by unfold maxLen; omega) (by omega) (by simp; omega) ?_; intro v' w7 hown7 hgr _ _)
          have N2 := ((HN1.out.alloc _).app (rs' := [⟨A2, k2, c2, ys⟩]) (by rw [List.map_append]; exact hown7) hgr (fun x hx => by rw [List.mem_singleton] at hx; subst hx; exact ⟨by show k2 ≤ 30; omega, HRO.out.keep (by simp) fun b _ _ hb => Below.heap_alloc _ _ b hb⟩)).wide (hi' := w7.heap.size) (Nat.le_refl _) (by have := hgr.size; simp at this; omega)
          have HN2 := Lib.hid N2
          clear N2 hown7 hgr hz0 hz1 hz2
          go_wp2
          go_roundw
          case rel => exact ⟨m - 1, k + 1, rs ++ [⟨A2, k2, c2, ys⟩], int_pred hlt, by omega, by simp [HX.out], HN2.out⟩
          case measure => simp [intOf]; omega
    · have em : m = 0 := by omega
      subst em
      go_wp2_with fail
      refine (pick_any g _ n c A _ _ D.st.rd (by omega) (by omega) (by omega)).mono ?_
      rintro e w3 ⟨p1, rfl, ⟨p10, p11⟩, hr, hg⟩
      have D3 := (D.grown hr hg).wide (hi' := w3.heap.size) (Nat.le_refl _) hg.size
      have z3 := D3.st.hb
      clear D hr hg hlt
      obtain ⟨hi, hz0, hz1, hz2⟩ := HJ.out
      have HH := Lib.hid hi
      clear hi
      by_cases e0 : p1 = 0
      · subst e0
        have HD3 := Lib.hid D3
        clear D3 p10 p11 hz0 hz1 hz2
        go_wp2
        go_ret
        refine drewTasks_of (rs := []) (hi := w3.heap.size) (k := 0) (q := q + 200 - 40 * 0 + 1) ⟨(HD3.out.st.alloc _).fresh (World.ownsRow_made w3 #[] 0 (by have := HD3.out.st.hb; omega) (Nat.zero_le _) (by simp)), fun r hr => by cases hr⟩ (by simp) (by omega) (by omega)
      by_cases e1 : p1 = 1
      · subst e1
        clear e0 p10 p11
        go_wp2_with fail
        refine (num_any g _ n c _ 0 4 4 A _ (D3.alloc _).st.rd (by omega) (by omega) (by omega) (by simp) (by omega) (num_lits (xs := [-1, 1001, 1000, 9223372036854775807]) (heap_alloc_new _ _) rfl)).mono ?_
        rintro e w5 ⟨p3, rfl, _, hr, hg⟩
        have D5 := (D3.alloc _).grown hr hg
        have z5 := D5.st.hb
        have HS := Lib.hid hg.size
        clear D3 hr hg
        have D6 := (D5.alloc (.cells #[.int .i64 p3] 3)).wide (hi' := w5.heap.size + 1) (Nat.le_refl _) (by have := HS.out; simp at this; omega)
        have R6 : Own (w5.alloc (.cells #[.int .i64 p3] 3)) w.heap.size (w5.heap.size + 1) (some ⟨w5.heap.size, 0, none⟩) 1 1 [p3] := by
          obtain ⟨A2, c2, hv, ho⟩ := own_of_row (xs := [p3]) (World.ownsRow_lit (size := 1) (e := 3) w5 #[.int .i64 p3] 1 z5 (by unfold maxLen; omega) rfl)
          simp only [Value.slice.injEq] at hv
          obtain ⟨rfl, _, rfl⟩ := hv
          simpa using ho
        have HD6 := Lib.hid D6
        have HR6 := Lib.hid R6
        clear D5 D6 R6
        go_wp2_with (at_builtin; refine wpList_append_own_at _ rfl _ _ 49 rfl w.heap.size 54 i1 (.slice none 0 0) 1 24 Try.underlying49 HH.out hz0 hz1 hz2 rfl (by decide) _ _ _ rfl ((HD6.out.alloc _).st.own) ⟨w5.heap.size + 1, 0, none⟩ 1 1 [.slice (some ⟨w5.heap.size, 0, none⟩) 1 1] rfl rfl (cell_one_new' _ _ _ (by simp)) (by simp [Value.oneCell']) (by unfold maxLen; omega) (by omega) (by simp; omega) ?_; intro v' w7 hown7 hgr _ _)
        have N2 := ((HD6.out.alloc _).app (rs' := [⟨some ⟨w5.heap.size, 0, none⟩, 1, 1, [p3]⟩]) (by rw [List.map_append]; exact hown7) hgr (fun x hx => by rw [List.mem_singleton] at hx; subst hx; exact ⟨by show 1 ≤ 30; omega, HR6.out.keep (by simp) fun b _ _ hb => Below.heap_alloc _ _ b hb⟩))
        have HN2 := Lib.hid N2
        have HG := Lib.hid hgr.size
        clear N2 hown7 hgr hz0 hz1 hz2
        go_wp2
        go_ret
        exact drewTasks_of HN2.out (by have := HG.out; simp at this; omega) (by omega) (by omega)
      by_cases e2 : p1 = 2
      · subst e2
        clear e0 e1 p10 p11
        go_wp2_with fail
        refine (pick_any g _ n c A _ _ D3.st.rd (by omega) (by omega) (by omega)).mono ?_
        rintro e w5 ⟨p2, rfl, ⟨p20, p21⟩, hr, hg⟩
        have D5 := D3.grown hr hg
        have z5 := D5.st.hb
        have HS := Lib.hid hg.size
        clear D3 hr hg
        obtain ⟨P2, rfl⟩ := Int.eq_ofNat_of_zero_le p20
        have hmk := make_zeros (20 + P2) (by omega)
        rw [show ((20 + P2 : Nat) : Int) = 20 + (P2 : Int) by omega] at hmk
        have D6 := (D5.alloc (.cells (madeCells #[.int .i64 0] (20 + P2)) 3)).wide (hi' := w5.heap.size + 1) (Nat.le_refl _) (by have := HS.out; omega)
        have R6 : Own (w5.alloc (.cells (madeCells #[.int .i64 0] (20 + P2)) 3)) w.heap.size (w5.heap.size + 1) (some ⟨w5.heap.size, 0, none⟩) (20 + P2) (20 + P2) (List.replicate (20 + P2) 0) := by
          have hl := World.ownsRow_lit (size := 1) (e := 3) w5 (madeCells #[.int .i64 0] (20 + P2)) (20 + P2) z5 (by unfold maxLen; omega) (by simp [size_madeCells])
          rw [toList_madeCells_one, show List.replicate (20 + P2) (Value.int .i64 0) = ints (List.replicate (20 + P2) 0) by simp [ints]] at hl
          obtain ⟨A2, c2, hv, ho⟩ := own_of_row hl
          simp only [Value.slice.injEq] at hv
          obtain ⟨rfl, _, rfl⟩ := hv
          simpa using ho
        have HD6 := Lib.hid D6
        have HR6 := Lib.hid R6
        clear D5 D6 R6
        go_wp2_with (at_builtin; refine wpList_append_own_at _ rfl _ _ 49 rfl w.heap.size 54 i1 (.slice none 0 0) 1 24 Try.underlying49 HH.out hz0 hz1 hz2 rfl (by decide) _ _ _ rfl ((HD6.out.alloc _).st.own) ⟨w5.heap.size + 1, 0, none⟩ 1 1 [.slice (some ⟨w5.heap.size, 0, none⟩) (20 + P2) (20 + P2)] rfl rfl (cell_one_new' _ _ _ (by simp)) (by simp [Value.oneCell']) (by unfold maxLen; omega) (by omega) (by simp; omega) ?_; intro v' w7 hown7 hgr _ _)
        have N2 := ((HD6.out.alloc _).app (rs' := [⟨some ⟨w5.heap.size, 0, none⟩, 20 + P2, 20 + P2, List.replicate (20 + P2) 0⟩]) (by rw [List.map_append]; exact hown7) hgr (fun x hx => by rw [List.mem_singleton] at hx; subst hx; exact ⟨by show 20 + P2 ≤ 30; omega, HR6.out.keep (by simp) fun b _ _ hb => Below.heap_alloc _ _ b hb⟩))
        have HN2 := Lib.hid N2
        have HG := Lib.hid hgr.size
        clear N2 hown7 hgr hz0 hz1 hz2
        go_wp2
        go_ret
        exact drewTasks_of HN2.out (by have := HG.out; simp at this; omega) (by omega) (by omega)
      by_cases e3 : p1 = 3
      · subst e3
        clear e0 e1 e2 p10 p11
        have HD6 := Lib.hid ((((D3.alloc (.cells #[] 3)).alloc (.cells #[] 3)).alloc (.cells #[] 3)).alloc (.cells #[] 3))
        clear D3
        go_wp2_with (at_builtin; refine wpList_append_own_at _ rfl _ _ 49 rfl w.heap.size 54 i1 (.slice none 0 0) 1 24 Try.underlying49 HH.out hz0 hz1 hz2 rfl (by decide) _ _ _ rfl ((HD6.out.alloc _).st.own) ⟨w3.heap.size + 1 + 1 + 1 + 1, 0, none⟩ 4 4 [.slice (some ⟨w3.heap.size, 0, none⟩) 0 0, .slice (some ⟨w3.heap.size + 1, 0, none⟩) 0 0, .slice (some ⟨w3.heap.size + 1 + 1, 0, none⟩) 0 0, .slice (some ⟨w3.heap.size + 1 + 1 + 1, 0, none⟩) 0 0] rfl rfl (World.news_of_block (fr := (0, 0)) ((heap_new' _ _ (by simp)))) (by simp [Value.oneCell']) (by unfold maxLen; omega) (by omega) (by simp; omega) ?_; intro v' w7 hown7 hgr _ _)
        have N2 := ((HD6.out.alloc _).app (rs' := [⟨some ⟨w3.heap.size, 0, none⟩, 0, 0, []⟩, ⟨some ⟨w3.heap.size + 1, 0, none⟩, 0, 0, []⟩, ⟨some ⟨w3.heap.size + 1 + 1, 0, none⟩, 0, 0, []⟩, ⟨some ⟨w3.heap.size + 1 + 1 + 1, 0, none⟩, 0, 0, []⟩]) (by rw [List.map_append]; exact hown7) hgr (fun x hx => by
          simp only [List.mem_cons, List.not_mem_nil, or_false] at hx
          rcases hx with rfl | rfl | rfl | rfl <;> exact ⟨Nat.zero_le _, ⟨⟨rfl, Nat.le_refl _, Nat.zero_le _, fun h => absurd h (Nat.lt_irrefl 0)⟩, fun h => absurd h (Nat.lt_irrefl 0)⟩⟩))
        have HN2 := Lib.hid N2
        have HG := Lib.hid hgr.size
        clear N2 hown7 hgr hz0 hz1 hz2
        go_wp2
        go_ret
        exact drewTasks_of HN2.out (by have := HG.out; simp at this; omega) (by omega) (by omega)
      · have t0 : (p1 == 0) = false := by simp; exact e0
        have t1 : (p1 == 1) = false := by simp; exact e1
        have t2 : (p1 == 2) = false := by simp; exact e2
        have t3 : (p1 == 3) = false := by simp; exact e3
        clear e0 e1 e2 e3 p10 p11 hz0 hz1 hz2
        have HD3 := Lib.hid D3
        clear D3
        go_wp2
        go_ret
        exact drewTasks_of HD3.out (Nat.le_refl _) (by omega) (by omega)
def DrewNeed (w : World) (e : Ending) (w' : World) : Prop :=
  ∃ (t : Int) (A : Option Addr) (n c : Nat) (rs : List Row), e = .returned (.tuple #[.int .i64 t, .slice A n c]) ∧ Mat w' w.heap.size w'.heap.size w.heap.size w'.heap.size A n c rs ∧ n ≤ 10 ∧ (∀ r ∈ rs, r.n ≤ 30) ∧ Below w.heap.size w w'
theorem Mat.wide {w : World} {lo hi l h n c : Nat} {A : Option Addr} {rs : List Row} (m : Mat w lo hi lo hi A n c rs) (h1 : l ≤ lo) (h2 : hi ≤ h) : Mat w l h l h A n c rs := ⟨m.out.wide h1 h2, fun r hr => (m.row r hr).wide h1 h2⟩
set_option maxHeartbeats 2000000 in
theorem DrawFaultsNeeded_any (A : Option Addr) (n c : Nat) (w : World) (h : Code w A n c) :
    Calls Try.prog 49 #[.slice A n c] w (DrewNeed w) := by
  go_enter Try.func49, Try.ntmps49
  go_wp2_with fail
  refine (open_any _ _ _ _ h).mono ?_
  rintro e w1 ⟨g, A1, n1, c1, rfl, r1, b1, g0⟩
  clear h
  have hgl := r1.gblt
  go_wp2_with fail
  refine (num_any g _ n1 c1 _ 0 6 6 A1 _ (r1.alloc _) (by omega) (by omega) (by omega) (by simp) (by omega) (num_lits (xs := [2, 3, 1, 20, 0, 21]) (heap_alloc_new _ _) rfl)).mono ?_
  rintro e w2 ⟨t, rfl, _, hr, hg⟩
  have b2 := b1.trans (below_of_gb (gb_trans (gb_al (World.grownBy.refl _ _) _) hg) g0 b1.size)
  clear r1 hg b1
  go_wp2_with fail
  refine (l9Tasks_any g _ n1 c1 A1 _ hr (by omega)).mono ?_
  rintro e w3 ⟨A2, n2, c2, rs, rfl, hm, hn, hrn, hr3, hg3⟩
  have b3 := b2.trans (below_of_gb hg3 g0 b2.size)
  have HM := Lib.hid (hm.wide b2.size (Nat.le_refl _))
  have HR := Lib.hid hrn
  clear hr hm hrn hr3 hg3 b2
  go_wp2
  go_ret2
  exact ⟨t, _, _, _, rs, rfl, HM.out, hn, HR.out, b3⟩
end Go.Proofs.Ytgcnhojiaaonmaa
