/-
  Drawing a list of deeds, rooms and deeds: l1List, l1Both.
-/
import Derived.Test.YtojnnemodikpeaaDoorDrawO
namespace Go.Proofs.YtojnnemodikpeaaDoor
open Go.RowKit
set_option linter.unusedVariables false
/-- The state of l1List: the deeds so far, and the new one in block b. -/
structure LSt (w0 : World) (g : Nat) (A : Option Addr) (n c q : Nat) (v : Value) (k : Nat) (xs : List Value) (b : Nat) (s : ByteArray) (x y : Int) (W : World) : Prop where
  st : DSt w0 g A n c q 46 3 v k xs W
  blk : W.heap[b]? = some (.cells #[.string s, .int .i64 x, .int .i64 y] 46)
  lt : ∀ b', v.ownBlock = some b' → b' < b
  lo : w0.heap.size ≤ b
section
variable {w0 : World} {g : Nat} {A : Option Addr} {n c q : Nat} {v : Value} {k : Nat} {xs : List Value} {b : Nat} {s : ByteArray} {x y : Int} {W W' : World}
theorem LSt.below (h : LSt w0 g A n c q v k xs b s x y W) (hb : Below W.heap.size W W') : LSt w0 g A n c q v k xs b s x y W' := ⟨h.st.below hb, (blk_below hb h.blk).1, h.lt, h.lo⟩
theorem LSt.grown {q' : Nat} (h : LSt w0 g A n c q v k xs b s x y W) (hr : Rd W' g A n c q') (hg : W.grownBy W' (some g)) : LSt w0 g A n c q' v k xs b s x y W' :=
  ⟨h.st.grown hr hg, (blk_grown hg h.blk (by have := h.st.hg; have := h.lo; omega)).1, h.lt, h.lo⟩
theorem LSt.wide {q' : Nat} (h : LSt w0 g A n c q v k xs b s x y W) (hq : q ≤ q') : LSt w0 g A n c q' v k xs b s x y W := ⟨h.st.wide hq, h.blk, h.lt, h.lo⟩
theorem LSt.set {i : Nat} {u : Value} {s' : ByteArray} {x' y' : Int} (h : LSt w0 g A n c q v k xs b s x y W) (e : (#[Value.string s, .int .i64 x, .int .i64 y] : Array Value).setIfInBounds i u = #[.string s', .int .i64 x', .int .i64 y']) : LSt w0 g A n c q v k xs b s' x' y' (W.setCell ⟨b, i, none⟩ u) :=
  ⟨h.st.aside (gb_setCell ⟨b, i, none⟩ u) (by
      cases e2 : v.ownBlock with
      | none => exact .inl rfl
      | some b' => right; intro e3; injection e3 with e3; have := h.lt b' e2; simp at e3; omega) (fun b' e2 => by injection e2 with e2; simp at e2; have := h.lo; omega),
   by rw [blk_setCell h.blk, e], h.lt, h.lo⟩
theorem LSt.zb (h : LSt w0 g A n c q v k xs b s x y W) : b < W.heap.size := blk_lt h.blk
theorem LSt.make (h : DSt w0 g A n c q 46 3 v k xs W) (s : ByteArray) (x y : Int) : LSt w0 g A n c q v k xs W.heap.size s x y (W.alloc (.cells #[.string s, .int .i64 x, .int .i64 y] 46)) :=
  ⟨h.alloc _, heap_alloc_new _ _, fun b' e => (h.own.lt b' e).2, h.hb⟩
end
theorem deeds_snoc' (ds : List DeedD) (s : ByteArray) (x y : Int) : deeds (ds ++ [⟨s, x, y⟩]) = deeds ds ++ [.string s, .int .i64 x, .int .i64 y] := by simp [deeds, DeedD.cells]
/-- A new slice of deeds, the source some steps on, all else as it was. -/
def GotDeeds (w : World) (g : Nat) (A : Option Addr) (n c q : Nat) (e : Ending) (w' : World) : Prop :=
  ∃ (A' : Option Addr) (n' c' : Nat) (ds : List DeedD), e = .returned (.slice A' n' c') ∧ OwnV 46 3 w' w.heap.size w'.heap.size A' n' c' (deeds ds) ∧ n' ≤ 20 ∧ Rd w' g A n c q ∧ w.grownBy w' (some g)
theorem gotDeeds_of {w : World} {g : Nat} {A : Option Addr} {n c q q' k : Nat} {v : Value} {ds : List DeedD} {W : World} (h : DSt w g A n c q 46 3 v k (deeds ds) W) (hk : k ≤ 20) (hq : q ≤ q') : GotDeeds w g A n c q' (.returned v) W := by
  obtain ⟨A1, c1, rfl, ho⟩ := ownV_of_row h.own (by decide)
  exact ⟨A1, k, c1, ds, rfl, ho, hk, h.rd.mono hq, h.gr⟩
set_option maxRecDepth 20000 in
set_option maxHeartbeats 4000000 in
theorem l1List_any (g q n c : Nat) (A : Option Addr) (lines : Int) (w : World) (h : Rd w g A n c q) (hq : q < 800000000) (hl0 : 0 ≤ lines) (hl1 : lines ≤ 1000) :
    Calls Tryd.prog 89 #[.pointer (some ⟨g, 0, none⟩), .int .i64 lines] w (GotDeeds w g A n c (q + 200)) := by
  obtain ⟨i0, hi, hz0, hz1, hz2⟩ := info_parts info_deed
  have HI := Lib.hid (And.intro hi (And.intro hz0 (And.intro hz1 hz2)))
  clear hi hz0 hz1 hz2
  have D1 := DSt.init 46 3 h
  have gb := D1.hg
  clear h
  go_enter Tryd.func89, Tryd.ntmps89
  go_wp2_with fail
  refine (pick_any g _ n c A _ _ D1.rd (by omega) (by omega) (by omega)).mono ?_
  rintro e w2 ⟨r, rfl, ⟨r0, r5⟩, hr, hg⟩
  have D2 := (D1.grown hr hg).wide (q' := q + 190 - 12 * r.toNat) (by omega)
  clear D1 hr hg
  obtain ⟨R, rfl⟩ := Int.eq_ofNat_of_zero_le r0
  have HD2 := Lib.hid D2
  clear D2
  go_wp2
  go_loopw [5, 6] (fun v i wr => ∃ (m k : Nat) (ds : List DeedD), i = .int .i64 m ∧ m + k ≤ 13 ∧ ds.length = k ∧ DSt w g A n c (q + 190 - 12 * m) 46 3 v k (deeds ds) wr) (fun _ i _ => (intOf i).toNat)
  case atStart => exact ⟨R, 0, [], rfl, by omega, rfl, HD2.out⟩
  case round =>
    obtain ⟨m, k, ds, rfl, hmk, hxk, D⟩ := hrel
    have HX := Lib.hid hxk
    clear hxk
    obtain ⟨V, hV⟩ : ∃ V, V = u5 := ⟨_, rfl⟩
    by_cases hlt : 0 < m
    · have z4 := D.hb
      have HD := Lib.hid D
      clear D
      go_upto_region 6 with (go_at_call 100; refine (l1One_any g (q + 190 - 12 * m) n c A lines _ HD.out.rd (by omega) hl0 hl1).mono ?_; rintro e w3 ⟨s, x, y, rfl, hr, hg⟩; have HD3 := Lib.hid (LSt.make (HD.out.grown hr hg) s x y); have zb3 := HD3.out.zb; have ec := blk_cell HD3.out.blk; clear hr hg)
      go_cut [26] from 11 to 31 (fun v wx => ∃ t : Bool, v = .bool t ∧ LSt w g A n c (q + 190 - 12 * m + 11) u5 k (deeds ds) w3.heap.size s x y wx)
      case first =>
        obtain ⟨t, ht⟩ : ∃ t, t = deedB lines ⟨s, x, y⟩ := ⟨_, rfl⟩
        have HT := Lib.hid ht
        clear ht
        cases t
        · go_wp2_with (first
            | (go_at_call 82; refine (spec_l1Deed ⟨s, x, y⟩ lines _).mono ?_; rintro e w4 ⟨rfl, b4⟩; rw [← HT.out]; have HD4 := Lib.hid (HD3.out.below b4); clear b4)
            | (go_at_call 94; refine (pick_any g (q + 190 - 12 * m + 10) n c A _ _ HD4.out.st.rd (by omega) (by omega) (by omega)).mono ?_; rintro e w5 ⟨r2, rfl, ⟨r20, r21⟩, hr2, hg2⟩; have HD5 := Lib.hid (HD4.out.grown hr2 hg2); clear hr2 hg2))
          all_goals
            go_meet
            exact ⟨_, rfl, HD5.out⟩
        · go_wp2_with (go_at_call 82; refine (spec_l1Deed ⟨s, x, y⟩ lines _).mono ?_; rintro e w4 ⟨rfl, b4⟩; rw [← HT.out]; have HD4 := Lib.hid (HD3.out.below b4); clear b4)
          go_meet
          exact ⟨_, rfl, HD4.out.wide (by omega)⟩
      case rest =>
        obtain ⟨t, rfl, D6⟩ := hcut
        have HD6 := Lib.hid D6
        clear D6
        go_upto_if 26 with fail
        go_cut [] from 11 to 31 (fun wx => ∃ (s' : ByteArray) (x' y' : Int), LSt w g A n c (q + 190 - 12 * m + 11) u5 k (deeds ds) w3.heap.size s' x' y' wx)
        case first =>
          have ec := blk_cell HD6.out.blk
          have fc := blk_frozen HD6.out.blk
          have zb := HD6.out.zb
          cases t
          · go_wp2
            go_meet
            exact ⟨s, x, y, HD6.out⟩
          · go_wp2
            go_meet
            exact ⟨_, _, _, ((HD6.out.set (i := 0) (u := .string ⟨#[116, 97, 107, 101]⟩) (s' := ⟨#[116, 97, 107, 101]⟩) (x' := x) (y' := y) rfl).set (i := 1) (u := .int .i64 1) (s' := ⟨#[116, 97, 107, 101]⟩) (x' := 1) (y' := y) rfl).set (i := 2) (u := .int .i64 0) (s' := ⟨#[116, 97, 107, 101]⟩) (x' := 1) (y' := 0) rfl⟩
        case rest =>
          obtain ⟨s', x', y', D7⟩ := hcut
          have ec := blk_cell D7.blk
          have zb := D7.zb
          have zw := D7.st.hb
          have HD7 := Lib.hid D7
          obtain ⟨hi, hz0, hz1, hz2⟩ := HI.out
          have HH := Lib.hid hi
          clear hi D7
          go_wp2_with (at_builtin; refine wpList_append_own_at _ rfl _ _ 28 rfl w.heap.size 46 i0 (.agg #[.string ⟨#[]⟩, .int .i64 0, .int .i64 0]) 3 32 Tryd.underlying28 HH.out hz0 hz1 hz2 rfl (by decide) _ _ _ rfl ((HD7.out.st.alloc _).own) ⟨wc.heap.size, 0, none⟩ 1 1 [.string s', .int .i64 x', .int .i64 y'] rfl rfl (World.news_of_block (cs := #[.string s', .int .i64 x', .int .i64 y']) (heap_alloc_new _ _)) (by simp [Value.oneCell']) (by unfold maxLen; omega) (by omega) (by simp; omega) ?_; intro v' w6 hown6 hgr _ _)
          have D8 := ((HD7.out.st.alloc _).app hown6 hgr).wide (q' := q + 190 - 12 * (m - 1)) (by omega)
          have HD8 := Lib.hid D8
          clear D8 hown6 hgr hz0 hz1 hz2
          go_wp2
          go_roundw
          case rel => exact ⟨m - 1, k + 1, ds ++ [⟨s', x', y'⟩], int_pred hlt, by omega, by simp [HX.out], by rw [deeds_snoc']; exact HD8.out⟩
          case measure => simp [intOf]; omega
    · have em : m = 0 := by omega
      subst em
      have HD := Lib.hid D
      clear D
      go_wp2
      go_ret
      exact gotDeeds_of HD.out (by omega) (by omega)
end Go.Proofs.YtojnnemodikpeaaDoor
