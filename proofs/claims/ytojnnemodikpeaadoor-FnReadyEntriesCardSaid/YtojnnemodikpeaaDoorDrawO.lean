/-
  Drawing a deed: l1One.
-/
import Derived.Test.YtojnnemodikpeaaDoorDrawL
import Derived.Deep.CutRange
import Derived.Test.YtojnnemodikpeaaDoorApp
namespace Go.Proofs.YtojnnemodikpeaaDoor
open Go.RowKit
set_option linter.unusedVariables false
/-- The state of l1One: the source; the deed that is made, in block b; the result's cells; all else as it was. -/
structure OneSt (w0 : World) (g : Nat) (A : Option Addr) (n c q b : Nat) (s : ByteArray) (x y : Int) (W : World) : Prop where
  rd : Rd W g A n c q
  gr : w0.grownBy W (some g)
  hg : g < w0.heap.size
  res : W.heap[w0.heap.size]? = some (.cells #[.string ⟨#[]⟩, .int .i64 0, .int .i64 0] 46)
  blk : W.heap[b]? = some (.cells #[.string s, .int .i64 x, .int .i64 y] 46)
  lo : w0.heap.size < b
section
variable {w0 : World} {g : Nat} {A : Option Addr} {n c q b : Nat} {s : ByteArray} {x y : Int} {W W' : World}
theorem OneSt.alloc (h : OneSt w0 g A n c q b s x y W) (o : Obj) : OneSt w0 g A n c q b s x y (W.alloc o) := ⟨h.rd.alloc o, gb_al h.gr o, h.hg, blk_alloc h.res o, blk_alloc h.blk o, h.lo⟩
theorem OneSt.grown {q' : Nat} (h : OneSt w0 g A n c q b s x y W) (hr : Rd W' g A n c q') (hg : W.grownBy W' (some g)) : OneSt w0 g A n c q' b s x y W' :=
  ⟨hr, gb_trans h.gr hg, h.hg, (blk_grown hg h.res (by have := h.hg; omega)).1, (blk_grown hg h.blk (by have := h.hg; have := h.lo; omega)).1, h.lo⟩
theorem OneSt.wide {q' : Nat} (h : OneSt w0 g A n c q b s x y W) (hq : q ≤ q') : OneSt w0 g A n c q' b s x y W := ⟨h.rd.mono hq, h.gr, h.hg, h.res, h.blk, h.lo⟩
theorem OneSt.set {i : Nat} {v : Value} {s' : ByteArray} {x' y' : Int} (h : OneSt w0 g A n c q b s x y W) (e : (#[Value.string s, .int .i64 x, .int .i64 y] : Array Value).setIfInBounds i v = #[.string s', .int .i64 x', .int .i64 y']) : OneSt w0 g A n c q b s' x' y' (W.setCell ⟨b, i, none⟩ v) :=
  ⟨h.rd.setCell (by have := h.hg; have := h.lo; simp; omega) v, gb_set h.gr (by have := h.lo; simp; omega) v, h.hg, (Below.heap_setCell W ⟨b, i, none⟩ v _ (by have := h.lo; simp; omega)).trans h.res, by rw [blk_setCell h.blk, e], h.lo⟩
theorem OneSt.setS {v : ByteArray} (h : OneSt w0 g A n c q b s x y W) : OneSt w0 g A n c q b v x y (W.setCell ⟨b, 0, none⟩ (.string v)) := h.set rfl
theorem OneSt.setX {v : Int} (h : OneSt w0 g A n c q b s x y W) : OneSt w0 g A n c q b s v y (W.setCell ⟨b, 1, none⟩ (.int .i64 v)) := h.set rfl
theorem OneSt.setY {v : Int} (h : OneSt w0 g A n c q b s x y W) : OneSt w0 g A n c q b s x v (W.setCell ⟨b, 2, none⟩ (.int .i64 v)) := h.set rfl
theorem OneSt.zb (h : OneSt w0 g A n c q b s x y W) : b < W.heap.size := blk_lt h.blk
end
/-- A deed; at most q numbers are taken then; all else as it was. -/
def GotD (w : World) (g : Nat) (A : Option Addr) (n c q : Nat) (e : Ending) (w' : World) : Prop :=
  ∃ (s : ByteArray) (x y : Int), e = .returned (.agg #[.string s, .int .i64 x, .int .i64 y]) ∧ Rd w' g A n c q ∧ w.grownBy w' (some g)
theorem gotD_of {w0 : World} {g : Nat} {A : Option Addr} {n c q q' b : Nat} {s : ByteArray} {x y : Int} {W : World} (h : OneSt w0 g A n c q b s x y W) (hq : q ≤ q') (v1 v2 v3 : Value) :
    Rd (((W.setCell ⟨w0.heap.size, 0, none⟩ v1).setCell ⟨w0.heap.size, 1, none⟩ v2).setCell ⟨w0.heap.size, 2, none⟩ v3) g A n c q' ∧ w0.grownBy (((W.setCell ⟨w0.heap.size, 0, none⟩ v1).setCell ⟨w0.heap.size, 1, none⟩ v2).setCell ⟨w0.heap.size, 2, none⟩ v3) (some g) := by
  have hg := h.hg
  exact ⟨(((h.rd.setCell (by simpa using hg) v1).setCell (by simpa using hg) v2).setCell (by simpa using hg) v3).mono hq, gb_set (gb_set (gb_set h.gr (by simp) v1) (by simp) v2) (by simp) v3⟩
set_option maxRecDepth 20000 in
set_option maxHeartbeats 4000000 in
theorem l1One_any (g q n c : Nat) (A : Option Addr) (lines : Int) (w : World) (h : Rd w g A n c q) (hq : q < 900000000) (hl0 : 0 ≤ lines) (hl1 : lines ≤ 1000) :
    Calls Tryd.prog 100 #[.pointer (some ⟨g, 0, none⟩), .int .i64 lines] w (GotD w g A n c (q + 10)) := by
  have hgl := h.gblt
  go_enter Tryd.func100, Tryd.ntmps100
  go_upto_region 1 with fail
  go_cut [5] from 6 to 14 (fun v wx => ∃ (b : Nat) (s : ByteArray) (x : Int), v = .pointer (some ⟨b, 0, none⟩) ∧ OneSt w g A n c (q + 2) b s x 0 wx)
  case first =>
    go_wp2_with (first
      | (go_at_call 101; refine (of_any g q n c _ 0 6 6 A _ ((h.alloc _).alloc _) (by omega) (by omega) (by omega) (by simp) (by omega) (of_lits (xs := [⟨#[112, 117, 116]⟩, ⟨#[112, 117, 116]⟩, ⟨#[116, 97, 107, 101]⟩, ⟨#[116, 97, 107, 101]⟩, ⟨#[101, 110, 100]⟩, ⟨#[108, 111, 111, 107]⟩]) (heap_new' _ _ (by simp)) rfl)).mono ?_; rintro e w1 ⟨s, rfl, hr, hg⟩; have g1 := gb_trans (gb_al (gb_al (World.grownBy.refl w (some g)) _) _) hg; have k1 := (blk_grown hg (blk_alloc (heap_alloc_new w _) _) (by omega)).1; have z1 := blk_lt k1; have HK1 := Lib.hid (And.intro g1 k1); clear h hg g1 k1)
      | (go_at_call 94; refine (pick_any g _ n c A _ _ hr (by omega) (by omega) (by omega)).mono ?_; rintro e w2 ⟨r, rfl, ⟨r0, r1⟩, hr2, hg2⟩; have g2 := gb_trans HK1.out.1 hg2; have k2 := (blk_grown hg2 HK1.out.2 (by omega)).1; have z2 := blk_lt k2; have HK2 := Lib.hid (And.intro g2 (And.intro k2 hr2)); clear hg2 g2 k2 hr2))
    all_goals
      go_meet
      exact ⟨w2.heap.size, s, _, rfl, HK2.out.2.2.alloc _, gb_al HK2.out.1 _, hgl, blk_alloc HK2.out.2.1 _, heap_alloc_new _ _, z2⟩
  case rest =>
    obtain ⟨b, s, x, rfl, D⟩ := hcut
    clear h
    have ec := blk_cell D.blk
    have zb := D.zb
    go_upto_if 17 with (go_at_call 96; refine (spec_l1Words s _).mono ?_; rintro e w1 ⟨rfl, rfl⟩)
    go_cut [] from 17 to 23 (fun wx => ∃ y : Int, OneSt w g A n c (q + 4) b s x y wx)
    case first =>
      have HD := Lib.hid D
      clear D
      cases t : (s.toList == putA)
      · go_wp2
        go_meet
        exact ⟨0, HD.out.wide (by omega)⟩
      · go_wp2_with (first
          | (go_at_call 94; refine (pick_any g _ n c A _ _ HD.out.rd (by omega) (by omega) (by omega)).mono ?_; rintro e w2 ⟨r, rfl, ⟨r0, r1⟩, hr2, hg2⟩; have HD2 := Lib.hid (HD.out.grown hr2 hg2); have zb2 := HD2.out.zb; have zl2 := HD2.out.lo; clear hr2 hg2)
          | (go_at_call 81; refine (num_any g _ n c _ 0 3 3 A _ (HD2.out.alloc _).rd (by omega) (by omega) (by omega) (by simp) (by omega) (num_lits (xs := [r, 0, 1000]) (heap_alloc_new _ _) rfl)).mono ?_; rintro e w3 ⟨p3, rfl, _, hr3, hg3⟩; have HD3 := Lib.hid ((HD2.out.alloc _).grown hr3 hg3); have ec3 := blk_cell HD3.out.blk; have fc3 := blk_frozen HD3.out.blk; have zb3 := HD3.out.zb; clear hr3 hg3))
        go_meet
        exact ⟨p3, HD3.out.setY.wide (by omega)⟩
    case rest =>
      obtain ⟨y, D⟩ := hcut
      go_upto_region 4 with fail
      go_cut [31] from 24 to 30 (fun v wx => ∃ t : Bool, v = .bool t ∧ OneSt w g A n c (q + 5) b s x y wx)
      case first =>
        have ec := blk_cell D.blk
        have zb := D.zb
        have HD := Lib.hid D
        clear D
        cases t : (s.toList == endA)
        · have t' : (s.toList == [101, 110, 100]) = false := t
          clear t
          go_wp2
          go_meet
          exact ⟨_, rfl, HD.out.wide (by omega)⟩
        · have t' : (s.toList == [101, 110, 100]) = true := t
          clear t
          go_wp2_with (go_at_call 94; refine (pick_any g _ n c A _ _ HD.out.rd (by omega) (by omega) (by omega)).mono ?_; rintro e w2 ⟨r, rfl, ⟨r0, r1⟩, hr2, hg2⟩; have HD2 := Lib.hid (HD.out.grown hr2 hg2); clear hr2 hg2)
          all_goals
            go_meet
            exact ⟨_, rfl, HD2.out.wide (by omega)⟩
      case rest =>
      obtain ⟨t, rfl, D⟩ := hcut
      go_upto_if 31 with fail
      go_cut [] from 31 to 32 (fun wx => ∃ s' : ByteArray, OneSt w g A n c (q + 5) b s' x y wx)
      case first =>
        have ec := blk_cell D.blk
        have fc := blk_frozen D.blk
        have zb := D.zb
        have HD := Lib.hid D
        clear D
        cases t
        · go_wp2
          go_meet
          exact ⟨s, HD.out⟩
        · go_wp2
          go_meet
          exact ⟨_, HD.out.setS⟩
      case rest =>
        obtain ⟨s', D⟩ := hcut
        go_wp2_with fail
        refine (pick_any g (q + 5) n c A _ _ D.rd (by omega) (by omega) (by omega)).mono ?_
        rintro e w2 ⟨r, rfl, ⟨r0, r1⟩, hr2, hg2⟩
        have D2 := D.grown hr2 hg2
        have ec := blk_cell D2.blk
        have fc := blk_frozen D2.blk
        have er := blk_cell D2.res
        have fr := blk_frozen D2.res
        have zb := D2.zb
        have zr := blk_lt D2.res
        have zlo := D2.lo
        have HD := Lib.hid D2
        clear D D2 hr2 hg2
        have hne : ¬ b = w.heap.size := by omega
        have hne2 : ¬ w.heap.size = b := by omega
        by_cases e0 : r = 0
        · subst e0
          go_wp2
          refine bodyPost_ret (v := .agg #[.string s', .int .i64 0, .int .i64 y]) ?_ rfl ⟨_, _, _, rfl, ?_⟩
          · simp [results, Tryd.results100, go_sem, er]
          · exact gotD_of HD.out.setX (by omega) _ _ _
        by_cases e1 : r = 1
        · subst e1
          go_wp2
          refine bodyPost_ret (v := .agg #[.string s', .int .i64 0, .int .i64 y]) ?_ rfl ⟨_, _, _, rfl, ?_⟩
          · simp [results, Tryd.results100, go_sem, er]
          · exact gotD_of HD.out.setX (by omega) _ _ _
        by_cases e2 : r = 2
        · subst e2
          clear ec fc er fr
          go_wp2_with fail
          refine (num_any g (q + 6) n c _ 0 3 3 A _ (HD.out.alloc _).rd (by omega) (by omega) (by omega) (by simp) (by omega) (num_lits (xs := [-1, 7, 9223372036854775807]) (heap_alloc_new _ _) rfl)).mono ?_
          rintro e w3 ⟨p3, rfl, _, hr3, hg3⟩
          have HD3 := Lib.hid ((HD.out.alloc _).grown hr3 hg3)
          have ec := blk_cell HD3.out.blk
          have fc := blk_frozen HD3.out.blk
          have er := blk_cell HD3.out.res
          have fr := blk_frozen HD3.out.res
          have zb3 := HD3.out.zb
          have zr3 := blk_lt HD3.out.res
          clear hr3 hg3
          go_wp2
          refine bodyPost_ret (v := .agg #[.string s', .int .i64 p3, .int .i64 y]) ?_ rfl ⟨_, _, _, rfl, ?_⟩
          · simp [results, Tryd.results100, go_sem, er]
          · exact gotD_of HD3.out.setX (by omega) _ _ _
        by_cases e3 : r = 3
        · subst e3
          clear ec fc er fr
          go_wp2_with fail
          refine (num_any g (q + 6) n c _ 0 3 3 A _ (HD.out.alloc _).rd (by omega) (by omega) (by omega) (by simp) (by omega) (num_lits (xs := [1001, -1, 5]) (heap_alloc_new _ _) rfl)).mono ?_
          rintro e w3 ⟨p3, rfl, _, hr3, hg3⟩
          have HD3 := Lib.hid ((HD.out.alloc _).grown hr3 hg3)
          have ec := blk_cell HD3.out.blk
          have fc := blk_frozen HD3.out.blk
          have er := blk_cell HD3.out.res
          have fr := blk_frozen HD3.out.res
          have zb3 := HD3.out.zb
          have zr3 := blk_lt HD3.out.res
          clear hr3 hg3
          go_wp2
          refine bodyPost_ret (v := .agg #[.string s', .int .i64 x, .int .i64 p3]) ?_ rfl ⟨_, _, _, rfl, ?_⟩
          · simp [results, Tryd.results100, go_sem, er]
          · exact gotD_of HD3.out.setY (by omega) _ _ _
        by_cases e4 : r = 4
        · subst e4
          clear ec fc er fr
          go_wp2_with fail
          refine (of_any g (q + 6) n c _ 0 3 3 A _ (HD.out.alloc _).rd (by omega) (by omega) (by omega) (by simp) (by omega) (of_lits (xs := [⟨#[]⟩, ⟨#[103, 105, 118, 101]⟩, ⟨#[80, 85, 84]⟩]) (heap_alloc_new _ _) rfl)).mono ?_
          rintro e w3 ⟨p3, rfl, hr3, hg3⟩
          have HD3 := Lib.hid ((HD.out.alloc _).grown hr3 hg3)
          have ec := blk_cell HD3.out.blk
          have fc := blk_frozen HD3.out.blk
          have er := blk_cell HD3.out.res
          have fr := blk_frozen HD3.out.res
          have zb3 := HD3.out.zb
          have zr3 := blk_lt HD3.out.res
          clear hr3 hg3
          go_wp2
          refine bodyPost_ret (v := .agg #[.string p3, .int .i64 x, .int .i64 y]) ?_ rfl ⟨_, _, _, rfl, ?_⟩
          · simp [results, Tryd.results100, go_sem, er]
          · exact gotD_of HD3.out.setS (by omega) _ _ _
        go_wp2
        refine bodyPost_ret (v := .agg #[.string s', .int .i64 x, .int .i64 y]) ?_ rfl ⟨_, _, _, rfl, ?_⟩
        · simp [results, Tryd.results100, go_sem, er]
        · exact gotD_of HD.out (by omega) _ _ _
end Go.Proofs.YtojnnemodikpeaaDoor
