/-
  Drawing a table, and rooms, deeds and a table: l5Table, l5Case and the laws' draw functions.
-/
import Derived.Test.YtojnnemodikpeaaDoorDrawN
import Derived.Test.YtojnnemodikpeaaDoorRunA
namespace Go.Proofs.YtojnnemodikpeaaDoor
open Go.RowKit
set_option linter.unusedVariables false
theorem own_some {E s : Nat} {w : World} {base k : Nat} {v : Value} {xs : List Value} (h : w.ownsRow base E s v k xs) (hk : 0 < k) : ∃ g c, v = .slice (some ⟨g, 0, none⟩) k c := by
  obtain ⟨_, x | ⟨b, cap, cur, e, _⟩⟩ := h
  · have := x.2; omega
  · exact ⟨b, cap, e⟩
set_option maxRecDepth 20000 in
set_option maxHeartbeats 4000000 in
theorem l5Table_any (g q n c : Nat) (A : Option Addr) (lines : Int) (w : World) (h : Rd w g A n c q) (hq : q < 800000000) (hl0 : 0 ≤ lines) (hl1 : lines ≤ 1000) :
    Calls Tryd.prog 93 #[.pointer (some ⟨g, 0, none⟩), .int .i64 lines] w (GotDeeds w g A n c (q + 60)) := by
  obtain ⟨i0, hi, hz0, hz1, hz2⟩ := info_parts info_deed
  have HI := Lib.hid (And.intro hi (And.intro hz0 (And.intro hz1 hz2)))
  clear hi hz0 hz1 hz2
  have D1 := DSt.init 46 3 h
  have gb := D1.hg
  clear h
  go_enter Tryd.func93, Tryd.ntmps93
  go_wp2_with fail
  refine (pick_any g _ n c A _ _ D1.rd (by omega) (by omega) (by omega)).mono ?_
  rintro e w2 ⟨r, rfl, ⟨r0, r5⟩, hr, hg⟩
  have D2 := (D1.grown hr hg).wide (q' := q + 30 - 5 * (1 + r.toNat)) (by omega)
  clear D1 hr hg
  obtain ⟨R, rfl⟩ := Int.eq_ofNat_of_zero_le r0
  have HD2 := Lib.hid D2
  clear D2
  go_wp2
  go_loopw [5, 6] (fun v i wr => ∃ (m k : Nat) (ds : List DeedD), i = .int .i64 m ∧ m + k ≤ 4 ∧ 1 ≤ m + k ∧ ds.length = k ∧ DSt w g A n c (q + 30 - 5 * m) 46 3 v k (deeds ds) wr) (fun _ i _ => (intOf i).toNat)
  case atStart => exact ⟨1 + R, 0, [], by first | rfl | (congr 1; omega), by omega, by omega, rfl, HD2.out⟩
  case round =>
    obtain ⟨m, k, ds, rfl, hmk, hmk1, hxk, D⟩ := hrel
    have HX := Lib.hid hxk
    clear hxk
    obtain ⟨V, hV⟩ : ∃ V, V = u5 := ⟨_, rfl⟩
    by_cases hlt : 0 < m
    · have z4 := D.hb
      have HD := Lib.hid D
      clear D
      go_upto_region 6 with (first
        | (go_at_call 101; refine (of_any g _ n c _ 0 3 3 A _ (HD.out.alloc _).rd (by omega) (by omega) (by omega) (by simp) (by omega) (of_lits (xs := [⟨#[116, 97, 107, 101]⟩, ⟨#[116, 97, 107, 101]⟩, ⟨#[112, 117, 116]⟩]) (heap_alloc_new _ _) rfl)).mono ?_; rintro e w3 ⟨s, rfl, hr, hg⟩; have HD3 := Lib.hid ((HD.out.alloc _).grown hr hg); clear hr hg)
        | (go_at_call 94; refine (pick_any g _ n c A _ _ HD3.out.rd (by omega) (by omega) (by omega)).mono ?_; rintro e w4 ⟨r2, rfl, ⟨r20, r21⟩, hr2, hg2⟩; have HD4 := Lib.hid (HD3.out.grown hr2 hg2); clear hr2 hg2))
      have HL4 := Lib.hid (LSt.make HD4.out s (1 + r2) 0)
      have ec := blk_cell HL4.out.blk
      have fc := blk_frozen HL4.out.blk
      have zb := HL4.out.zb
      go_upto_if 27 with fail
      go_cut [] from 27 to 30 (fun wx => ∃ y : Int, LSt w g A n c (q + 30 - 5 * m + 3) u5 k (deeds ds) w4.heap.size s (1 + r2) y wx)
      case first =>
        cases t : (s.toList == [112, 117, 116])
        · clear t
          go_wp2
          go_meet
          exact ⟨0, HL4.out.wide (by omega)⟩
        · clear t
          go_wp2_with (go_at_call 94; refine (pick_any g _ n c A _ _ HL4.out.st.rd (by omega) (by omega) (by omega)).mono ?_; rintro e w5 ⟨r3, rfl, ⟨r30, r31⟩, hr3, hg3⟩; have HL5 := Lib.hid (HL4.out.grown hr3 hg3); have ec5 := blk_cell HL5.out.blk; have fc5 := blk_frozen HL5.out.blk; have zb5 := HL5.out.zb; clear hr3 hg3)
          go_meet
          exact ⟨_, (HL5.out.set (i := 2) (u := .int .i64 r3) (s' := s) (x' := 1 + r2) (y' := r3) rfl).wide (by omega)⟩
      case rest =>
        obtain ⟨y, D5⟩ := hcut
        have HL5 := Lib.hid D5
        clear D5 ec fc zb
        go_upto_if 33 with (go_at_call 94; refine (pick_any g _ n c A _ _ HL5.out.st.rd (by omega) (by omega) (by omega)).mono ?_; rintro e w6 ⟨r4, rfl, ⟨r40, r41⟩, hr4, hg4⟩; have HL6 := Lib.hid (HL5.out.grown hr4 hg4); clear hr4 hg4)
        have ec := blk_cell HL6.out.blk
        have fc := blk_frozen HL6.out.blk
        have zb := HL6.out.zb
        go_cut [] from 33 to 34 (fun wx => ∃ x : Int, LSt w g A n c (q + 30 - 5 * m + 4) u5 k (deeds ds) w4.heap.size s x y wx)
        case first =>
          by_cases e4 : r4 = 0
          · subst e4
            go_wp2
            go_meet
            exact ⟨_, (HL6.out.set (i := 1) (u := .int .i64 0) (s' := s) (x' := 0) (y' := y) rfl).wide (by omega)⟩
          · have e4' : (r4 == 0) = false := by simpa using e4
            go_wp2
            go_meet
            exact ⟨_, HL6.out.wide (by omega)⟩
        case rest =>
          obtain ⟨x, D7⟩ := hcut
          clear ec fc zb
          have ec := blk_cell D7.blk
          have zb := D7.zb
          have zw := D7.st.hb
          have HD7 := Lib.hid D7
          obtain ⟨hi, hz0, hz1, hz2⟩ := HI.out
          have HH := Lib.hid hi
          clear hi D7
          go_wp2_with (at_builtin; refine wpList_append_own_at _ rfl _ _ 28 rfl w.heap.size 46 i0 (.agg #[.string ⟨#[]⟩, .int .i64 0, .int .i64 0]) 3 32 Tryd.underlying28 HH.out hz0 hz1 hz2 rfl (by decide) _ _ _ rfl ((HD7.out.st.alloc _).own) ⟨wc.heap.size, 0, none⟩ 1 1 [.string s, .int .i64 x, .int .i64 y] rfl rfl (World.news_of_block (cs := #[.string s, .int .i64 x, .int .i64 y]) (heap_alloc_new _ _)) (by simp [Value.oneCell']) (by unfold maxLen; omega) (by omega) (by simp; omega) ?_; intro v' w6 hown6 hgr _ _; have HO6 := Lib.hid (And.intro hown6 hgr); clear hown6 hgr)
          have D8 := ((HD7.out.st.alloc _).app HO6.out.1 HO6.out.2).wide (q' := q + 30 - 5 * (m - 1)) (by omega)
          have HD8 := Lib.hid D8
          clear D8 hz0 hz1 hz2
          go_wp2
          go_roundw
          case rel => exact ⟨m - 1, k + 1, ds ++ [⟨s, x, y⟩], int_pred hlt, by omega, by omega, by simp [HX.out], by rw [deeds_snoc']; exact HD8.out⟩
          case measure => simp [intOf]; omega
    · have em : m = 0 := by omega
      subst em
      have HDD := Lib.hid D
      clear D hlt
      go_wp2_with fail
      refine (pick_any g _ n c A _ _ HDD.out.rd (by omega) (by omega) (by omega)).mono ?_
      rintro e w3 ⟨p1, rfl, ⟨p10, p11⟩, hr, hg⟩
      have D3 := HDD.out.grown hr hg
      clear hr hg
      have z3 := D3.hb
      obtain ⟨hi, hz0, hz1, hz2⟩ := HI.out
      have HH := Lib.hid hi
      clear hi
      have HD3 := Lib.hid D3
      by_cases e0 : p1 = 0
      · subst e0
        clear D3 p10 p11 hz0 hz1 hz2
        go_wp2
        go_ret
        exact gotDeeds_of (ds := []) ((HD3.out.alloc _).fresh (World.ownsRow_made w3 #[] 0 (by have := HD3.out.hb; omega) (Nat.zero_le _) (by simp))) (by omega) (by omega)
      by_cases e1 : p1 = 1
      · subst e1
        clear e0 p10 p11 D3
        go_wp2_with (first
          | (go_at_call 101; refine (of_any g _ n c _ 0 3 3 A _ (HD3.out.alloc _).rd (by omega) (by omega) (by omega) (by simp) (by omega) (of_lits (xs := [⟨#[101, 110, 100]⟩, ⟨#[108, 111, 111, 107]⟩, ⟨#[116, 97, 107, 101]⟩]) (heap_alloc_new _ _) rfl)).mono ?_; rintro e w5 ⟨s, rfl, hr, hg⟩; have HD5 := Lib.hid ((HD3.out.alloc _).grown hr hg); have z5 := HD5.out.hb; clear hr hg)
          | (go_at_call 81; refine (num_any g _ n c _ 0 3 3 A _ (HD5.out.alloc _).rd (by omega) (by omega) (by omega) (by simp) (by omega) (num_lits (xs := [1, 7, -1]) (heap_alloc_new _ _) rfl)).mono ?_; rintro e w7 ⟨p3, rfl, _, hr, hg⟩; have HD7 := Lib.hid ((HD5.out.alloc _).grown hr hg); have z7 := HD7.out.hb; clear hr hg)
          | (at_builtin; refine wpList_append_own_at _ rfl _ _ 28 rfl w.heap.size 46 i0 (.agg #[.string ⟨#[]⟩, .int .i64 0, .int .i64 0]) 3 32 Tryd.underlying28 HH.out hz0 hz1 hz2 rfl (by decide) _ _ _ rfl ((HD7.out.alloc _).own) ⟨w7.heap.size, 0, none⟩ 1 1 [.string s, .int .i64 p3, .int .i64 0] rfl rfl (World.news_of_block (cs := #[.string s, .int .i64 p3, .int .i64 0]) (heap_alloc_new _ _)) (by simp [Value.oneCell']) (by unfold maxLen; omega) (by omega) (by simp; omega) ?_; intro v' w6 hown6 hgr _ _; have HO6 := Lib.hid (And.intro hown6 hgr); clear hown6 hgr))
        go_ret
        exact gotDeeds_of (ds := ds ++ [⟨s, p3, 0⟩]) ((HD7.out.alloc _).app (by rw [deeds_snoc']; exact HO6.out.1) HO6.out.2) (by omega) (by omega)
      by_cases e2 : p1 = 2
      · subst e2
        clear e0 e1 p10 p11 D3
        obtain ⟨b1, c1, hv1⟩ := own_some HD3.out.own (by omega)
        have HV := Lib.hid hv1
        subst hv1
        have hk0 : 1 ≤ k := by omega
        have hk4 : k ≤ 4 := by omega
        go_wp2_with fail
        go_loopw [5] (fun v wr => ∃ (gb k cb : Nat) (ds : List DeedD), v = .slice (some ⟨gb, 0, none⟩) k cb ∧ 1 ≤ k ∧ k ≤ 9 ∧ ds.length = k ∧ DSt w g A n c (q + 40) 46 3 v k (deeds ds) wr) (fun v _ => match v with | .slice _ n _ => 9 - n | _ => 0)
        case atStart => exact ⟨b1, k, c1, ds, rfl, hk0, by omega, HX.out, HD3.out.wide (by omega)⟩
        case round =>
          clear HV HX HD3 hk0 hk4
          obtain ⟨gb, k, cb, ds, rfl, hk1, hk9, hxk, D⟩ := hrel
          by_cases hlt : k < 9
          · obtain ⟨d, hd⟩ : ∃ d, ds[0]? = some d := ⟨_, List.getElem?_eq_getElem (by omega)⟩
            obtain ⟨g0, g1, g2⟩ := deeds_get hd
            have ec0 := row_cells D.own g0
            have ec1 := row_cells D.own g1
            have ec2 := row_cells D.own g2
            simp only [Nat.zero_mul, Nat.zero_add] at ec0 ec1 ec2
            have zb : gb < wr.heap.size := by obtain ⟨_, cs, h2, _⟩ := row_blk D.own; exact blk_lt h2
            have zw := D.hb
            have hk1' : (0 : Int) < (k : Int) := by omega
            have hk9' : (k : Int) < 9 := by omega
            have hk1'' : 0 < k := by omega
            have HX := Lib.hid hxk
            have HD7 := Lib.hid D
            clear hxk D hd g0 g1 g2
            go_wp2_with (at_builtin; refine wpList_append_own_at _ rfl _ _ 28 rfl w.heap.size 46 i0 (.agg #[.string ⟨#[]⟩, .int .i64 0, .int .i64 0]) 3 32 Tryd.underlying28 HH.out hz0 hz1 hz2 rfl (by decide) _ _ _ rfl ((HD7.out.alloc _).own) ⟨wr.heap.size, 0, none⟩ 1 1 [.string d.act, .int .i64 d.a, .int .i64 d.b] rfl rfl (World.news_of_block (cs := #[.string d.act, .int .i64 d.a, .int .i64 d.b]) (heap_alloc_new _ _)) (by simp [Value.oneCell']) (by unfold maxLen; omega) (by omega) (by simp; omega) ?_; intro v' w6 hown6 hgr _ _; have HO6 := Lib.hid (And.intro hown6 hgr); clear hown6 hgr)
            obtain ⟨gn, cn, hvn⟩ := own_some HO6.out.1 (by omega)
            subst hvn
            have HD8 := Lib.hid ((HD7.out.alloc _).app HO6.out.1 HO6.out.2)
            have HK := Lib.hid hk9
            clear hz0 hz1 hz2 hk9' hk1' hk1''
            go_wp2
            go_roundw
            case rel => exact ⟨gn, k + 1, cn, ds ++ [d], rfl, by omega, by omega, by simp [HX.out], by rw [deeds_snoc']; exact HD8.out⟩
            case measure => simp; omega
          · have hk9' : ¬ (k : Int) < 9 := by omega
            have HX := Lib.hid hxk
            have HD7 := Lib.hid D
            clear hxk D
            go_wp2
            go_ret
            exact gotDeeds_of (ds := ds) HD7.out (by omega) (by omega)
      · clear D3 hz0 hz1 hz2
        have e0' : (p1 == 0) = false := by simpa using e0
        have e1' : (p1 == 1) = false := by simpa using e1
        have e2' : (p1 == 2) = false := by simpa using e2
        go_wp2
        go_ret
        exact gotDeeds_of (ds := ds) HD3.out (by omega) (by omega)
/-- Rooms, deeds and a table of the call's own; the source some steps on; all else as it was. -/
def GotCase (w : World) (g : Nat) (A : Option Addr) (n c q : Nat) (e : Ending) (w' : World) : Prop :=
  ∃ (A1 : Option Addr) (n1 c1 : Nat) (xs : List Int) (A2 : Option Addr) (n2 c2 : Nat) (ds : List DeedD) (A3 : Option Addr) (n3 c3 : Nat) (ts : List DeedD), e = .returned (.tuple #[.slice A1 n1 c1, .slice A2 n2 c2, .slice A3 n3 c3]) ∧ OwnV 3 1 w' w.heap.size w'.heap.size A1 n1 c1 (ints xs) ∧ OwnV 46 3 w' w.heap.size w'.heap.size A2 n2 c2 (deeds ds) ∧ OwnV 46 3 w' w.heap.size w'.heap.size A3 n3 c3 (deeds ts) ∧ n1 ≤ 10 ∧ n2 ≤ 20 ∧ n3 ≤ 20 ∧ Rd w' g A n c q ∧ w.grownBy w' (some g)
set_option maxHeartbeats 2000000 in
theorem l5Case_any (g q n c : Nat) (A : Option Addr) (w : World) (h : Rd w g A n c q) (hq : q < 700000000) :
    Calls Tryd.prog 78 #[.pointer (some ⟨g, 0, none⟩)] w (GotCase w g A n c (q + 280)) := by
  have hgl := h.gblt
  go_enter Tryd.func78, Tryd.ntmps78
  go_wp2_with fail
  refine (l1Rooms_any g q n c A _ h (by omega)).mono ?_
  rintro e w1 ⟨A1, n1, c1, xs, rfl, o1, hn1, r1, g1⟩
  have s1 := g1.size
  have HO := Lib.hid (And.intro o1 g1)
  clear h o1 g1
  go_wp2_with fail
  refine (l1List_any g (q + 20) n c A n1 _ r1 (by omega) (by omega) (by omega)).mono ?_
  rintro e w2 ⟨A2, n2, c2, ds, rfl, o2, hn2, r2, g2⟩
  have s2 := g2.size
  have HO2 := Lib.hid (And.intro o2 (And.intro g2 r2))
  clear o2 g2 r2 r1
  go_wp2_with fail
  refine (l5Table_any g (q + 20 + 200) n c A n1 _ HO2.out.2.2 (by omega) (by omega) (by omega)).mono ?_
  rintro e w3 ⟨A3, n3, c3, ts, rfl, o3, hn3, r3, g3⟩
  have s3 := g3.size
  have HO3 := Lib.hid (And.intro o3 (And.intro g3 r3))
  clear o3 g3 r3
  go_wp2
  refine bodyPost_ret (v := .tuple #[.slice A1 n1 c1, .slice A2 n2 c2, .slice A3 n3 c3]) (by simp [results, Tryd.results78, go_sem]) rfl ?_
  exact ⟨A1, n1, c1, xs, A2, n2, c2, ds, A3, n3, c3, ts, rfl, (((HO.out.1.gb HO2.out.2.1 hgl).gb HO3.out.2.1 hgl)).wide (Nat.le_refl _) (by omega), ((HO2.out.1.gb HO3.out.2.1 (by omega))).wide s1 (by omega), HO3.out.1.from (by omega), hn1, hn2, hn3, HO3.out.2.2, gb_trans (gb_trans HO.out.2 HO2.out.2.1) HO3.out.2.1⟩
/-- What a law draws: rooms, deeds and a table. -/
def DrewCase (w : World) (e : Ending) (w' : World) : Prop :=
  ∃ (A1 : Option Addr) (n1 c1 : Nat) (xs : List Int) (A2 : Option Addr) (n2 c2 : Nat) (ds : List DeedD) (A3 : Option Addr) (n3 c3 : Nat) (ts : List DeedD), e = .returned (.tuple #[.slice A1 n1 c1, .slice A2 n2 c2, .slice A3 n3 c3]) ∧ Slc w' w.heap.size w'.heap.size 1 A1 n1 c1 (ints xs) ∧ Slc w' w.heap.size w'.heap.size 3 A2 n2 c2 (deeds ds) ∧ Slc w' w.heap.size w'.heap.size 3 A3 n3 c3 (deeds ts) ∧ n1 ≤ 10 ∧ n2 ≤ 20 ∧ n3 ≤ 20 ∧ Below w.heap.size w w'
set_option maxHeartbeats 2000000 in
theorem DrawReadyEntries_any (A : Option Addr) (n c : Nat) (w : World) (h : Code w A n c) : Calls Tryd.prog 53 #[.slice A n c] w (DrewCase w) := by
  go_enter Tryd.func53, Tryd.ntmps53
  go_wp2_with fail
  refine (open_any _ _ _ _ h).mono ?_
  rintro e w1 ⟨g, A1, n1, c1, rfl, r1, b1, g0⟩
  have HB1 := Lib.hid b1
  have z1 := b1.size
  clear h b1
  go_wp2_with fail
  refine (l5Case_any g 0 n1 c1 A1 _ r1 (by omega)).mono ?_
  rintro e w2 ⟨B1, m1, d1, xs, B2, m2, d2, ds, B3, m3, d3, ts, rfl, o1, o2, o3, h1, h2, h3, r2, g2⟩
  have HO := Lib.hid (And.intro o1 (And.intro o2 (And.intro o3 g2)))
  clear r1 r2 o1 o2 o3 g2
  go_wp2
  refine bodyPost_ret (v := .tuple #[.slice B1 m1 d1, .slice B2 m2 d2, .slice B3 m3 d3]) (by simp [results, Tryd.results53, go_sem]) rfl ?_
  exact ⟨B1, m1, d1, xs, B2, m2, d2, ds, B3, m3, d3, ts, rfl, HO.out.1.slc.wide z1 (Nat.le_refl _), HO.out.2.1.slc.wide z1 (Nat.le_refl _), HO.out.2.2.1.slc.wide z1 (Nat.le_refl _), h1, h2, h3, HB1.out.trans (below_of_gb HO.out.2.2.2 g0 z1)⟩
/-- .. and a number. -/
def DrewCaseN (w : World) (e : Ending) (w' : World) : Prop :=
  ∃ (A1 : Option Addr) (n1 c1 : Nat) (xs : List Int) (A2 : Option Addr) (n2 c2 : Nat) (ds : List DeedD) (A3 : Option Addr) (n3 c3 : Nat) (ts : List DeedD) (x : Int), e = .returned (.tuple #[.slice A1 n1 c1, .slice A2 n2 c2, .slice A3 n3 c3, .int .i64 x]) ∧ Slc w' w.heap.size w'.heap.size 1 A1 n1 c1 (ints xs) ∧ Slc w' w.heap.size w'.heap.size 3 A2 n2 c2 (deeds ds) ∧ Slc w' w.heap.size w'.heap.size 3 A3 n3 c3 (deeds ts) ∧ n1 ≤ 10 ∧ n2 ≤ 20 ∧ n3 ≤ 20 ∧ Below w.heap.size w w'
set_option maxHeartbeats 2000000 in
theorem DrawNextReady_any (A : Option Addr) (n c : Nat) (w : World) (h : Code w A n c) : Calls Tryd.prog 56 #[.slice A n c] w (DrewCaseN w) := by
  go_enter Tryd.func56, Tryd.ntmps56
  go_wp2_with fail
  refine (open_any _ _ _ _ h).mono ?_
  rintro e w1 ⟨g, A1, n1, c1, rfl, r1, b1, g0⟩
  have HB1 := Lib.hid b1
  have z1 := b1.size
  clear h b1
  go_wp2_with fail
  refine (l5Case_any g 0 n1 c1 A1 _ r1 (by omega)).mono ?_
  rintro e w2 ⟨B1, m1, d1, xs, B2, m2, d2, ds, B3, m3, d3, ts, rfl, o1, o2, o3, h1, h2, h3, r2, g2⟩
  have s2 := g2.size
  have hgl := r1.gblt
  have HO := Lib.hid (And.intro o1 (And.intro o2 (And.intro o3 g2)))
  clear r1 o1 o2 o3 g2
  go_wp2_with fail
  refine (num_any g _ n1 c1 _ 0 7 7 A1 _ (r2.alloc _) (by omega) (by omega) (by omega) (by simp) (by omega) (num_lits (xs := [0, 1, 2, -1, 3, 8, 9223372036854775807]) (heap_alloc_new _ _) rfl)).mono ?_
  rintro e w3 ⟨x, rfl, _, hr, hg⟩
  have s3 := hg.size
  have HG := Lib.hid (gb_trans (gb_al (World.grownBy.refl w2 _) _) hg)
  clear hr hg r2
  go_wp2
  refine bodyPost_ret (v := .tuple #[.slice B1 m1 d1, .slice B2 m2 d2, .slice B3 m3 d3, .int .i64 x]) (by simp [results, Tryd.results56, go_sem]) rfl ?_
  have s4 := HG.out.size
  exact ⟨B1, m1, d1, xs, B2, m2, d2, ds, B3, m3, d3, ts, x, rfl, (HO.out.1.gb HG.out hgl).slc.wide z1 (by omega), (HO.out.2.1.gb HG.out hgl).slc.wide z1 (by omega), (HO.out.2.2.1.gb HG.out hgl).slc.wide z1 (by omega), h1, h2, h3, HB1.out.trans (below_of_gb (gb_trans HO.out.2.2.2 HG.out) g0 z1)⟩
end Go.Proofs.YtojnnemodikpeaaDoor
