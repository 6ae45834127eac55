/-
  Deeds: structs of a text and two numbers, and slices of them: copied, compared, marked, measured.
-/
import Derived.Test.YtojnnemodikpeaaDoorOwnV
import Derived.Test.YtojnnemodikpeaaDoorText
import Derived.Deep.RegionHeld3
import Derived.Laws.StructEq
namespace Go.Proofs.YtojnnemodikpeaaDoor
open Go.RowKit
set_option linter.unusedVariables false
structure DeedD where
  act : ByteArray
  a : Int
  b : Int
  deriving DecidableEq
def DeedD.cells (d : DeedD) : List Value := [.string d.act, .int .i64 d.a, .int .i64 d.b]
def DeedD.val (d : DeedD) : Value := .agg #[.string d.act, .int .i64 d.a, .int .i64 d.b]
def deeds (ds : List DeedD) : List Value := ds.flatMap DeedD.cells
theorem deeds_len (ds : List DeedD) : (deeds ds).length = ds.length * 3 := flat_len DeedD.cells (s := 3) (fun _ => rfl) ds
theorem deeds_get {ds : List DeedD} {k : Nat} {d : DeedD} (h : ds[k]? = some d) : (deeds ds)[k * 3 + 0]? = some (.string d.act) ∧ (deeds ds)[k * 3 + 1]? = some (.int .i64 d.a) ∧ (deeds ds)[k * 3 + 2]? = some (.int .i64 d.b) := by
  have e := fun i hi => flat_get DeedD.cells (s := 3) (fun _ => rfl) ds k i hi
  unfold deeds
  rw [e 0 (by omega), e 1 (by omega), e 2 (by omega), h]
  exact ⟨rfl, rfl, rfl⟩
theorem deeds_set {ds : List DeedD} {k : Nat} {d : DeedD} {cs : Array Value} (h : ds[k]? = some d) (hs : k * 3 + 3 ≤ cs.size) (hc : ∀ j, j < k * 3 → cs[j]? = (deeds ds)[j]?) :
    ∀ j, j < (k + 1) * 3 → (((cs.setIfInBounds (k * 3) (.string d.act)).setIfInBounds (k * 3 + 1) (.int .i64 d.a)).setIfInBounds (k * 3 + 2) (.int .i64 d.b))[j]? = (deeds ds)[j]? := by
  intro j hj
  obtain ⟨g0, g1, g2⟩ := deeds_get h
  by_cases j2 : j = k * 3 + 2
  · subst j2; rw [Array.getElem?_setIfInBounds_self_of_lt (by simp; omega), g2]
  rw [Array.getElem?_setIfInBounds_ne (by omega)]
  by_cases j1 : j = k * 3 + 1
  · subst j1; rw [Array.getElem?_setIfInBounds_self_of_lt (by simp; omega), g1]
  rw [Array.getElem?_setIfInBounds_ne (by omega)]
  by_cases j0 : j = k * 3
  · subst j0; rw [Array.getElem?_setIfInBounds_self_of_lt (by omega)]; exact g0.symm
  rw [Array.getElem?_setIfInBounds_ne (by omega)]
  exact hc j (by omega)
theorem Slc.deedAt {w : World} {lo hi n c : Nat} {A : Option Addr} {ds : List DeedD} (h : Slc w lo hi 3 A n c (deeds ds)) {k : Nat} (hk : k < n) :
    ∃ b off d, A = some ⟨b, off, none⟩ ∧ lo ≤ b ∧ b < hi ∧ b < w.heap.size ∧ ds[k]? = some d ∧ w.cell? ⟨b, off + k * 3, none⟩ = some (.string d.act) ∧ w.cell? ⟨b, off + k * 3 + 1, none⟩ = some (.int .i64 d.a) ∧ w.cell? ⟨b, off + k * 3 + 2, none⟩ = some (.int .i64 d.b) := by
  obtain ⟨b, off, e, h1, h2, h3, h4⟩ := h.cells hk
  have hl : k < ds.length := by have := h.len; rw [deeds_len] at this; omega
  obtain ⟨g0, g1, g2⟩ := deeds_get (List.getElem?_eq_getElem hl)
  exact ⟨b, off, ds[k], e, h1, h2, h3, List.getElem?_eq_getElem hl, h4 0 _ g0, h4 1 _ g1, h4 2 _ g2⟩
theorem Slc.deedLen {w : World} {lo hi n c : Nat} {A : Option Addr} {ds : List DeedD} (h : Slc w lo hi 3 A n c (deeds ds)) : ds.length = n := by
  have := h.len; rw [deeds_len] at this; omega
set_option maxHeartbeats 1000000 in
theorem toDeed_any (d : DeedD) (w : World) :
    Calls Tryd.prog 61 #[.agg #[.string d.act, .int .i64 d.a, .int .i64 d.b]] w fun e w' => e = .returned (.agg #[.string d.act, .int .i64 d.a, .int .i64 d.b]) ∧ Below w.heap.size w w' := by
  go_enter Tryd.func61, Tryd.ntmps61
  go_wp2
  refine bodyPost_ret (v := .agg #[.string d.act, .int .i64 d.a, .int .i64 d.b]) (by simp [results, Tryd.results61, go_sem]) rfl ⟨rfl, ?_⟩
  exact below_al (below_al (below_al (Below.refl _ _) _) _) _
theorem info_deed : (Tryd.prog.info? 46).map (fun i => (i.zero, i.size, i.bytes)) = some (some (.agg #[.string ⟨#[]⟩, .int .i64 0, .int .i64 0]), 3, 32) := by kernel_rfl
theorem make_deeds (n : Nat) (hn : n ≤ 1048576) : ∃ cs : Array Value, cs.size = n * 3 ∧ ∀ w : World, (Instr.makeSlice 28 (.int .i64 (n : Int)) (.int .i64 (n : Int))).run Tryd.prog w = .ok (.slice (some ⟨w.heap.size, 0, none⟩) n n) (w.alloc (.cells cs 46)) := by
  obtain ⟨i, hi, hz, hs, hb⟩ := info_parts info_deed
  refine ⟨madeCells (Value.cells (.agg #[.string ⟨#[]⟩, .int .i64 0, .int .i64 0])) (n * 3), size_madeCells _ _, fun w => ?_⟩
  have := run_make (P := Tryd.prog) w 28 46 i _ Tryd.underlying28 hi hz .i64 .i64 n n (by omega) (Int.le_refl _) (by rw [hb]; omega) (by omega)
  rw [hs] at this
  simpa using this
set_option maxHeartbeats 1000000 in
theorem toDeedS_any (lo hi n c : Nat) (A : Option Addr) (ds : List DeedD) (w : World) (h : Slc w lo hi 3 A n c (deeds ds)) (hn : n ≤ 1048576) :
    Calls Tryd.prog 20 #[.slice A n c] w (NewV 46 3 w (deeds ds)) := by
  obtain ⟨cs0, hs0, hmk⟩ := make_deeds n hn
  have hlen := h.deedLen
  have HS0 := Lib.hid hs0
  have HL := Lib.hid hlen
  clear hs0 hlen
  go_enter Tryd.func20, Tryd.ntmps20
  go_wp2
  go_loopw [4] (fun i wr => ∃ k : Nat, k ≤ n ∧ i = .int .i64 k ∧ Below w.heap.size w wr ∧ ∃ cs : Array Value, wr.heap[w.heap.size]? = some (.cells cs 46) ∧ cs.size = n * 3 ∧ ∀ j, j < k * 3 → cs[j]? = (deeds ds)[j]?) (fun i _ => n - (intOf i).toNat)
  case atStart => exact ⟨0, Nat.zero_le _, rfl, below_al (Below.refl _ _) _, cs0, heap_alloc_new _ _, HS0.out, fun j hj => absurd hj (by omega)⟩
  case round =>
    obtain ⟨k, hk, rfl, B, cs, hb, hsz, hcs⟩ := hrel
    have HS := Lib.hid hsz
    have HC := Lib.hid hcs
    have HB := Lib.hid hb
    have hz := blk_lt hb
    clear hsz hcs hb
    by_cases hlt : k < n
    · obtain ⟨b, off, d, rfl, _, _, h3, hxk, hv0, hv1, hv2⟩ := (h.below B).deedAt hlt
      have HX := Lib.hid hxk
      clear hxk
      go_wp2_with fail
      refine (toDeed_any d _).mono ?_
      rintro e w1 ⟨rfl, b1⟩
      obtain ⟨hb1, z1⟩ := blk_below b1 HB.out
      have B1 := below_step B b1
      have e0 := blk_cell hb1 (k * 3)
      have e1 := blk_cell hb1 (k * 3 + 1)
      have e2 := blk_cell hb1 (k * 3 + 2)
      have hf := blk_frozen' hb1
      rw [Array.getElem?_eq_getElem (by rw [HS.out]; omega)] at e0 e1 e2
      have HB1 := Lib.hid hb1
      clear hb1 b1 h hv0 hv1 hv2
      go_wp2
      go_roundw
      case rel => exact ⟨k + 1, by omega, by go_num, ((B1.setCell (Nat.le_refl _) _).setCell (Nat.le_refl _) _).setCell (Nat.le_refl _) _, ((cs.setIfInBounds (k * 3) (.string d.act)).setIfInBounds (k * 3 + 1) (.int .i64 d.a)).setIfInBounds (k * 3 + 2) (.int .i64 d.b), blk_setCell (blk_setCell (blk_setCell HB1.out _) _) _, by simp [HS.out], fun j hj => deeds_set HX.out (by rw [HS.out]; omega) HC.out j hj⟩
      case measure => simp [intOf]; omega
    · have e : k = n := by omega
      subst e
      clear h
      go_wp2
      go_ret
      exact ⟨_, _, _, rfl, ownV_made HB.out hz HS.out (Nat.le_refl _) (by unfold maxLen; omega) (by rw [deeds_len, HL.out]) HC.out, B⟩
set_option maxHeartbeats 1000000 in
theorem eqDeed_any (d e : DeedD) (w : World) :
    Calls Tryd.prog 65 #[.agg #[.string d.act, .int .i64 d.a, .int .i64 d.b], .agg #[.string e.act, .int .i64 e.a, .int .i64 e.b]] w fun x w' => x = .returned (.bool (d == e)) ∧ Below w.heap.size w w' := by
  obtain ⟨s, x, y⟩ := d
  obtain ⟨s', x', y'⟩ := e
  go_enter Tryd.func65, Tryd.ntmps65
  go_wp2
  all_goals go_ret
  all_goals refine ⟨ret_bool ?_, below_al (below_al (Below.refl _ _) _) _⟩
  all_goals first
    | (symm; rw [beq_eq_false_iff_ne]; intro h; injection h with h1 h2 h3; subst h1 h2 h3; simp_all; done)
    | (symm; rw [beq_iff_eq]; obtain rfl : s = s' := str_eq (by simp_all); simp_all; done)
/-- The cells of two structs, and all else as it was. -/
theorem held6_below {w W W' : World} {a0 a1 a2 b0 b1 b2 : Addr} {v0 v1 v2 u0 u1 u2 : Value} (hb : Below W.heap.size W W')
    (h : W.cell? a0 = some v0 ∧ W.cell? a1 = some v1 ∧ W.cell? a2 = some v2 ∧ W.cell? b0 = some u0 ∧ W.cell? b1 = some u1 ∧ W.cell? b2 = some u2 ∧ Below w.heap.size w W) :
    W'.cell? a0 = some v0 ∧ W'.cell? a1 = some v1 ∧ W'.cell? a2 = some v2 ∧ W'.cell? b0 = some u0 ∧ W'.cell? b1 = some u1 ∧ W'.cell? b2 = some u2 ∧ Below w.heap.size w W' := by
  have e : ∀ {a : Addr} {v : Value}, W.cell? a = some v → W'.cell? a = some v := fun {a v} hv => (World.cell?_of_block (hb.block _ (World.block_lt_of_cell? W _ hv))).trans hv
  exact ⟨e h.1, e h.2.1, e h.2.2.1, e h.2.2.2.1, e h.2.2.2.2.1, e h.2.2.2.2.2.1, below_step h.2.2.2.2.2.2 hb⟩
theorem held6_drew {w W : World} {a0 a1 a2 b0 b1 b2 : Addr} {v0 v1 v2 u0 u1 u2 : Value}
    (h : W.cell? a0 = some v0 ∧ W.cell? a1 = some v1 ∧ W.cell? a2 = some v2 ∧ W.cell? b0 = some u0 ∧ W.cell? b1 = some u1 ∧ W.cell? b2 = some u2 ∧ Below w.heap.size w W) :
    W.drew.cell? a0 = some v0 ∧ W.drew.cell? a1 = some v1 ∧ W.drew.cell? a2 = some v2 ∧ W.drew.cell? b0 = some u0 ∧ W.drew.cell? b1 = some u1 ∧ W.drew.cell? b2 = some u2 ∧ Below w.heap.size w W.drew :=
  ⟨h.1, h.2.1, h.2.2.1, h.2.2.2.1, h.2.2.2.2.1, h.2.2.2.2.2.1, ⟨h.2.2.2.2.2.2.os, h.2.2.2.2.2.2.tape, h.2.2.2.2.2.2.output, h.2.2.2.2.2.2.size, h.2.2.2.2.2.2.block⟩⟩
set_option maxHeartbeats 2000000 in
theorem eqDeedS_any (lo hi n c lo' hi' n' c' : Nat) (A A' : Option Addr) (ds es : List DeedD) (w : World) (h : Slc w lo hi 3 A n c (deeds ds)) (h' : Slc w lo' hi' 3 A' n' c' (deeds es)) (hn : n ≤ 1048576) (hn' : n' ≤ 1048576) :
    Calls Tryd.prog 23 #[.slice A n c, .slice A' n' c'] w fun x w' => x = .returned (.bool (ds == es)) ∧ Below w.heap.size w w' := by
  have hl := Lib.hid h.deedLen
  have hl' := Lib.hid h'.deedLen
  by_cases hne : n = n'
  · subst hne
    go_enter Tryd.func23, Tryd.ntmps23
    go_wp2
    go_loopw [5] (fun i wr => ∃ k : Nat, k ≤ n ∧ i = .int .i64 k ∧ Below w.heap.size w wr ∧ ∀ j, j < k → ds[j]? = es[j]?) (fun i _ => n - (intOf i).toNat)
    case atStart => exact ⟨0, Nat.zero_le _, rfl, Below.refl _ _, fun j hj => absurd hj (by omega)⟩
    case round =>
      obtain ⟨k, hk, rfl, B, hcs⟩ := hrel
      have HC := Lib.hid hcs
      clear hcs
      by_cases hlt : k < n
      · obtain ⟨b, off, d, hA, _, _, h3, hxk, hv0, hv1, hv2⟩ := (h.below B).deedAt hlt
        obtain ⟨b', off', e, hA', _, _, h3', hxk', hv0', hv1', hv2'⟩ := (h'.below B).deedAt hlt
        subst hA hA'
        have HX := Lib.hid hxk
        have HX' := Lib.hid hxk'
        have S0 := And.intro hv0 (And.intro hv1 (And.intro hv2 (And.intro hv0' (And.intro hv1' (And.intro hv2' B)))))
        clear hxk hxk' h h' hv0 hv1 hv2 hv0' hv1' hv2' h3 h3' B
        have i0 : (0 : Int) ≤ (k : Int) := by omega
        have i1 : (k : Int) < (n : Int) := by omega
        obtain ⟨t, ht⟩ : ∃ t, t = (d == e) := ⟨_, rfl⟩
        have HT := Lib.hid ht
        clear ht
        go_wp2_with fail
        go_region_held3 (fun W => W.cell? ⟨b, off + k * 3, none⟩ = some (.string d.act) ∧ W.cell? ⟨b, off + k * 3 + 1, none⟩ = some (.int .i64 d.a) ∧ W.cell? ⟨b, off + k * 3 + 2, none⟩ = some (.int .i64 d.b) ∧ W.cell? ⟨b', off' + k * 3, none⟩ = some (.string e.act) ∧ W.cell? ⟨b', off' + k * 3 + 1, none⟩ = some (.int .i64 e.a) ∧ W.cell? ⟨b', off' + k * 3 + 2, none⟩ = some (.int .i64 e.b) ∧ Below w.heap.size w W)
          (first | exact held6_drew S0 | exact held6_below (by assumption) (by assumption))
          (first | (go_at_call 65; refine (eqDeed_any d e _).mono ?_; rintro x w2 ⟨rfl, b2⟩; rw [← HT.out]))
        have S2 : Below w.heap.size w w2 := by
          have S1 : w2.cell? ⟨b, off + k * 3, none⟩ = some (.string d.act) ∧ w2.cell? ⟨b, off + k * 3 + 1, none⟩ = some (.int .i64 d.a) ∧ w2.cell? ⟨b, off + k * 3 + 2, none⟩ = some (.int .i64 d.b) ∧ w2.cell? ⟨b', off' + k * 3, none⟩ = some (.string e.act) ∧ w2.cell? ⟨b', off' + k * 3 + 1, none⟩ = some (.int .i64 e.a) ∧ w2.cell? ⟨b', off' + k * 3 + 2, none⟩ = some (.int .i64 e.b) ∧ Below w.heap.size w w2 := by assumption
          exact S1.2.2.2.2.2.2
        clear S0
        cases t
        · go_wp2
          go_ret
          refine ⟨ret_bool ?_, S2⟩
          symm
          rw [beq_eq_false_iff_ne]
          intro hh
          subst hh
          have := HX.out.symm.trans HX'.out
          injection this with this
          subst this
          simpa using HT.out
        · go_wp2
          go_roundw
          case rel => exact ⟨k + 1, by omega, by go_num, S2, fun j hj => by
            by_cases e : j = k
            · subst e; rw [HX.out, HX'.out, eq_of_beq HT.out.symm]
            · exact HC.out j (by omega)⟩
          case measure => simp [intOf]; omega
      · have e : k = n := by omega
        subst e
        clear h h'
        go_wp2
        go_ret
        exact ⟨ret_bool (by
          symm; rw [beq_iff_eq]; apply List.ext_getElem?; intro j
          rcases Nat.lt_or_ge j k with hj | hj
          · exact HC.out j hj
          · rw [List.getElem?_eq_none (by rw [hl.out]; exact hj), List.getElem?_eq_none (by rw [hl'.out]; exact hj)]), B⟩
  · have hq : ((n : Int) != (n' : Int)) = true := by rw [bne_iff_ne]; omega
    clear h h'
    have HN := Lib.hid hne
    clear hne
    go_enter Tryd.func23, Tryd.ntmps23
    go_wp2
    go_ret
    exact ⟨ret_bool (by symm; rw [beq_eq_false_iff_ne]; intro e; exact HN.out (by rw [← hl.out, ← hl'.out, e])), Below.refl _ _⟩
def szDeedF (l : Int) : List DeedD → Int
  | [] => l
  | d :: ds => if l < d.act.size then -1 else szDeedF (l - d.act.size) ds
/-- What szDeedS answers. -/
def szDeedN (l : Int) (n : Nat) (ds : List DeedD) : Int := if l < n then -1 else szDeedF (l - n) ds
theorem szDeedF_le {ds : List DeedD} : ∀ {l : Int}, 0 ≤ l → szDeedF l ds ≤ l := by
  induction ds with
  | nil => intro l h0; rw [szDeedF]; omega
  | cons d ds ih =>
    intro l h0
    rw [szDeedF]
    split
    · omega
    · have := ih (l := l - d.act.size) (by omega); omega
theorem szDeedF_all {ds : List DeedD} : ∀ {l : Int}, 0 ≤ szDeedF l ds → l ≤ 1048576 → ∀ d ∈ ds, d.act.size ≤ 1048576 := by
  induction ds with
  | nil => intro l _ _ d hd; cases hd
  | cons q ds ih =>
    intro l h hl d hd
    rw [szDeedF] at h
    split at h
    · omega
    · rcases List.mem_cons.1 hd with e | hd
      · subst e; omega
      · exact ih h (by omega) d hd
theorem szDeedN_all {l : Int} {n : Nat} {ds : List DeedD} (h : 0 ≤ szDeedN l n ds) (hl : l ≤ 1048576) : n ≤ 1048576 ∧ ∀ d ∈ ds, d.act.size ≤ 1048576 := by
  unfold szDeedN at h
  split at h
  · omega
  · exact ⟨by omega, szDeedF_all h (by omega)⟩
theorem szDeedN_le {l : Int} {n : Nat} {ds : List DeedD} (h : 0 ≤ l) : szDeedN l n ds ≤ l := by
  unfold szDeedN
  split
  · omega
  · have := szDeedF_le (ds := ds) (l := l - n) (by omega); omega
theorem drop_get' {α : Type} {l : List α} {k : Nat} {a : α} (h : l[k]? = some a) : l.drop k = a :: l.drop (k + 1) := by
  obtain ⟨hk, e⟩ := List.getElem?_eq_some_iff.1 h
  rw [List.drop_eq_getElem_cons hk, e]
set_option maxHeartbeats 1000000 in
theorem szDeed_any (d : DeedD) (l : Int) (w : World) (h0 : 0 ≤ l) (h1 : l ≤ 1048576) (hs : d.act.size ≤ maxLen) :
    Calls Tryd.prog 57 #[.agg #[.string d.act, .int .i64 d.a, .int .i64 d.b], .int .i64 l] w fun e w' => e = .returned (.int .i64 (if l < d.act.size then -1 else l - d.act.size)) ∧ Below w.heap.size w w' := by
  unfold maxLen at hs
  by_cases hl : l < d.act.size
  · rw [if_pos hl]
    have hx : l - d.act.size < 0 := by omega
    go_enter Tryd.func57, Tryd.ntmps57
    go_wp2
    go_ret
    exact ⟨rfl, below_al (Below.refl _ _) _⟩
  · rw [if_neg hl]
    have hx : 0 ≤ l - d.act.size := by omega
    go_enter Tryd.func57, Tryd.ntmps57
    go_wp2
    go_ret
    exact ⟨rfl, below_al (Below.refl _ _) _⟩
set_option maxHeartbeats 1000000 in
theorem szDeedS_any (lo hi n c : Nat) (A : Option Addr) (ds : List DeedD) (l : Int) (w : World) (h : Slc w lo hi 3 A n c (deeds ds)) (hd : ∀ d ∈ ds, d.act.size ≤ maxLen) (h0 : 0 ≤ l) (h1 : l ≤ 1048576) :
    Calls Tryd.prog 17 #[.slice A n c, .int .i64 l] w fun e w' => e = .returned (.int .i64 (szDeedN l n ds)) ∧ Below w.heap.size w w' := by
  have hc1 := h.le
  have hc2 := h.cap
  unfold maxLen at hc2
  by_cases hl : l < n
  · have hx : l - n < 0 := by omega
    have H := Lib.hid (if_pos hl : szDeedN l n ds = -1)
    clear h
    go_enter Tryd.func17, Tryd.ntmps17
    go_wp2
    go_ret
    exact ⟨ret_int H.out.symm, Below.refl _ _⟩
  · have hx : 0 ≤ l - n := by omega
    have H := Lib.hid (if_neg hl : szDeedN l n ds = szDeedF (l - n) ds)
    have HL := Lib.hid h.deedLen
    have HD := Lib.hid hd
    clear hd
    go_enter Tryd.func17, Tryd.ntmps17
    go_wp2
    go_loopw [1, 5] (fun q i wr => ∃ (k : Nat) (m : Int), k ≤ n ∧ q = .int .i64 m ∧ i = .int .i64 k ∧ 0 ≤ m ∧ m ≤ 1048576 ∧ szDeedF m (ds.drop k) = szDeedF (l - n) ds ∧ Below w.heap.size w wr) (fun _ i _ => n - (intOf i).toNat)
    case atStart => exact ⟨0, l - n, Nat.zero_le _, rfl, rfl, by omega, by omega, by simp, Below.refl _ _⟩
    case round =>
      obtain ⟨k, m, hk, rfl, rfl, m0, m1, hs, B⟩ := hrel
      by_cases hlt : k < n
      · obtain ⟨b, off, d, rfl, _, _, h3, hxk, hv0, hv1, hv2⟩ := (h.below B).deedAt hlt
        rw [drop_get' hxk, szDeedF] at hs
        have hdl := HD.out d (List.mem_of_getElem? hxk)
        clear h hxk
        by_cases hm : m < d.act.size
        · rw [if_pos hm] at hs
          have HS := Lib.hid hs
          clear hs
          go_wp2_with fail
          refine (szDeed_any d m _ m0 m1 hdl).mono ?_
          rintro e w1 ⟨rfl, b1⟩
          rw [if_pos hm]
          have B1 := below_step B b1
          clear hv0 hv1 hv2 b1
          go_wp2
          go_ret
          exact ⟨ret_int (HS.out.trans H.out.symm), B1⟩
        · rw [if_neg hm] at hs
          have HS := Lib.hid hs
          clear hs
          have hmm : 0 ≤ m - d.act.size := by omega
          go_wp2_with fail
          refine (szDeed_any d m _ m0 m1 hdl).mono ?_
          rintro e w1 ⟨rfl, b1⟩
          rw [if_neg (by omega)]
          have B1 := below_step B b1
          clear hv0 hv1 hv2 b1
          go_wp2
          go_roundw
          case rel => exact ⟨k + 1, m - d.act.size, by omega, rfl, by go_num, by omega, by omega, HS.out, B1⟩
          case measure => simp [intOf]; omega
      · have e : k = n := by omega
        subst e
        rw [List.drop_of_length_le (by rw [HL.out]; exact Nat.le_refl _), szDeedF] at hs
        have HS := Lib.hid hs
        clear hs h
        go_wp2
        go_ret
        exact ⟨ret_int (HS.out.trans H.out.symm), B⟩
theorem Chg.alloc {lo hi : Nat} {a b : World} (h : Chg lo hi a b) (o : Obj) : Chg lo hi a (b.alloc o) := h.trans (Chg.of_below (below_al (Below.refl _ _) o))
set_option maxHeartbeats 2000000 in
set_option maxRecDepth 20000 in
theorem markDeedS_any (lo hi n c : Nat) (A : Option Addr) (xs : List Value) (k0 : Nat) (w : World) (h : OwnV 46 3 w lo hi A n c xs) (hn : n ≤ 1048576) (hk0 : k0 ≤ 10000000) :
    Calls Tryd.prog 25 #[.slice A n c, .int .i64 k0] w fun e w' => e = .returned (.int .i64 ((k0 + 3 * n : Nat) : Int)) ∧ Chg lo hi w w' := by
  by_cases hn0 : n = 0
  · subst hn0
    clear h
    go_enter Tryd.func25, Tryd.ntmps25
    go_wp2
    go_loopw [1, 5] (fun q i wr => q = .int .i64 k0 ∧ i = .int .i64 0 ∧ wr = w) (fun _ _ _ => 0)
    case atStart => exact ⟨rfl, rfl, rfl⟩
    case round =>
      obtain ⟨rfl, rfl, rfl⟩ := hrel
      go_wp2
      go_ret
      exact ⟨rfl, Chg.refl _ _ _⟩
  · obtain ⟨b, cs0, rfl, hb0, hc0⟩ := h.blk (by omega)
    obtain ⟨b', off', he, hlo, hhi, hlt, _⟩ := h.slc.at_ (by omega)
    simp only [Option.some.injEq, Addr.mk.injEq, and_true] at he
    obtain ⟨rfl, rfl⟩ := he
    clear h
    have HB0 := Lib.hid hb0
    have HC0 := Lib.hid hc0
    clear hb0 hc0
    go_enter Tryd.func25, Tryd.ntmps25
    go_wp2
    go_loopw [1, 5] (fun q i wr => ∃ k : Nat, k ≤ n ∧ q = .int .i64 ((k0 + 3 * k : Nat) : Int) ∧ i = .int .i64 k ∧ Chg lo hi w wr ∧ ∃ cs : Array Value, wr.heap[b]? = some (.cells cs 46) ∧ n * 3 ≤ cs.size) (fun _ i _ => n - (intOf i).toNat)
    case atStart => exact ⟨0, Nat.zero_le _, rfl, rfl, Chg.refl _ _ _, cs0, HB0.out, HC0.out⟩
    case round =>
      obtain ⟨k, hk, rfl, rfl, C, cs, hb, hcs⟩ := hrel
      by_cases hltk : k < n
      · have HCS := Lib.hid hcs
        have hzb := blk_lt hb
        clear hcs
        go_wp2_with fail
        refine (markText_any (k0 + 3 * k) (by omega) _).mono ?_
        rintro e w1 ⟨rfl, b1⟩
        obtain ⟨hb1, z1⟩ := blk_below b1 hb
        have C1 := C.trans (Chg.of_below b1)
        have e0 := blk_cell hb1 (k * 3)
        have e1 := blk_cell hb1 (k * 3 + 1)
        have e2 := blk_cell hb1 (k * 3 + 2)
        have hf := blk_frozen' hb1
        rw [Array.getElem?_eq_getElem (by have := HCS.out; omega)] at e0 e1 e2
        have HB1 := Lib.hid hb1
        clear hb1 b1 hb C
        obtain ⟨q, hq⟩ : ∃ q, q = k0 + 3 * k := ⟨_, rfl⟩
        rw [← hq]
        have hql : q ≤ 20000000 := by omega
        have HQ := Lib.hid hq
        clear hq
        go_wp2
        go_roundw
        case rel => exact ⟨k + 1, by omega, by rw [show k0 + 3 * (k + 1) = q + 3 by have := HQ.out; omega]; go_num, by go_num, ((C1.setCell hlo hhi _).setCell hlo hhi _).setCell hlo hhi _, _, blk_setCell (blk_setCell (blk_setCell HB1.out _) _) _, by simp; exact HCS.out⟩
        case measure => simp [intOf]; omega
      · have e : k = n := by omega
        subst e
        clear hb
        go_wp2
        go_ret
        exact ⟨rfl, C⟩
end Go.Proofs.YtojnnemodikpeaaDoor
