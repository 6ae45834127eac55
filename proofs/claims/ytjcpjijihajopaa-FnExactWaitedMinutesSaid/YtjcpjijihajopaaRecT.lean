/-
  Slices of records: compared, measured, marked.
-/
import Derived.Test.YtjcpjijihajopaaRecS
set_option linter.unusedSectionVars false
set_option linter.unusedSimpArgs false
set_option linter.unusedVariables false
namespace Go.Proofs.Ytjcpjijihajopaa
open Go.RowKit
set_option linter.unusedVariables false
section
variable {w W W' : World} {a0 a1 a2 a3 a4 a5 a6 b0 b1 b2 b3 b4 b5 b6 : Addr} {v0 v1 v2 v3 v4 v5 v6 u0 u1 u2 u3 u4 u5 u6 : Value}
/-- The cells of two structs, and all else as it was. -/
theorem held14_below (hb : Below W.heap.size W W')
    (h : W.cell? a0 = some v0 ∧ W.cell? a1 = some v1 ∧ W.cell? a2 = some v2 ∧ W.cell? a3 = some v3 ∧ W.cell? a4 = some v4 ∧ W.cell? a5 = some v5 ∧ W.cell? a6 = some v6 ∧ W.cell? b0 = some u0 ∧ W.cell? b1 = some u1 ∧ W.cell? b2 = some u2 ∧ W.cell? b3 = some u3 ∧ W.cell? b4 = some u4 ∧ W.cell? b5 = some u5 ∧ W.cell? b6 = some u6 ∧ Below w.heap.size w W) :
    W'.cell? a0 = some v0 ∧ W'.cell? a1 = some v1 ∧ W'.cell? a2 = some v2 ∧ W'.cell? a3 = some v3 ∧ W'.cell? a4 = some v4 ∧ W'.cell? a5 = some v5 ∧ W'.cell? a6 = some v6 ∧ W'.cell? b0 = some u0 ∧ W'.cell? b1 = some u1 ∧ W'.cell? b2 = some u2 ∧ W'.cell? b3 = some u3 ∧ W'.cell? b4 = some u4 ∧ W'.cell? b5 = some u5 ∧ W'.cell? b6 = some u6 ∧ Below w.heap.size w W' := by
  have e : ∀ {a : Addr} {v : Value}, W.cell? a = some v → W'.cell? a = some v := fun {a v} hv => (World.cell?_of_block (hb.block _ (World.block_lt_of_cell? W _ hv))).trans hv
  obtain ⟨h0, h1, h2, h3, h4, h5, h6, h7, h8, h9, h10, h11, h12, h13, h14⟩ := h
  exact ⟨e h0, e h1, e h2, e h3, e h4, e h5, e h6, e h7, e h8, e h9, e h10, e h11, e h12, e h13, below_step h14 hb⟩
theorem held14_drew 
    (h : W.cell? a0 = some v0 ∧ W.cell? a1 = some v1 ∧ W.cell? a2 = some v2 ∧ W.cell? a3 = some v3 ∧ W.cell? a4 = some v4 ∧ W.cell? a5 = some v5 ∧ W.cell? a6 = some v6 ∧ W.cell? b0 = some u0 ∧ W.cell? b1 = some u1 ∧ W.cell? b2 = some u2 ∧ W.cell? b3 = some u3 ∧ W.cell? b4 = some u4 ∧ W.cell? b5 = some u5 ∧ W.cell? b6 = some u6 ∧ Below w.heap.size w W) :
    W.drew.cell? a0 = some v0 ∧ W.drew.cell? a1 = some v1 ∧ W.drew.cell? a2 = some v2 ∧ W.drew.cell? a3 = some v3 ∧ W.drew.cell? a4 = some v4 ∧ W.drew.cell? a5 = some v5 ∧ W.drew.cell? a6 = some v6 ∧ W.drew.cell? b0 = some u0 ∧ W.drew.cell? b1 = some u1 ∧ W.drew.cell? b2 = some u2 ∧ W.drew.cell? b3 = some u3 ∧ W.drew.cell? b4 = some u4 ∧ W.drew.cell? b5 = some u5 ∧ W.drew.cell? b6 = some u6 ∧ Below w.heap.size w W.drew := by
  obtain ⟨h0, h1, h2, h3, h4, h5, h6, h7, h8, h9, h10, h11, h12, h13, h14⟩ := h
  exact ⟨h0, h1, h2, h3, h4, h5, h6, h7, h8, h9, h10, h11, h12, h13, ⟨h14.os, h14.tape, h14.output, h14.size, h14.block⟩⟩
end
set_option maxHeartbeats 4000000 in
theorem eqRecordS_any (lo hi n c lo' hi' n' c' : Nat) (A A' : Option Addr) (ds es : List RecD) (w : World) (h : Slc w lo hi 7 A n c (recs ds)) (h' : Slc w lo' hi' 7 A' n' c' (recs es)) (hn : n ≤ 1048576) (hn' : n' ≤ 1048576) :
    Calls Try.prog 13 #[.slice A n c, .slice A' n' c'] w fun x w' => x = .returned (.bool (ds == es)) ∧ Below w.heap.size w w' := by
  have hl := Lib.hid h.recLen
  have hl' := Lib.hid h'.recLen
  by_cases hne : n = n'
  · subst hne
    go_enter Try.func13, Try.ntmps13
    go_wp2
    go_loopw [5] (fun i wr => ∃ k : Nat, k ≤ n ∧ i = .int .i64 k ∧ Below w.heap.size w wr ∧ ∀ j, j < k → ds[j]? = es[j]?) (fun i _ => n - (intOf i).toNat)
    case atStart => exact ⟨0, Nat.zero_le _, rfl, Below.refl _ _, fun j hj => absurd hj (by omega)⟩
    case round =>
      obtain ⟨k, hk, rfl, B, hcs⟩ := hrel
      have HC := Lib.hid hcs
      clear hcs
      by_cases hlt : k < n
      · obtain ⟨b, off, d, hA, _, _, h3, hxk, hv0, hv1, hv2, hv3, hv4, hv5, hv6⟩ := (h.below B).rec7 hlt
        obtain ⟨b', off', e, hA', _, _, h3', hxk', hv0', hv1', hv2', hv3', hv4', hv5', hv6'⟩ := (h'.below B).rec7 hlt
        subst hA hA'
        have HX := Lib.hid hxk
        have HX' := Lib.hid hxk'
        have S0 : wr.cell? ⟨b, off + k * 7, none⟩ = some (.int .i64 d.c) ∧ wr.cell? ⟨b, off + k * 7 + 1, none⟩ = some (.int .i64 d.l) ∧ wr.cell? ⟨b, off + k * 7 + 2, none⟩ = some (.int .i64 d.o) ∧ wr.cell? ⟨b, off + k * 7 + 3, none⟩ = some (.int .i64 d.f) ∧ wr.cell? ⟨b, off + k * 7 + 4, none⟩ = some (.int .i64 d.h) ∧ wr.cell? ⟨b, off + k * 7 + 5, none⟩ = some (.int .i64 d.t) ∧ wr.cell? ⟨b, off + k * 7 + 6, none⟩ = some (.string d.e) ∧ wr.cell? ⟨b', off' + k * 7, none⟩ = some (.int .i64 e.c) ∧ wr.cell? ⟨b', off' + k * 7 + 1, none⟩ = some (.int .i64 e.l) ∧ wr.cell? ⟨b', off' + k * 7 + 2, none⟩ = some (.int .i64 e.o) ∧ wr.cell? ⟨b', off' + k * 7 + 3, none⟩ = some (.int .i64 e.f) ∧ wr.cell? ⟨b', off' + k * 7 + 4, none⟩ = some (.int .i64 e.h) ∧ wr.cell? ⟨b', off' + k * 7 + 5, none⟩ = some (.int .i64 e.t) ∧ wr.cell? ⟨b', off' + k * 7 + 6, none⟩ = some (.string e.e) ∧ Below w.heap.size w wr := ⟨hv0, hv1, hv2, hv3, hv4, hv5, hv6, hv0', hv1', hv2', hv3', hv4', hv5', hv6', B⟩
        clear hxk hxk' h h' hv0 hv1 hv2 hv3 hv4 hv5 hv6 hv0' hv1' hv2' hv3' hv4' hv5' hv6' h3 h3' B
        have i0 : (0 : Int) ≤ (k : Int) := by omega
        have i1 : (k : Int) < (n : Int) := by omega
        obtain ⟨t, ht⟩ : ∃ t, t = (d == e) := ⟨_, rfl⟩
        have HT := Lib.hid ht
        clear ht
        go_wp2_with fail
        go_region_held3 (fun W => W.cell? ⟨b, off + k * 7, none⟩ = some (.int .i64 d.c) ∧ W.cell? ⟨b, off + k * 7 + 1, none⟩ = some (.int .i64 d.l) ∧ W.cell? ⟨b, off + k * 7 + 2, none⟩ = some (.int .i64 d.o) ∧ W.cell? ⟨b, off + k * 7 + 3, none⟩ = some (.int .i64 d.f) ∧ W.cell? ⟨b, off + k * 7 + 4, none⟩ = some (.int .i64 d.h) ∧ W.cell? ⟨b, off + k * 7 + 5, none⟩ = some (.int .i64 d.t) ∧ W.cell? ⟨b, off + k * 7 + 6, none⟩ = some (.string d.e) ∧ W.cell? ⟨b', off' + k * 7, none⟩ = some (.int .i64 e.c) ∧ W.cell? ⟨b', off' + k * 7 + 1, none⟩ = some (.int .i64 e.l) ∧ W.cell? ⟨b', off' + k * 7 + 2, none⟩ = some (.int .i64 e.o) ∧ W.cell? ⟨b', off' + k * 7 + 3, none⟩ = some (.int .i64 e.f) ∧ W.cell? ⟨b', off' + k * 7 + 4, none⟩ = some (.int .i64 e.h) ∧ W.cell? ⟨b', off' + k * 7 + 5, none⟩ = some (.int .i64 e.t) ∧ W.cell? ⟨b', off' + k * 7 + 6, none⟩ = some (.string e.e) ∧ Below w.heap.size w W)
          (first | exact held14_drew S0 | exact held14_below (by assumption) (by assumption))
          (first | (go_at_call 38; refine (eqRecord_any d e _).mono ?_; rintro x w2 ⟨rfl, b2⟩; rw [← HT.out]))
        have S2 : Below w.heap.size w w2 := by
          have S1 : w2.cell? ⟨b, off + k * 7, none⟩ = some (.int .i64 d.c) ∧ w2.cell? ⟨b, off + k * 7 + 1, none⟩ = some (.int .i64 d.l) ∧ w2.cell? ⟨b, off + k * 7 + 2, none⟩ = some (.int .i64 d.o) ∧ w2.cell? ⟨b, off + k * 7 + 3, none⟩ = some (.int .i64 d.f) ∧ w2.cell? ⟨b, off + k * 7 + 4, none⟩ = some (.int .i64 d.h) ∧ w2.cell? ⟨b, off + k * 7 + 5, none⟩ = some (.int .i64 d.t) ∧ w2.cell? ⟨b, off + k * 7 + 6, none⟩ = some (.string d.e) ∧ w2.cell? ⟨b', off' + k * 7, none⟩ = some (.int .i64 e.c) ∧ w2.cell? ⟨b', off' + k * 7 + 1, none⟩ = some (.int .i64 e.l) ∧ w2.cell? ⟨b', off' + k * 7 + 2, none⟩ = some (.int .i64 e.o) ∧ w2.cell? ⟨b', off' + k * 7 + 3, none⟩ = some (.int .i64 e.f) ∧ w2.cell? ⟨b', off' + k * 7 + 4, none⟩ = some (.int .i64 e.h) ∧ w2.cell? ⟨b', off' + k * 7 + 5, none⟩ = some (.int .i64 e.t) ∧ w2.cell? ⟨b', off' + k * 7 + 6, none⟩ = some (.string e.e) ∧ Below w.heap.size w w2 := by assumption
          exact S1.2.2.2.2.2.2.2.2.2.2.2.2.2.2
        clear S0
        cases t
        · go_wp2
          go_ret
          refine ⟨ret_bool ?_, S2⟩
          symm
          rw [beq_eq_false_iff_ne]
          intro hh
          subst hh
          have := HX.out.symm.trans HX'.out
          injection this with this
          subst this
          simpa using HT.out
        · go_wp2
          go_roundw
          case rel => exact ⟨k + 1, by omega, by go_num, S2, fun j hj => by
            by_cases e : j = k
            · subst e; rw [HX.out, HX'.out, eq_of_beq HT.out.symm]
            · exact HC.out j (by omega)⟩
          case measure => simp [intOf]; omega
      · have e : k = n := by omega
        subst e
        clear h h'
        go_wp2
        go_ret
        exact ⟨ret_bool (by
          symm; rw [beq_iff_eq]; apply List.ext_getElem?; intro j
          rcases Nat.lt_or_ge j k with hj | hj
          · exact HC.out j hj
          · rw [List.getElem?_eq_none (by rw [hl.out]; exact hj), List.getElem?_eq_none (by rw [hl'.out]; exact hj)]), B⟩
  · have hq : ((n : Int) != (n' : Int)) = true := by rw [bne_iff_ne]; omega
    clear h h'
    have HN := Lib.hid hne
    clear hne
    go_enter Try.func13, Try.ntmps13
    go_wp2
    go_ret
    exact ⟨ret_bool (by symm; rw [beq_eq_false_iff_ne]; intro e; exact HN.out (by rw [← hl.out, ← hl'.out, e])), Below.refl _ _⟩
def szRecF (l : Int) : List RecD → Int
  | [] => l
  | d :: ds => if l < d.e.size then -1 else szRecF (l - d.e.size) ds
/-- What szDeedS answers. -/
def szRecN (l : Int) (n : Nat) (ds : List RecD) : Int := if l < n then -1 else szRecF (l - n) ds
theorem szRecF_le {ds : List RecD} : ∀ {l : Int}, 0 ≤ l → szRecF l ds ≤ l := by
  induction ds with
  | nil => intro l h0; rw [szRecF]; omega
  | cons d ds ih =>
    intro l h0
    rw [szRecF]
    split
    · omega
    · have := ih (l := l - d.e.size) (by omega); omega
theorem szRecF_all {ds : List RecD} : ∀ {l : Int}, 0 ≤ szRecF l ds → l ≤ 1048576 → ∀ d ∈ ds, d.e.size ≤ 1048576 := by
  induction ds with
  | nil => intro l _ _ d hd; cases hd
  | cons q ds ih =>
    intro l h hl d hd
    rw [szRecF] at h
    split at h
    · omega
    · rcases List.mem_cons.1 hd with e | hd
      · subst e; omega
      · exact ih h (by omega) d hd
theorem szRecN_all {l : Int} {n : Nat} {ds : List RecD} (h : 0 ≤ szRecN l n ds) (hl : l ≤ 1048576) : n ≤ 1048576 ∧ ∀ d ∈ ds, d.e.size ≤ 1048576 := by
  unfold szRecN at h
  split at h
  · omega
  · exact ⟨by omega, szRecF_all h (by omega)⟩
theorem szRecN_le {l : Int} {n : Nat} {ds : List RecD} (h : 0 ≤ l) : szRecN l n ds ≤ l := by
  unfold szRecN
  split
  · omega
  · have := szRecF_le (ds := ds) (l := l - n) (by omega); omega
theorem drop_get' {α : Type} {l : List α} {k : Nat} {a : α} (h : l[k]? = some a) : l.drop k = a :: l.drop (k + 1) := by
  obtain ⟨hk, e⟩ := List.getElem?_eq_some_iff.1 h
  rw [List.drop_eq_getElem_cons hk, e]
set_option maxHeartbeats 1000000 in
theorem szRecord_any (d : RecD) (l : Int) (w : World) (h0 : 0 ≤ l) (h1 : l ≤ 1048576) (hs : d.e.size ≤ maxLen) :
    Calls Try.prog 29 #[.agg #[.int .i64 d.c, .int .i64 d.l, .int .i64 d.o, .int .i64 d.f, .int .i64 d.h, .int .i64 d.t, .string d.e], .int .i64 l] w fun e w' => e = .returned (.int .i64 (if l < d.e.size then -1 else l - d.e.size)) ∧ Below w.heap.size w w' := by
  unfold maxLen at hs
  by_cases hl : l < d.e.size
  · rw [if_pos hl]
    have hx : l - d.e.size < 0 := by omega
    go_enter Try.func29, Try.ntmps29
    go_wp2
    go_ret
    exact ⟨rfl, below_al (Below.refl _ _) _⟩
  · rw [if_neg hl]
    have hx : 0 ≤ l - d.e.size := by omega
    go_enter Try.func29, Try.ntmps29
    go_wp2
    go_ret
    exact ⟨rfl, below_al (Below.refl _ _) _⟩
set_option maxHeartbeats 1000000 in
theorem szRecordS_any (lo hi n c : Nat) (A : Option Addr) (ds : List RecD) (l : Int) (w : World) (h : Slc w lo hi 7 A n c (recs ds)) (hd : ∀ d ∈ ds, d.e.size ≤ maxLen) (h0 : 0 ≤ l) (h1 : l ≤ 1048576) :
    Calls Try.prog 9 #[.slice A n c, .int .i64 l] w fun e w' => e = .returned (.int .i64 (szRecN l n ds)) ∧ Below w.heap.size w w' := by
  have hc1 := h.le
  have hc2 := h.cap
  unfold maxLen at hc2
  by_cases hl : l < n
  · have hx : l - n < 0 := by omega
    have H := Lib.hid (if_pos hl : szRecN l n ds = -1)
    clear h
    go_enter Try.func9, Try.ntmps9
    go_wp2
    go_ret
    exact ⟨ret_int H.out.symm, Below.refl _ _⟩
  · have hx : 0 ≤ l - n := by omega
    have H := Lib.hid (if_neg hl : szRecN l n ds = szRecF (l - n) ds)
    have HL := Lib.hid h.recLen
    have HD := Lib.hid hd
    clear hd
    go_enter Try.func9, Try.ntmps9
    go_wp2
    go_loopw [1, 5] (fun q i wr => ∃ (k : Nat) (m : Int), k ≤ n ∧ q = .int .i64 m ∧ i = .int .i64 k ∧ 0 ≤ m ∧ m ≤ 1048576 ∧ szRecF m (ds.drop k) = szRecF (l - n) ds ∧ Below w.heap.size w wr) (fun _ i _ => n - (intOf i).toNat)
    case atStart => exact ⟨0, l - n, Nat.zero_le _, rfl, rfl, by omega, by omega, by simp, Below.refl _ _⟩
    case round =>
      obtain ⟨k, m, hk, rfl, rfl, m0, m1, hs, B⟩ := hrel
      by_cases hlt : k < n
      · obtain ⟨b, off, d, rfl, _, _, h3, hxk, hv0, hv1, hv2, hv3, hv4, hv5, hv6⟩ := (h.below B).rec7 hlt
        rw [drop_get' hxk, szRecF] at hs
        have hdl := HD.out d (List.mem_of_getElem? hxk)
        clear h hxk
        by_cases hm : m < d.e.size
        · rw [if_pos hm] at hs
          have HS := Lib.hid hs
          clear hs
          go_wp2_with fail
          refine (szRecord_any d m _ m0 m1 hdl).mono ?_
          rintro e w1 ⟨rfl, b1⟩
          rw [if_pos hm]
          have B1 := below_step B b1
          clear hv0 hv1 hv2 hv3 hv4 hv5 hv6 b1
          go_wp2
          go_ret
          exact ⟨ret_int (HS.out.trans H.out.symm), B1⟩
        · rw [if_neg hm] at hs
          have HS := Lib.hid hs
          clear hs
          have hmm : 0 ≤ m - d.e.size := by omega
          go_wp2_with fail
          refine (szRecord_any d m _ m0 m1 hdl).mono ?_
          rintro e w1 ⟨rfl, b1⟩
          rw [if_neg (by omega)]
          have B1 := below_step B b1
          clear hv0 hv1 hv2 hv3 hv4 hv5 hv6 b1
          go_wp2
          go_roundw
          case rel => exact ⟨k + 1, m - d.e.size, by omega, rfl, by go_num, by omega, by omega, HS.out, B1⟩
          case measure => simp [intOf]; omega
      · have e : k = n := by omega
        subst e
        rw [List.drop_of_length_le (by rw [HL.out]; exact Nat.le_refl _), szRecF] at hs
        have HS := Lib.hid hs
        clear hs h
        go_wp2
        go_ret
        exact ⟨ret_int (HS.out.trans H.out.symm), B⟩
end Go.Proofs.Ytjcpjijihajopaa
