/-
  Slices of Bill: compared, marked, held.
  Slices of Record: compared, marked, held.
  The exact laws' helpers over records and bills in one form.
  Laws at the law level: the lone calls beside the great one.
-/
import Derived.Test.YtjcpjijihajopaaBilA
import Derived.Test.YtjcpjijihajopaaBas
import Derived.Test.YtjcpjijihajopaaRecA
import Derived.Test.YtjcpjijihajopaaBsy
import Derived.Test.YtjcpjijihajopaaBla
set_option linter.unusedSectionVars false
set_option linter.unusedSimpArgs false
set_option linter.unusedVariables false
namespace Go.Proofs.Ytjcpjijihajopaa
open Go.RowKit
set_option linter.unusedVariables false
theorem Slc.billsLen {w : World} {lo hi n c : Nat} {A : Option Addr} {ds : List BillD} (h : Slc w lo hi 4 A n c (bills ds)) : ds.length = n := by
  have h1 := h.len; have h2 := flat_len BillD.cells (s := 4) (fun _ => rfl) ds
  unfold bills at h1; omega
theorem Slc.billsAt {w : World} {lo hi n c : Nat} {A : Option Addr} {ds : List BillD} (h : Slc w lo hi 4 A n c (bills ds)) {k : Nat} (hk : k < n) :
    ∃ b off d, A = some ⟨b, off, none⟩ ∧ lo ≤ b ∧ b < hi ∧ b < w.heap.size ∧ ds[k]? = some d ∧ w.cell? ⟨b, off + k * 4, none⟩ = some (.int .i64 d.c) ∧ w.cell? ⟨b, off + k * 4 + 1, none⟩ = some (.int .i64 d.t) ∧ w.cell? ⟨b, off + k * 4 + 2, none⟩ = some (.int .i64 d.m) ∧ w.cell? ⟨b, off + k * 4 + 3, none⟩ = some (.int .i64 d.g) := by
  have hl := h.billsLen
  have hx : ds[k]? = some ds[k] := List.getElem?_eq_getElem (by omega)
  have g : ∀ i, i < 4 → (bills ds)[k * 4 + i]? = (ds[k].cells)[i]? := fun i hi => by
    have := flat_get BillD.cells (s := 4) (fun _ => rfl) ds k i hi
    rw [hx] at this; exact this
  obtain ⟨b, off, rfl, h1, h2, h3, h4⟩ := h.cells hk
  exact ⟨b, off, ds[k], rfl, h1, h2, h3, hx, h4 0 _ (g 0 (by decide)), by rw [Nat.add_assoc]; exact h4 1 _ (g 1 (by decide)), by rw [Nat.add_assoc]; exact h4 2 _ (g 2 (by decide)), by rw [Nat.add_assoc]; exact h4 3 _ (g 3 (by decide))⟩
section
variable {w W W' : World} {a0 a1 a2 a3 a4 a5 a6 a7 : Addr} {v0 v1 v2 v3 v4 v5 v6 v7 : Value}
theorem heldbills_below (hb : Below W.heap.size W W') (h : W.cell? a0 = some v0 ∧ W.cell? a1 = some v1 ∧ W.cell? a2 = some v2 ∧ W.cell? a3 = some v3 ∧ W.cell? a4 = some v4 ∧ W.cell? a5 = some v5 ∧ W.cell? a6 = some v6 ∧ W.cell? a7 = some v7 ∧ Below w.heap.size w W) : W'.cell? a0 = some v0 ∧ W'.cell? a1 = some v1 ∧ W'.cell? a2 = some v2 ∧ W'.cell? a3 = some v3 ∧ W'.cell? a4 = some v4 ∧ W'.cell? a5 = some v5 ∧ W'.cell? a6 = some v6 ∧ W'.cell? a7 = some v7 ∧ Below w.heap.size w W' := by
  have e : ∀ {a : Addr} {v : Value}, W.cell? a = some v → W'.cell? a = some v := fun {a v} hv => (World.cell?_of_block (hb.block _ (World.block_lt_of_cell? W _ hv))).trans hv
  obtain ⟨h0, h1, h2, h3, h4, h5, h6, h7, h8⟩ := h
  exact ⟨e h0, e h1, e h2, e h3, e h4, e h5, e h6, e h7, below_step h8 hb⟩
theorem heldbills_drew (h : W.cell? a0 = some v0 ∧ W.cell? a1 = some v1 ∧ W.cell? a2 = some v2 ∧ W.cell? a3 = some v3 ∧ W.cell? a4 = some v4 ∧ W.cell? a5 = some v5 ∧ W.cell? a6 = some v6 ∧ W.cell? a7 = some v7 ∧ Below w.heap.size w W) : W.drew.cell? a0 = some v0 ∧ W.drew.cell? a1 = some v1 ∧ W.drew.cell? a2 = some v2 ∧ W.drew.cell? a3 = some v3 ∧ W.drew.cell? a4 = some v4 ∧ W.drew.cell? a5 = some v5 ∧ W.drew.cell? a6 = some v6 ∧ W.drew.cell? a7 = some v7 ∧ Below w.heap.size w W.drew := by
  obtain ⟨h0, h1, h2, h3, h4, h5, h6, h7, h8⟩ := h
  exact ⟨h0, h1, h2, h3, h4, h5, h6, h7, ⟨h8.os, h8.tape, h8.output, h8.size, h8.block⟩⟩
end
set_option maxHeartbeats 1000000 in
theorem eqBill_any (d e : BillD) (w : World) :
    Calls Try.prog 47 #[.agg #[.int .i64 d.c, .int .i64 d.t, .int .i64 d.m, .int .i64 d.g], .agg #[.int .i64 e.c, .int .i64 e.t, .int .i64 e.m, .int .i64 e.g]] w fun x w' => x = .returned (.bool (d == e)) ∧ Below w.heap.size w w' := by
  obtain ⟨x0, x1, x2, x3⟩ := d
  obtain ⟨y0, y1, y2, y3⟩ := e
  go_enter Try.func47, Try.ntmps47
  go_wp2
  all_goals go_ret
  all_goals refine ⟨ret_bool ?_, below_al (below_al (Below.refl _ _) _) _⟩
  all_goals first
    | (symm; rw [beq_eq_false_iff_ne]; intro h; injection h with h0 h1 h2 h3; subst h0 h1 h2 h3; simp_all; done)
    | (symm; rw [beq_iff_eq]; simp_all; done)
set_option maxHeartbeats 4000000 in
theorem eqBillS_any (lo hi n c lo' hi' n' c' : Nat) (A A' : Option Addr) (ds es : List BillD) (w : World) (h : Slc w lo hi 4 A n c (bills ds)) (h' : Slc w lo' hi' 4 A' n' c' (bills es)) (hn : n ≤ 1048576) (hn' : n' ≤ 1048576) :
    Calls Try.prog 21 #[.slice A n c, .slice A' n' c'] w fun x w' => x = .returned (.bool (ds == es)) ∧ Below w.heap.size w w' := by
  have hl := Lib.hid h.billsLen
  have hl' := Lib.hid h'.billsLen
  by_cases hne : n = n'
  · subst hne
    go_enter Try.func21, Try.ntmps21
    go_wp2
    go_loopw [5] (fun i wr => ∃ k : Nat, k ≤ n ∧ i = .int .i64 k ∧ Below w.heap.size w wr ∧ ∀ j, j < k → ds[j]? = es[j]?) (fun i _ => n - (intOf i).toNat)
    case atStart => exact ⟨0, Nat.zero_le _, rfl, Below.refl _ _, fun j hj => absurd hj (by omega)⟩
    case round =>
      obtain ⟨k, hk, rfl, B, hcs⟩ := hrel
      have HC := Lib.hid hcs
      clear hcs
      by_cases hlt : k < n
      · obtain ⟨b, off, d, hA, _, _, h3, hxk, hv0, hv1, hv2, hv3⟩ := (h.below B).billsAt hlt
        obtain ⟨b', off', e, hA', _, _, h3', hxk', hv0', hv1', hv2', hv3'⟩ := (h'.below B).billsAt hlt
        subst hA hA'
        have HX := Lib.hid hxk
        have HX' := Lib.hid hxk'
        have S0 : wr.cell? ⟨b, off + k * 4, none⟩ = some (.int .i64 d.c) ∧ wr.cell? ⟨b, off + k * 4 + 1, none⟩ = some (.int .i64 d.t) ∧ wr.cell? ⟨b, off + k * 4 + 2, none⟩ = some (.int .i64 d.m) ∧ wr.cell? ⟨b, off + k * 4 + 3, none⟩ = some (.int .i64 d.g) ∧ wr.cell? ⟨b', off' + k * 4, none⟩ = some (.int .i64 e.c) ∧ wr.cell? ⟨b', off' + k * 4 + 1, none⟩ = some (.int .i64 e.t) ∧ wr.cell? ⟨b', off' + k * 4 + 2, none⟩ = some (.int .i64 e.m) ∧ wr.cell? ⟨b', off' + k * 4 + 3, none⟩ = some (.int .i64 e.g) ∧ Below w.heap.size w wr := ⟨hv0, hv1, hv2, hv3, hv0', hv1', hv2', hv3', B⟩
        clear hxk hxk' h h' hv0 hv1 hv2 hv3 hv0' hv1' hv2' hv3' h3 h3' B
        have i0 : (0 : Int) ≤ (k : Int) := by omega
        have i1 : (k : Int) < (n : Int) := by omega
        obtain ⟨t, ht⟩ : ∃ t, t = (d == e) := ⟨_, rfl⟩
        have HT := Lib.hid ht
        clear ht
        go_wp2_with fail
        go_region_held3 (fun W => W.cell? ⟨b, off + k * 4, none⟩ = some (.int .i64 d.c) ∧ W.cell? ⟨b, off + k * 4 + 1, none⟩ = some (.int .i64 d.t) ∧ W.cell? ⟨b, off + k * 4 + 2, none⟩ = some (.int .i64 d.m) ∧ W.cell? ⟨b, off + k * 4 + 3, none⟩ = some (.int .i64 d.g) ∧ W.cell? ⟨b', off' + k * 4, none⟩ = some (.int .i64 e.c) ∧ W.cell? ⟨b', off' + k * 4 + 1, none⟩ = some (.int .i64 e.t) ∧ W.cell? ⟨b', off' + k * 4 + 2, none⟩ = some (.int .i64 e.m) ∧ W.cell? ⟨b', off' + k * 4 + 3, none⟩ = some (.int .i64 e.g) ∧ Below w.heap.size w W)
          (first | exact heldbills_drew S0 | exact heldbills_below (by assumption) (by assumption))
          (first | (go_at_call 47; refine (eqBill_any d e _).mono ?_; rintro x w2 ⟨rfl, b2⟩; rw [← HT.out]))
        have S2 : Below w.heap.size w w2 := by
          have S1 : w2.cell? ⟨b, off + k * 4, none⟩ = some (.int .i64 d.c) ∧ w2.cell? ⟨b, off + k * 4 + 1, none⟩ = some (.int .i64 d.t) ∧ w2.cell? ⟨b, off + k * 4 + 2, none⟩ = some (.int .i64 d.m) ∧ w2.cell? ⟨b, off + k * 4 + 3, none⟩ = some (.int .i64 d.g) ∧ w2.cell? ⟨b', off' + k * 4, none⟩ = some (.int .i64 e.c) ∧ w2.cell? ⟨b', off' + k * 4 + 1, none⟩ = some (.int .i64 e.t) ∧ w2.cell? ⟨b', off' + k * 4 + 2, none⟩ = some (.int .i64 e.m) ∧ w2.cell? ⟨b', off' + k * 4 + 3, none⟩ = some (.int .i64 e.g) ∧ Below w.heap.size w w2 := by assumption
          exact S1.2.2.2.2.2.2.2.2
        clear S0
        cases t
        · go_wp2
          go_ret
          refine ⟨ret_bool ?_, S2⟩
          symm
          rw [beq_eq_false_iff_ne]
          intro hh
          subst hh
          have := HX.out.symm.trans HX'.out
          injection this with this
          subst this
          simpa using HT.out
        · go_wp2
          go_roundw
          case rel => exact ⟨k + 1, by omega, by go_num, S2, fun j hj => by
            by_cases e : j = k
            · subst e; rw [HX.out, HX'.out, eq_of_beq HT.out.symm]
            · exact HC.out j (by omega)⟩
          case measure => simp [intOf]; omega
      · have e : k = n := by omega
        subst e
        clear h h'
        go_wp2
        go_ret
        exact ⟨ret_bool (by
          symm; rw [beq_iff_eq]; apply List.ext_getElem?; intro j
          rcases Nat.lt_or_ge j k with hj | hj
          · exact HC.out j hj
          · rw [List.getElem?_eq_none (by rw [hl.out]; exact hj), List.getElem?_eq_none (by rw [hl'.out]; exact hj)]), B⟩
  · have hq : ((n : Int) != (n' : Int)) = true := by rw [bne_iff_ne]; omega
    clear h h'
    have HN := Lib.hid hne
    clear hne
    go_enter Try.func21, Try.ntmps21
    go_wp2
    go_ret
    exact ⟨ret_bool (by symm; rw [beq_eq_false_iff_ne]; intro e; exact HN.out (by rw [← hl.out, ← hl'.out, e])), Below.refl _ _⟩
def marksBill (k n : Nat) : List BillD := (List.range n).map fun j => ⟨((k + 4 * j : Nat) : Int), ((k + 4 * j + 1 : Nat) : Int), ((k + 4 * j + 2 : Nat) : Int), ((k + 4 * j + 3 : Nat) : Int)⟩
theorem marksBill_get {k n j : Nat} (h : j < n) : (marksBill k n)[j]? = some ⟨((k + 4 * j : Nat) : Int), ((k + 4 * j + 1 : Nat) : Int), ((k + 4 * j + 2 : Nat) : Int), ((k + 4 * j + 3 : Nat) : Int)⟩ := by simp [marksBill, h]
theorem marksBill_len (k n : Nat) : (marksBill k n).length = n := by simp [marksBill]
set_option maxHeartbeats 4000000 in
set_option maxRecDepth 20000 in
theorem markBillS_any (lo hi n c : Nat) (A : Option Addr) (xs : List Value) (k0 : Nat) (w : World) (h : OwnV 48 4 w lo hi A n c xs) (hn : n ≤ 1048576) (hk0 : k0 ≤ 10000000) :
    Calls Try.prog 23 #[.slice A n c, .int .i64 k0] w fun e w' => e = .returned (.int .i64 ((k0 + 4 * n : Nat) : Int)) ∧ Slc w' lo hi 4 A n c (bills (marksBill k0 n)) ∧ Chg lo hi w w' := by
  by_cases hn0 : n = 0
  · subst hn0
    have HSL := Lib.hid h.slc
    clear h
    go_enter Try.func23, Try.ntmps23
    go_wp2
    go_loopw [1, 5] (fun q i wr => q = .int .i64 k0 ∧ i = .int .i64 0 ∧ wr = w) (fun _ _ _ => 0)
    case atStart => exact ⟨rfl, rfl, rfl⟩
    case round =>
      obtain ⟨rfl, rfl, rfl⟩ := hrel
      go_wp2
      go_ret
      exact ⟨rfl, ⟨by simp [bills, marksBill], HSL.out.le, HSL.out.cap, fun h => absurd h (by omega)⟩, Chg.refl _ _ _⟩
  · obtain ⟨b, cs0, rfl, hb0, hc0⟩ := h.blk (by omega)
    obtain ⟨b', off', he, hlo, hhi, hlt, _⟩ := h.slc.at_ (by omega)
    simp only [Option.some.injEq, Addr.mk.injEq, and_true] at he
    obtain ⟨rfl, rfl⟩ := he
    have HLE := Lib.hid h.slc.le
    have HCAP := Lib.hid h.slc.cap
    clear h
    have HB0 := Lib.hid hb0
    have HC0 := Lib.hid hc0
    clear hb0 hc0
    go_enter Try.func23, Try.ntmps23
    go_wp2
    go_loopw [1, 5] (fun q i wr => ∃ k : Nat, k ≤ n ∧ q = .int .i64 ((k0 + 4 * k : Nat) : Int) ∧ i = .int .i64 k ∧ Chg lo hi w wr ∧ ∃ cs : Array Value, wr.heap[b]? = some (.cells cs 48) ∧ n * 4 ≤ cs.size ∧ ∀ j, j < k → cs[j * 4]? = some (.int .i64 ((k0 + 4 * j : Nat) : Int)) ∧ cs[j * 4 + 1]? = some (.int .i64 ((k0 + 4 * j + 1 : Nat) : Int)) ∧ cs[j * 4 + 2]? = some (.int .i64 ((k0 + 4 * j + 2 : Nat) : Int)) ∧ cs[j * 4 + 3]? = some (.int .i64 ((k0 + 4 * j + 3 : Nat) : Int))) (fun _ i _ => n - (intOf i).toNat)
    case atStart => exact ⟨0, Nat.zero_le _, rfl, rfl, Chg.refl _ _ _, cs0, HB0.out, HC0.out, fun j hj => absurd hj (by omega)⟩
    case round =>
      obtain ⟨k, hk, rfl, rfl, C, cs, hb, hcs, hms⟩ := hrel
      by_cases hltk : k < n
      · have HCS := Lib.hid hcs
        have HMS := Lib.hid hms
        have hzb := blk_lt hb
        clear hcs hms
        obtain ⟨q, hq⟩ : ∃ q, q = k0 + 4 * k := ⟨_, rfl⟩
        rw [← hq]
        have hql : q ≤ 90000000 := by omega
        have HQ := Lib.hid hq
        clear hq
        have e0 := blk_cell hb (k * 4)
        have e1 := blk_cell hb (k * 4 + 1)
        have e2 := blk_cell hb (k * 4 + 2)
        have e3 := blk_cell hb (k * 4 + 3)
        have hf := blk_frozen' hb
        rw [Array.getElem?_eq_getElem (by have := HCS.out; first | omega | (simp; omega))] at e0 e1 e2 e3
        have HB2 := Lib.hid hb
        clear hb
        go_wp2
        go_roundw
        case rel =>
          refine ⟨k + 1, by omega, by rw [show k0 + 4 * (k + 1) = q + 4 by have := HQ.out; omega]; go_num, by go_num, ((((C.setCell (p := ⟨b, k * 4, none⟩) hlo hhi (.int .i64 ((q : Nat) : Int))).setCell (p := ⟨b, k * 4 + 1, none⟩) hlo hhi (.int .i64 ((q + 1 : Nat) : Int))).setCell (p := ⟨b, k * 4 + 2, none⟩) hlo hhi (.int .i64 ((q + 2 : Nat) : Int))).setCell (p := ⟨b, k * 4 + 3, none⟩) hlo hhi (.int .i64 ((q + 3 : Nat) : Int))), _, (blk_setCell (blk_setCell (blk_setCell (blk_setCell HB2.out (.int .i64 ((q : Nat) : Int))) (.int .i64 ((q + 1 : Nat) : Int))) (.int .i64 ((q + 2 : Nat) : Int))) (.int .i64 ((q + 3 : Nat) : Int))), by simp; exact HCS.out, fun j hj => ?_⟩
          have hsz := HCS.out
          by_cases hjk : j = k
          · subst hjk
            rw [← HQ.out]
            refine ⟨?_, ?_, ?_, ?_⟩
            all_goals simp [Array.getElem?_setIfInBounds]
            all_goals omega
          · have hm := HMS.out j (by omega)
            refine ⟨?_, ?_, ?_, ?_⟩
            · refine Eq.trans ?_ hm.1
              simp only [Array.getElem?_setIfInBounds]
              repeat rw [if_neg (by omega)]
            · refine Eq.trans ?_ hm.2.1
              simp only [Array.getElem?_setIfInBounds]
              repeat rw [if_neg (by omega)]
            · refine Eq.trans ?_ hm.2.2.1
              simp only [Array.getElem?_setIfInBounds]
              repeat rw [if_neg (by omega)]
            · refine Eq.trans ?_ hm.2.2.2
              simp only [Array.getElem?_setIfInBounds]
              repeat rw [if_neg (by omega)]
        case measure => simp [intOf]; omega
      · have e : k = n := by omega
        subst e
        have HMS := Lib.hid hms
        have HB2 := Lib.hid hb
        clear hb hms
        go_wp2
        go_ret
        have hz := blk_lt HB2.out
        refine ⟨rfl, slc_flat BillD.cells (by decide) (fun _ => rfl) (marksBill_len _ _) HLE.out HCAP.out hlo hhi hz (fun i d hd j v hv => ?_), C⟩
        have hik : i < k := by have := (List.getElem?_eq_some_iff.1 hd).1; rw [marksBill_len] at this; exact this
        rw [marksBill_get hik] at hd
        injection hd with hd
        subst hd
        have hm := HMS.out i hik
        have hj : j < 4 := (List.getElem?_eq_some_iff.1 hv).1
        rw [Nat.zero_add, blk_cell HB2.out]
        match j, hj with
        | 0, _ => rw [← hv]; exact hm.1
        | 1, _ => rw [← hv]; exact hm.2.1
        | 2, _ => rw [← hv]; exact hm.2.2.1
        | 3, _ => rw [← hv]; exact hm.2.2.2
set_option maxHeartbeats 4000000 in
set_option maxRecDepth 20000 in
theorem heldBillS_any (lo hi n c : Nat) (A : Option Addr) (k0 : Nat) (w : World) (h : Slc w lo hi 4 A n c (bills (marksBill k0 n))) (hn : n ≤ 1048576) (hk0 : k0 ≤ 10000000) :
    Calls Try.prog 24 #[.slice A n c, .int .i64 k0] w fun e w' => e = .returned (.int .i64 ((k0 + 4 * n : Nat) : Int)) ∧ Below w.heap.size w w' := by
  go_enter Try.func24, Try.ntmps24
  go_wp2
  go_loopw [1, 5] (fun q i wr => ∃ k : Nat, k ≤ n ∧ q = .int .i64 ((k0 + 4 * k : Nat) : Int) ∧ i = .int .i64 k ∧ Below w.heap.size w wr) (fun _ i _ => n - (intOf i).toNat)
  case atStart => exact ⟨0, Nat.zero_le _, rfl, rfl, Below.refl _ _⟩
  case round =>
    obtain ⟨k, hk, rfl, rfl, B⟩ := hrel
    by_cases hltk : k < n
    · obtain ⟨b, off, d, hA, _, _, h3, hxk, hv0, hv1, hv2, hv3⟩ := (h.below B).billsAt hltk
      subst hA
      rw [marksBill_get hltk] at hxk
      injection hxk with hxk
      subst hxk
      obtain ⟨q, hq⟩ : ∃ q, q = k0 + 4 * k := ⟨_, rfl⟩
      rw [← hq] at hv0 hv1 hv2 hv3 ⊢
      have hql : q ≤ 90000000 := by omega
      have HQ := Lib.hid hq
      clear hq h h3
      rw [show (((q + 1 : Nat) : Int)) = (q : Int) + 1 by omega] at hv1
      rw [show (((q + 2 : Nat) : Int)) = (q : Int) + 1 + 1 by omega] at hv2
      rw [show (((q + 3 : Nat) : Int)) = (q : Int) + 1 + 1 + 1 by omega] at hv3
      go_wp2
      go_roundw
      case rel => exact ⟨k + 1, by omega, by rw [show k0 + 4 * (k + 1) = q + 4 by have := HQ.out; omega]; go_num, by go_num, B⟩
      case measure => simp [intOf]; omega
    · have e : k = n := by omega
      subst e
      clear h
      go_wp2
      go_ret
      exact ⟨rfl, B⟩
end Go.Proofs.Ytjcpjijihajopaa
namespace Go.Proofs.Ytjcpjijihajopaa
open Go.RowKit
set_option linter.unusedVariables false
theorem Slc.recsLen {w : World} {lo hi n c : Nat} {A : Option Addr} {ds : List RecD} (h : Slc w lo hi 7 A n c (recs ds)) : ds.length = n := by
  have h1 := h.len; have h2 := flat_len RecD.cells (s := 7) (fun _ => rfl) ds
  unfold recs at h1; omega
theorem Slc.recsAt {w : World} {lo hi n c : Nat} {A : Option Addr} {ds : List RecD} (h : Slc w lo hi 7 A n c (recs ds)) {k : Nat} (hk : k < n) :
    ∃ b off d, A = some ⟨b, off, none⟩ ∧ lo ≤ b ∧ b < hi ∧ b < w.heap.size ∧ ds[k]? = some d ∧ w.cell? ⟨b, off + k * 7, none⟩ = some (.int .i64 d.c) ∧ w.cell? ⟨b, off + k * 7 + 1, none⟩ = some (.int .i64 d.l) ∧ w.cell? ⟨b, off + k * 7 + 2, none⟩ = some (.int .i64 d.o) ∧ w.cell? ⟨b, off + k * 7 + 3, none⟩ = some (.int .i64 d.f) ∧ w.cell? ⟨b, off + k * 7 + 4, none⟩ = some (.int .i64 d.h) ∧ w.cell? ⟨b, off + k * 7 + 5, none⟩ = some (.int .i64 d.t) ∧ w.cell? ⟨b, off + k * 7 + 6, none⟩ = some (.string d.e) := by
  have hl := h.recsLen
  have hx : ds[k]? = some ds[k] := List.getElem?_eq_getElem (by omega)
  have g : ∀ i, i < 7 → (recs ds)[k * 7 + i]? = (ds[k].cells)[i]? := fun i hi => by
    have := flat_get RecD.cells (s := 7) (fun _ => rfl) ds k i hi
    rw [hx] at this; exact this
  obtain ⟨b, off, rfl, h1, h2, h3, h4⟩ := h.cells hk
  exact ⟨b, off, ds[k], rfl, h1, h2, h3, hx, h4 0 _ (g 0 (by decide)), by rw [Nat.add_assoc]; exact h4 1 _ (g 1 (by decide)), by rw [Nat.add_assoc]; exact h4 2 _ (g 2 (by decide)), by rw [Nat.add_assoc]; exact h4 3 _ (g 3 (by decide)), by rw [Nat.add_assoc]; exact h4 4 _ (g 4 (by decide)), by rw [Nat.add_assoc]; exact h4 5 _ (g 5 (by decide)), by rw [Nat.add_assoc]; exact h4 6 _ (g 6 (by decide))⟩
set_option maxHeartbeats 4000000 in
set_option maxRecDepth 20000 in
theorem markRecordS_any (lo hi n c : Nat) (A : Option Addr) (xs : List Value) (k0 : Nat) (w : World) (h : OwnV 50 7 w lo hi A n c xs) (hn : n ≤ 1048576) (hk0 : k0 ≤ 10000000) :
    Calls Try.prog 22 #[.slice A n c, .int .i64 k0] w fun e w' => e = .returned (.int .i64 ((k0 + 7 * n : Nat) : Int)) ∧ Chg lo hi w w' := by
  by_cases hn0 : n = 0
  · subst hn0
    have HSL := Lib.hid h.slc
    clear h
    go_enter Try.func22, Try.ntmps22
    go_wp2
    go_loopw [1, 5] (fun q i wr => q = .int .i64 k0 ∧ i = .int .i64 0 ∧ wr = w) (fun _ _ _ => 0)
    case atStart => exact ⟨rfl, rfl, rfl⟩
    case round =>
      obtain ⟨rfl, rfl, rfl⟩ := hrel
      go_wp2
      go_ret
      exact ⟨rfl, Chg.refl _ _ _⟩
  · obtain ⟨b, cs0, rfl, hb0, hc0⟩ := h.blk (by omega)
    obtain ⟨b', off', he, hlo, hhi, hlt, _⟩ := h.slc.at_ (by omega)
    simp only [Option.some.injEq, Addr.mk.injEq, and_true] at he
    obtain ⟨rfl, rfl⟩ := he
    have HLE := Lib.hid h.slc.le
    have HCAP := Lib.hid h.slc.cap
    clear h
    have HB0 := Lib.hid hb0
    have HC0 := Lib.hid hc0
    clear hb0 hc0
    go_enter Try.func22, Try.ntmps22
    go_wp2
    go_loopw [1, 5] (fun q i wr => ∃ k : Nat, k ≤ n ∧ q = .int .i64 ((k0 + 7 * k : Nat) : Int) ∧ i = .int .i64 k ∧ Chg lo hi w wr ∧ ∃ cs : Array Value, wr.heap[b]? = some (.cells cs 50) ∧ n * 7 ≤ cs.size) (fun _ i _ => n - (intOf i).toNat)
    case atStart => exact ⟨0, Nat.zero_le _, rfl, rfl, Chg.refl _ _ _, cs0, HB0.out, HC0.out⟩
    case round =>
      obtain ⟨k, hk, rfl, rfl, C, cs, hb, hcs⟩ := hrel
      by_cases hltk : k < n
      · have HCS := Lib.hid hcs
        skip
        have hzb := blk_lt hb
        clear hcs
        obtain ⟨q, hq⟩ : ∃ q, q = k0 + 7 * k := ⟨_, rfl⟩
        rw [← hq]
        have hql : q ≤ 90000000 := by omega
        have HQ := Lib.hid hq
        clear hq
        have e0 := blk_cell hb (k * 7)
        have e1 := blk_cell hb (k * 7 + 1)
        have e2 := blk_cell hb (k * 7 + 2)
        have e3 := blk_cell hb (k * 7 + 3)
        have e4 := blk_cell hb (k * 7 + 4)
        have e5 := blk_cell hb (k * 7 + 5)
        have e6 := blk_cell hb (k * 7 + 6)
        have hf := blk_frozen' hb
        rw [Array.getElem?_eq_getElem (by have := HCS.out; first | omega | (simp; omega))] at e0 e1 e2 e3 e4 e5 e6
        have HB1 := Lib.hid hb
        clear hb
        go_wp2_with fail
        refine (markText_any (q + 6) (by omega) _).mono ?_
        rintro e w1 ⟨rfl, b1⟩
        have hb1 := (blk_below b1 (blk_setCell (blk_setCell (blk_setCell (blk_setCell (blk_setCell (blk_setCell HB1.out (.int .i64 ((q : Nat) : Int))) (.int .i64 ((q + 1 : Nat) : Int))) (.int .i64 ((q + 2 : Nat) : Int))) (.int .i64 ((q + 3 : Nat) : Int))) (.int .i64 ((q + 4 : Nat) : Int))) (.int .i64 ((q + 5 : Nat) : Int)))).1
        have z1 := blk_lt hb1
        have C1 := ((((((C.setCell (p := ⟨b, k * 7, none⟩) hlo hhi (.int .i64 ((q : Nat) : Int))).setCell (p := ⟨b, k * 7 + 1, none⟩) hlo hhi (.int .i64 ((q + 1 : Nat) : Int))).setCell (p := ⟨b, k * 7 + 2, none⟩) hlo hhi (.int .i64 ((q + 2 : Nat) : Int))).setCell (p := ⟨b, k * 7 + 3, none⟩) hlo hhi (.int .i64 ((q + 3 : Nat) : Int))).setCell (p := ⟨b, k * 7 + 4, none⟩) hlo hhi (.int .i64 ((q + 4 : Nat) : Int))).setCell (p := ⟨b, k * 7 + 5, none⟩) hlo hhi (.int .i64 ((q + 5 : Nat) : Int))).trans (Chg.of_below b1)
        clear e0 e1 e2 e3 e4 e5 e6 hf b1 C
        have e0 := blk_cell hb1 (k * 7)
        have e1 := blk_cell hb1 (k * 7 + 1)
        have e2 := blk_cell hb1 (k * 7 + 2)
        have e3 := blk_cell hb1 (k * 7 + 3)
        have e4 := blk_cell hb1 (k * 7 + 4)
        have e5 := blk_cell hb1 (k * 7 + 5)
        have e6 := blk_cell hb1 (k * 7 + 6)
        have hf := blk_frozen' hb1
        rw [Array.getElem?_eq_getElem (by have := HCS.out; first | omega | (simp; omega))] at e0 e1 e2 e3 e4 e5 e6
        have HB2 := Lib.hid hb1
        clear hb1
        go_wp2
        go_roundw
        case rel => exact ⟨k + 1, by omega, by rw [show k0 + 7 * (k + 1) = q + 7 by have := HQ.out; omega]; go_num, by go_num, (C1.setCell (p := ⟨b, k * 7 + 6, none⟩) hlo hhi (.string (markT (q + 6)))), _, (blk_setCell HB2.out (.string (markT (q + 6)))), by simp; exact HCS.out⟩
        case measure => simp [intOf]; omega
      · have e : k = n := by omega
        subst e
        skip
        have HB2 := Lib.hid hb
        clear hb
        go_wp2
        go_ret
        exact ⟨rfl, C⟩
end Go.Proofs.Ytjcpjijihajopaa
namespace Go.Proofs.Ytjcpjijihajopaa
open Go.RowKit
set_option linter.unusedVariables false
theorem toRecord_u {lo hi n c : Nat} {A : Option Addr} {xs : List RecD} {w : World} (h : Slc w lo hi 7 A n c (recs xs)) (hn : n ≤ 1048576) :
    Calls Try.prog 11 #[.slice A n c] w fun e w' => ∃ b cs, e = .returned (.slice (some ⟨b, 0, none⟩) n n) ∧ w.heap.size ≤ b ∧ w'.heap[b]? = some (.cells cs 50) ∧ cs.toList = recs xs ∧ OwnV 50 7 w' w.heap.size w'.heap.size (some ⟨b, 0, none⟩) n n (recs xs) ∧ Below w.heap.size w w' := by
  refine (toRecordS_any _ _ _ _ _ _ _ h hn).mono fun e w' hnew => ?_
  obtain ⟨b, m, cs, he, hm, hlo, hb, hcs, ho, b1⟩ := hnew
  have : m = n := by rw [hm, h.recLen]
  subst this
  exact ⟨b, cs, he, hlo, hb, hcs, ho, b1⟩
theorem eqRecord_u {lo hi n c lo' hi' n' c' : Nat} {A A' : Option Addr} {xs ys : List RecD} {w : World} (h : Slc w lo hi 7 A n c (recs xs)) (h' : Slc w lo' hi' 7 A' n' c' (recs ys)) (hn : n ≤ 1048576) (hn' : n' ≤ 1048576) :
    Calls Try.prog 13 #[.slice A n c, .slice A' n' c'] w fun e w' => e = .returned (.bool (xs == ys)) ∧ Below w.heap.size w w' := eqRecordS_any _ _ _ _ _ _ _ _ _ _ _ _ _ h h' hn hn'
theorem szRecord_u {lo hi n c : Nat} {A : Option Addr} {xs : List RecD} {w : World} (l : Int) (h : Slc w lo hi 7 A n c (recs xs)) (hd : ∀ d ∈ xs, d.e.size ≤ maxLen) (h0 : 0 ≤ l) (h1 : l ≤ 1048576) :
    Calls Try.prog 9 #[.slice A n c, .int .i64 l] w fun e w' => e = .returned (.int .i64 (szRecN l n xs)) ∧ Below w.heap.size w w' := szRecordS_any _ _ _ _ _ _ _ _ h hd h0 h1
theorem markRecord_u {lo hi n c : Nat} {A : Option Addr} {xs : List Value} (k0 : Nat) {w : World} (h : OwnV 50 7 w lo hi A n c xs) (hn : n ≤ 1048576) (hk0 : k0 ≤ 10000000) :
    Calls Try.prog 22 #[.slice A n c, .int .i64 k0] w fun e w' => e = .returned (.int .i64 ((k0 + 7 * n : Nat) : Int)) ∧ Chg lo hi w w' := markRecordS_any _ _ _ _ _ _ _ _ h hn hk0
theorem eqBill_u {lo hi n c lo' hi' n' c' : Nat} {A A' : Option Addr} {xs ys : List BillD} {w : World} (h : Slc w lo hi 4 A n c (bills xs)) (h' : Slc w lo' hi' 4 A' n' c' (bills ys)) (hn : n ≤ 1048576) (hn' : n' ≤ 1048576) :
    Calls Try.prog 21 #[.slice A n c, .slice A' n' c'] w fun e w' => e = .returned (.bool (xs == ys)) ∧ Below w.heap.size w w' := eqBillS_any _ _ _ _ _ _ _ _ _ _ _ _ _ h h' hn hn'
theorem markBill_u {lo hi n c : Nat} {A : Option Addr} {xs : List Value} (k0 : Nat) {w : World} (h : OwnV 48 4 w lo hi A n c xs) (hn : n ≤ 1048576) (hk0 : k0 ≤ 10000000) :
    Calls Try.prog 23 #[.slice A n c, .int .i64 k0] w fun e w' => e = .returned (.int .i64 ((k0 + 4 * n : Nat) : Int)) ∧ Slc w' lo hi 4 A n c (bills (marksBill k0 n)) ∧ Chg lo hi w w' := markBillS_any _ _ _ _ _ _ _ _ h hn hk0
theorem heldBill_u {lo hi n c : Nat} {A : Option Addr} (k0 : Nat) {w : World} (h : Slc w lo hi 4 A n c (bills (marksBill k0 n))) (hn : n ≤ 1048576) (hk0 : k0 ≤ 10000000) :
    Calls Try.prog 24 #[.slice A n c, .int .i64 k0] w fun e w' => e = .returned (.int .i64 ((k0 + 4 * n : Nat) : Int)) ∧ Below w.heap.size w w' := heldBillS_any _ _ _ _ _ _ _ h hn hk0
set_option maxHeartbeats 1000000 in
theorem toTariff_u (f s p : Int) (w : World) :
    Calls Try.prog 17 #[.agg #[.int .i64 f, .int .i64 s, .int .i64 p]] w fun e w' => e = .returned (.agg #[.int .i64 f, .int .i64 s, .int .i64 p]) ∧ Below w.heap.size w w' := by
  go_enter Try.func17, Try.ntmps17
  go_wp2
  refine bodyPost_ret (v := .agg #[.int .i64 f, .int .i64 s, .int .i64 p]) (by simp [results, Try.results17, go_sem]) rfl ⟨rfl, ?_⟩
  exact below_al (below_al (below_al (Below.refl _ _) _) _) _
end Go.Proofs.Ytjcpjijihajopaa
namespace Go.Proofs.Ytjcpjijihajopaa
open Go.RowKit Go.Mt Go.Conc Go.Tt Go.Maps
set_option linter.unusedVariables false
section
variable {p : Program} {op gs gs₁ fs : FuncId → Bool} {St : Nat → Prop} {W0 : World} {Post : Value → World → Prop}
theorem JO.callV (L : Lv p op gs gs₁ fs) {m : Fm} {ms : List Fm} {w : World} {ops : Array Oper} {i : Nat} {rest : List Nat} {k : List Item} {o : Oper} {f : FuncId} {args : Array Operand} {ats : Array TypeId} {xs : Array Value} (hr : m.ret = false) (htd : m.todo = .inRegion ops (i :: rest) :: k)
    (ho : ops[i]? = some o) (hwt : Region.wanted o (yielded ops m.tmps) = true) (hop : o.op = .call ⟨.value (.func f), args, ats⟩) (hg : gs₁ f = true) (hfn : op m.fn = false) (hargs : args.all (okX fs) = true) (hv : args.map m.eval = xs)
    {Q : Value → World → Prop} (hQt : ∀ v w T e, Q v w → Q v (Tt.tp w T e)) (hc : ∀ T, Calls p f xs (Tt.tp w T 0) (fun e w' => ∃ v, e = .returned v ∧ Q v w'))
    (hJ : ∀ v w', Q v w' → JL p op gs fs St W0 Post (m.fin ops i rest k v) ms w') : JL p op gs fs St W0 Post m ms w :=
  JO.callL L hr htd ho hwt hop hg hfn hargs hQt (fun T => hv ▸ hc T) hJ
end
theorem blk_tp {w : World} {b : Nat} {o : Obj} (h : w.heap[b]? = some o) (T : Tape) (e : Nat) : (Tt.tp w T e).heap[b]? = some o := h
theorem blk_chg {w w' : World} {b lo hi : Nat} {o : Obj} (h : w.heap[b]? = some o) (k : Chg lo hi w w') (hd : b < lo ∨ hi ≤ b) : w'.heap[b]? = some o := (k.block b (blk_lt h) (by omega)).trans h
def ToRecordQ (W : World) (n : Nat) (xs : List RecD) (v : Value) (w' : World) : Prop :=
  ∃ b cs, v = .slice (some ⟨b, 0, none⟩) n n ∧ W.heap.size ≤ b ∧ w'.heap[b]? = some (.cells cs 50) ∧ cs.toList = recs xs ∧ OwnV 50 7 w' W.heap.size w'.heap.size (some ⟨b, 0, none⟩) n n (recs xs) ∧ Bl W.heap.size W w'
theorem ToRecordQ.tp {W w : World} {n : Nat} {xs : List RecD} {v : Value} (h : ToRecordQ W n xs v w) (T : Tape) (e : Nat) : ToRecordQ W n xs v (Tt.tp w T e) := by
  obtain ⟨b, cs, h1, h2, h3, h4, h5, h6⟩ := h
  exact ⟨b, cs, h1, h2, h3, h4, h5.tp T e, h6.tp T e⟩
theorem toRecord_q {W : World} {lo hi n c : Nat} {A : Option Addr} {xs : List RecD} (h : Slc W lo hi 7 A n c (recs xs)) (hn : n ≤ 1048576) (T : Tape) :
    Calls Try.prog 11 #[.slice A n c] (Tt.tp W T 0) fun e w' => ∃ v, e = .returned v ∧ ToRecordQ W n xs v w' := by
  refine (toRecord_u (h.tp T 0) hn).mono ?_
  rintro e w' ⟨b, cs, he, h2, h3, h4, h5, h6⟩
  exact ⟨_, he, b, cs, rfl, h2, h3, h4, h5, ((Bl.refl _ W).tp T 0).below h6 (Nat.le_refl _)⟩
def ToTariffQ (f s p : Int) (W : World) (v : Value) (w' : World) : Prop := v = .agg #[.int .i64 f, .int .i64 s, .int .i64 p] ∧ Bl W.heap.size W w'
theorem ToTariffQ.tp {f s p : Int} {W w : World} {v : Value} (h : ToTariffQ f s p W v w) (T : Tape) (e : Nat) : ToTariffQ f s p W v (Tt.tp w T e) := ⟨h.1, h.2.tp T e⟩
theorem toTariff_q (f s p : Int) (W : World) (T : Tape) :
    Calls Try.prog 17 #[.agg #[.int .i64 f, .int .i64 s, .int .i64 p]] (Tt.tp W T 0) fun e w' => ∃ v, e = .returned v ∧ ToTariffQ f s p W v w' := by
  refine (toTariff_u f s p _).mono ?_
  rintro e w' ⟨he, hb⟩
  exact ⟨_, he, rfl, ((Bl.refl _ W).tp T 0).below hb (Nat.le_refl _)⟩
end Go.Proofs.Ytjcpjijihajopaa
