/-
  The reference's BillsOf.
-/
import Derived.Test.YtjcpjijihajopaaBilA
import Derived.Test.YtjcpjijihajopaaBas
import Derived.Deep.CutRange
set_option linter.unusedSectionVars false
set_option linter.unusedSimpArgs false
set_option linter.unusedVariables false
namespace Go.Proofs.Ytjcpjijihajopaa
open Go.RowKit
set_option linter.unusedVariables false
section
variable {w W W' : World} {a0 a1 a2 a3 a4 a5 a6 : Addr} {v0 v1 v2 v3 v4 v5 v6 : Value} {gb : Nat}
theorem heldc7_below (hb : Below W.heap.size W W') (h : W.cell? a0 = some v0 ∧ W.cell? a1 = some v1 ∧ W.cell? a2 = some v2 ∧ W.cell? a3 = some v3 ∧ W.cell? a4 = some v4 ∧ W.cell? a5 = some v5 ∧ W.cell? a6 = some v6) : W'.cell? a0 = some v0 ∧ W'.cell? a1 = some v1 ∧ W'.cell? a2 = some v2 ∧ W'.cell? a3 = some v3 ∧ W'.cell? a4 = some v4 ∧ W'.cell? a5 = some v5 ∧ W'.cell? a6 = some v6 := by
  have e : ∀ {a : Addr} {v : Value}, W.cell? a = some v → W'.cell? a = some v := fun {a v} hv => (World.cell?_of_block (hb.block _ (World.block_lt_of_cell? W _ hv))).trans hv
  obtain ⟨h0, h1, h2, h3, h4, h5, h6⟩ := h
  exact ⟨e h0, e h1, e h2, e h3, e h4, e h5, e h6⟩
theorem heldc7_drew (h : W.cell? a0 = some v0 ∧ W.cell? a1 = some v1 ∧ W.cell? a2 = some v2 ∧ W.cell? a3 = some v3 ∧ W.cell? a4 = some v4 ∧ W.cell? a5 = some v5 ∧ W.cell? a6 = some v6) : W.drew.cell? a0 = some v0 ∧ W.drew.cell? a1 = some v1 ∧ W.drew.cell? a2 = some v2 ∧ W.drew.cell? a3 = some v3 ∧ W.drew.cell? a4 = some v4 ∧ W.drew.cell? a5 = some v5 ∧ W.drew.cell? a6 = some v6 := h
theorem heldc7_set {p : Addr} {v : Value} (n0 : a0.block ≠ p.block) (n1 : a1.block ≠ p.block) (n2 : a2.block ≠ p.block) (n3 : a3.block ≠ p.block) (n4 : a4.block ≠ p.block) (n5 : a5.block ≠ p.block) (n6 : a6.block ≠ p.block) (h : W.cell? a0 = some v0 ∧ W.cell? a1 = some v1 ∧ W.cell? a2 = some v2 ∧ W.cell? a3 = some v3 ∧ W.cell? a4 = some v4 ∧ W.cell? a5 = some v5 ∧ W.cell? a6 = some v6) : (W.setCell p v).cell? a0 = some v0 ∧ (W.setCell p v).cell? a1 = some v1 ∧ (W.setCell p v).cell? a2 = some v2 ∧ (W.setCell p v).cell? a3 = some v3 ∧ (W.setCell p v).cell? a4 = some v4 ∧ (W.setCell p v).cell? a5 = some v5 ∧ (W.setCell p v).cell? a6 = some v6 := by
  obtain ⟨h0, h1, h2, h3, h4, h5, h6⟩ := h
  exact ⟨(World.cell?_of_block (Below.heap_setCell W p v _ n0)).trans h0, (World.cell?_of_block (Below.heap_setCell W p v _ n1)).trans h1, (World.cell?_of_block (Below.heap_setCell W p v _ n2)).trans h2, (World.cell?_of_block (Below.heap_setCell W p v _ n3)).trans h3, (World.cell?_of_block (Below.heap_setCell W p v _ n4)).trans h4, (World.cell?_of_block (Below.heap_setCell W p v _ n5)).trans h5, (World.cell?_of_block (Below.heap_setCell W p v _ n6)).trans h6⟩
end
section
variable {w W W' : World} {a0 a1 a2 a3 a4 a5 a6 a7 a8 a9 : Addr} {v0 v1 v2 v3 v4 v5 v6 v7 v8 v9 : Value} {gb : Nat}
theorem heldc10_below (hb : Below W.heap.size W W') (h : W.cell? a0 = some v0 ∧ W.cell? a1 = some v1 ∧ W.cell? a2 = some v2 ∧ W.cell? a3 = some v3 ∧ W.cell? a4 = some v4 ∧ W.cell? a5 = some v5 ∧ W.cell? a6 = some v6 ∧ W.cell? a7 = some v7 ∧ W.cell? a8 = some v8 ∧ W.cell? a9 = some v9) : W'.cell? a0 = some v0 ∧ W'.cell? a1 = some v1 ∧ W'.cell? a2 = some v2 ∧ W'.cell? a3 = some v3 ∧ W'.cell? a4 = some v4 ∧ W'.cell? a5 = some v5 ∧ W'.cell? a6 = some v6 ∧ W'.cell? a7 = some v7 ∧ W'.cell? a8 = some v8 ∧ W'.cell? a9 = some v9 := by
  have e : ∀ {a : Addr} {v : Value}, W.cell? a = some v → W'.cell? a = some v := fun {a v} hv => (World.cell?_of_block (hb.block _ (World.block_lt_of_cell? W _ hv))).trans hv
  obtain ⟨h0, h1, h2, h3, h4, h5, h6, h7, h8, h9⟩ := h
  exact ⟨e h0, e h1, e h2, e h3, e h4, e h5, e h6, e h7, e h8, e h9⟩
theorem heldc10_drew (h : W.cell? a0 = some v0 ∧ W.cell? a1 = some v1 ∧ W.cell? a2 = some v2 ∧ W.cell? a3 = some v3 ∧ W.cell? a4 = some v4 ∧ W.cell? a5 = some v5 ∧ W.cell? a6 = some v6 ∧ W.cell? a7 = some v7 ∧ W.cell? a8 = some v8 ∧ W.cell? a9 = some v9) : W.drew.cell? a0 = some v0 ∧ W.drew.cell? a1 = some v1 ∧ W.drew.cell? a2 = some v2 ∧ W.drew.cell? a3 = some v3 ∧ W.drew.cell? a4 = some v4 ∧ W.drew.cell? a5 = some v5 ∧ W.drew.cell? a6 = some v6 ∧ W.drew.cell? a7 = some v7 ∧ W.drew.cell? a8 = some v8 ∧ W.drew.cell? a9 = some v9 := h
theorem heldc10_set {p : Addr} {v : Value} (n0 : a0.block ≠ p.block) (n1 : a1.block ≠ p.block) (n2 : a2.block ≠ p.block) (n3 : a3.block ≠ p.block) (n4 : a4.block ≠ p.block) (n5 : a5.block ≠ p.block) (n6 : a6.block ≠ p.block) (n7 : a7.block ≠ p.block) (n8 : a8.block ≠ p.block) (n9 : a9.block ≠ p.block) (h : W.cell? a0 = some v0 ∧ W.cell? a1 = some v1 ∧ W.cell? a2 = some v2 ∧ W.cell? a3 = some v3 ∧ W.cell? a4 = some v4 ∧ W.cell? a5 = some v5 ∧ W.cell? a6 = some v6 ∧ W.cell? a7 = some v7 ∧ W.cell? a8 = some v8 ∧ W.cell? a9 = some v9) : (W.setCell p v).cell? a0 = some v0 ∧ (W.setCell p v).cell? a1 = some v1 ∧ (W.setCell p v).cell? a2 = some v2 ∧ (W.setCell p v).cell? a3 = some v3 ∧ (W.setCell p v).cell? a4 = some v4 ∧ (W.setCell p v).cell? a5 = some v5 ∧ (W.setCell p v).cell? a6 = some v6 ∧ (W.setCell p v).cell? a7 = some v7 ∧ (W.setCell p v).cell? a8 = some v8 ∧ (W.setCell p v).cell? a9 = some v9 := by
  obtain ⟨h0, h1, h2, h3, h4, h5, h6, h7, h8, h9⟩ := h
  exact ⟨(World.cell?_of_block (Below.heap_setCell W p v _ n0)).trans h0, (World.cell?_of_block (Below.heap_setCell W p v _ n1)).trans h1, (World.cell?_of_block (Below.heap_setCell W p v _ n2)).trans h2, (World.cell?_of_block (Below.heap_setCell W p v _ n3)).trans h3, (World.cell?_of_block (Below.heap_setCell W p v _ n4)).trans h4, (World.cell?_of_block (Below.heap_setCell W p v _ n5)).trans h5, (World.cell?_of_block (Below.heap_setCell W p v _ n6)).trans h6, (World.cell?_of_block (Below.heap_setCell W p v _ n7)).trans h7, (World.cell?_of_block (Below.heap_setCell W p v _ n8)).trans h8, (World.cell?_of_block (Below.heap_setCell W p v _ n9)).trans h9⟩
end

theorem bills_snoc (bs : List BillD) (b : BillD) : bills (bs ++ [b]) = bills bs ++ b.cells := by simp [bills]
abbrev billO (c t m g : Int) : Obj := .cells #[.int .i64 c, .int .i64 t, .int .i64 m, .int .i64 g] 48
abbrev trfO (T : Trf) : Obj := .cells #[.int .i64 T.f, .int .i64 T.s, .int .i64 T.p] 32
theorem info_bill : (Try.prog.info? 48).map (fun i => (i.zero, i.size, i.bytes)) = some (some zeroBill, 4, 32) := by kernel_rfl
/-- The bill that is made, in block gb; all else as it was. -/
structure InSt (W0 : World) (gb : Nat) (c t m g : Int) (W : World) : Prop where
  blk : W.heap[gb]? = some (billO c t m g)
  gr : W0.grownBy W (some gb)
section
variable {W0 W W' : World} {gb : Nat} {c t m g : Int}
theorem InSt.below (h : InSt W0 gb c t m g W) (hb : Below W.heap.size W W') : InSt W0 gb c t m g W' := ⟨(blk_below hb h.blk).1, h.gr.trans ⟨hb.os, hb.tape, hb.output, hb.size, fun i hi _ => hb.block i hi⟩⟩
theorem InSt.drew (h : InSt W0 gb c t m g W) : InSt W0 gb c t m g W.drew := ⟨h.blk, ⟨h.gr.os, h.gr.tape, h.gr.output, h.gr.size, h.gr.block⟩⟩
theorem InSt.set (h : InSt W0 gb c t m g W) {i : Nat} {v : Value} {c' t' m' g' : Int} (e : (#[Value.int .i64 c, .int .i64 t, .int .i64 m, .int .i64 g] : Array Value).setIfInBounds i v = #[.int .i64 c', .int .i64 t', .int .i64 m', .int .i64 g']) : InSt W0 gb c' t' m' g' (W.setCell ⟨gb, i, none⟩ v) := by
  refine ⟨by rw [blk_setCell h.blk, e], h.gr.trans ⟨rfl, rfl, rfl, ?_, fun i _ hne => ?_⟩⟩
  · rw [World.size_setCell]; exact Nat.le_refl _
  · exact Below.heap_setCell W _ v _ (by simp; intro e; exact hne (by rw [e]))
theorem InSt.other (h : InSt W0 gb c t m g W) {b : Nat} {o : Obj} (hb : W0.heap[b]? = some o) (hne : b ≠ gb) : W.heap[b]? = some o := (h.gr.block b (blk_lt hb) (fun e => hne (by injection e))).trans hb
end
set_option maxRecDepth 20000 in
set_option maxHeartbeats 8000000 in
theorem spec_BillsOf (T : Trf) (lo hi n cp : Nat) (A : Option Addr) (rs : List RecD) (w : World) (h : Slc w lo hi 7 A n cp (recs rs)) (hn : n ≤ 1048576) :
    Calls Try.prog 19 #[.agg #[.int .i64 T.f, .int .i64 T.s, .int .i64 T.p], .slice A n cp] w (NewVB 48 4 w (bills (billsM T rs)) (billOk T rs)) := by
  have hl := Lib.hid h.recLen
  obtain ⟨i0, hi0, hz0, hz1, hz2⟩ := info_parts info_bill
  have HI := Lib.hid (And.intro hi0 (And.intro hz0 (And.intro hz1 hz2)))
  clear hi0 hz0 hz1 hz2
  obtain ⟨bt, hbt⟩ : ∃ b, b = w.heap.size := ⟨_, rfl⟩
  go_enter Try.func19, Try.ntmps19
  go_wp2_with fail
  refine (spec_TariffValid _ _ _ _).mono ?_
  rintro e w1 ⟨rfl, b1⟩
  have k0 := (blk_below b1 (blk_alloc (heap_alloc_new w (trfO T)) (.cells #[] 48))).1
  have k1 := (blk_below b1 (heap_new' (w.alloc (trfO T)) (.cells #[] 48) (b := w.heap.size + 1) (by simp))).1
  have B1 := below_step (below_al (below_al (Below.refl _ _) (trfO T)) (.cells #[] 48)) b1
  have hno : ∀ W : World, Below w.heap.size w W → W.heap[w.heap.size + 1]? = some (.cells #[] 48) → billOk T rs = false → NewVB 48 4 w (bills (billsM T rs)) (billOk T rs) (.returned (.tuple #[.slice (some ⟨w.heap.size + 1, 0, none⟩) 0 0, .bool false])) W := by
    intro W hB hk ho
    rw [ho]
    have : billsM T rs = [] := by unfold billsM; rw [ho]; rfl
    rw [this]
    exact ⟨_, _, _, rfl, OwnV.empty _ _ _ _, hB⟩
  have HNO := Lib.hid hno
  clear b1 hno
  obtain ⟨t, ht⟩ : ∃ t, t = T.ok := ⟨_, rfl⟩
  have HT := Lib.hid ht
  have ht' : tariffB T.f T.s T.p = t := ht.symm
  rw [ht']
  clear ht ht'
  cases t
  · clear h k0
    go_wp2
    go_ret2
    exact HNO.out _ B1 k1 (by unfold billOk; rw [← HT.out]; rfl)
  · obtain ⟨t2, ht2⟩ : ∃ t, t = validR rs := ⟨_, rfl⟩
    have HT2 := Lib.hid ht2
    clear ht2
    have h1 := h.below B1
    go_wp2_with fail
    refine (spec_l8Valid _ _ _ _ _ _ _ h1 hn).mono ?_
    rintro e w2 ⟨rfl, b2⟩
    rw [← HT2.out]
    have k02 := (blk_below b2 k0).1
    have k12 := (blk_below b2 k1).1
    have B2 := below_step B1 b2
    clear b2 B1 k0 k1 h1
    cases t2
    · clear h k02
      go_wp2
      go_ret2
      exact HNO.out _ B2 k12 (by unfold billOk; rw [← HT2.out]; simp)
    · have ho : billOk T rs = true := by unfold billOk; rw [← HT.out, ← HT2.out]; rfl
      have HO := Lib.hid ho
      have HM := Lib.hid (show billsM T rs = billsTo T rs 99 by unfold billsM; rw [if_pos ho])
      have HV := Lib.hid (validR_parts HT2.out.symm)
      clear ho
      rw [← hbt] at k02 k12
      go_wp2_with fail
      go_loopw [6, 7] (fun v i wr => ∃ (k g L cl : Nat), k ≤ 99 ∧ i = .int .i64 ((k : Int) + 1) ∧ L = (billsTo T rs k).length ∧ v = .slice (some ⟨g, 0, none⟩) L cl ∧ Below w.heap.size w wr ∧ wr.heap[bt]? = some (trfO T) ∧ wr.ownsRow (bt + 1) 48 4 (.slice (some ⟨g, 0, none⟩) L cl) L (bills (billsTo T rs k))) (fun _ i _ => 100 - (intOf i).toNat)
      case atStart => exact ⟨0, bt + 1, 0, 0, by omega, by simp, rfl, by rw [hbt], B2, k02, row_empty (Nat.le_refl _) k12⟩
      case round =>
        obtain ⟨k, g, L, cl, hk, rfl, hL, rfl, B, hkt, hown⟩ := hrel
        have HL := Lib.hid hL
        have HOW := Lib.hid hown
        have HB := Lib.hid B
        have HKT := Lib.hid hkt
        have hkt' := hkt
        have hzb := B.size
        have hbtz := blk_lt hkt
        have hglt : g < wr.heap.size := (hown.lt g rfl).2
        have hlen := billsTo_len T rs k
        rw [← hL] at hlen
        clear hL hown hkt
        by_cases hlt : k < 99
        · obtain ⟨c, hc⟩ : ∃ c : Int, c = (k : Int) + 1 := ⟨_, rfl⟩
          have hc1 : 1 ≤ c := by omega
          have hc2 : c ≤ 99 := by omega
          have HC := Lib.hid hc
          rw [← hc]
          clear hc hlt
          have B0 := below_al B (billO c 0 0 0)
          have kt := blk_alloc hkt' (billO c 0 0 0)
          have gb0 := heap_alloc_new wr (billO c 0 0 0)
          go_wp2_with fail
          obtain ⟨gb, hgb⟩ : ∃ b, b = wr.heap.size := ⟨_, rfl⟩
          obtain ⟨W0, hW0⟩ : ∃ W, W = wr.alloc (billO c 0 0 0) := ⟨_, rfl⟩
          have HB0 := Lib.hid (show Below w.heap.size w W0 by rw [hW0]; exact B0)
          have kt0 : W0.heap[bt]? = some (trfO T) := by rw [hW0]; exact kt
          have gbi : W0.heap[gb]? = some (billO c 0 0 0) := by rw [hW0, hgb]; exact gb0
          have HOW0 := Lib.hid (show W0.ownsRow (bt + 1) 48 4 (.slice (some ⟨g, 0, none⟩) L cl) L (bills (billsTo T rs k)) by rw [hW0]; exact row_keep HOW.out (fun b hb => Below.heap_alloc _ _ b hb))
          have hgb1 : w.heap.size ≤ gb := by rw [hgb]; exact hzb
          have hgb2 : bt ≠ gb := by omega
          have hgb3 : g ≠ gb := by omega
          have HGI := Lib.hid (show InSt W0 gb c 0 0 0 W0 from ⟨gbi, World.grownBy.refl _ _⟩)
          have HK0 := Lib.hid kt0
          have hzW : W0.heap.size = gb + 1 := by rw [hW0, hgb]; simp
          rw [← hgb, ← hW0]
          clear hgb hW0 B0 kt gb0 gbi kt0 hkt' HKT HB HOW B hzb hbtz
          go_loopw [9] (fun i wr => ∃ j : Nat, j ≤ n ∧ i = .int .i64 j ∧ InSt W0 gb c (sumR (pickT c) (rs.take j)) (sumR (pickM c) (rs.take j)) (sumR (pickG T c) (rs.take j)) wr) (fun i _ => n - (intOf i).toNat)
          case atStart => exact ⟨0, Nat.zero_le _, rfl, HGI.out⟩
          case round =>
            obtain ⟨j, hj, rfl, hin⟩ := hrel
            have HIN := Lib.hid hin
            clear hin
            have gbz := blk_lt HIN.out.blk
            have HB2 := Lib.hid (show Below w.heap.size w wr from HB0.out.trans ⟨HIN.out.gr.os, HIN.out.gr.tape, HIN.out.gr.output, HIN.out.gr.size, fun i hi => HIN.out.gr.block i (by have := HB0.out.size; omega) (by intro e; injection e with e; omega)⟩)
            by_cases hlt : j < n
            · obtain ⟨b, off, d, hA, _, _, h3, hxk, hv0, hv1, hv2, hv3, hv4, hv5, hv6⟩ := (h.below HB2.out).rec7 hlt
              subst hA
              have hbg : b ≠ gb := by
                obtain ⟨b2, off2, e2, _, _, h4, _⟩ := h.at_ (by omega)
                injection e2 with e2
                injection e2 with e3 e4
                omega
              have HXK := Lib.hid hxk
              have HR := Lib.hid (HV.out.2 d (List.mem_of_getElem? hxk))
              have i0 : (0 : Int) ≤ (j : Int) := by omega
              have i1 : (j : Int) < (n : Int) := by omega
              have HT1 := Lib.hid (sumR_succ (f := pickT c) hxk)
              have HM1 := Lib.hid (sumR_succ (f := pickM c) hxk)
              have HG1 := Lib.hid (sumR_succ (f := pickG T c) hxk)
              clear hxk
              cases hq : (d.c == c)
              · have hcc : ¬ (d.c = c ∧ isDone d = true) := fun x => by rw [x.1] at hq; simp at hq
                have HS := Lib.hid (show InSt W0 gb c (sumR (pickT c) (rs.take (j + 1))) (sumR (pickM c) (rs.take (j + 1))) (sumR (pickG T c) (rs.take (j + 1))) wr by
                  rw [HT1.out, HM1.out, HG1.out, show pickT c d = 0 from if_neg hcc, show pickM c d = 0 from if_neg hcc, show pickG T c d = 0 from if_neg hcc, Int.add_zero, Int.add_zero, Int.add_zero]; exact HIN.out)
                clear hcc h hv1 hv2 hv3 hv4 hv5 h3
                go_wp2
                go_roundw
                case rel => exact ⟨j + 1, by omega, by go_num, HS.out⟩
                case measure => simp [intOf]; omega
              · cases hdn : (d.e.toList == [100, 111, 110, 101])
                · have hcc : ¬ (d.c = c ∧ isDone d = true) := fun x => by unfold isDone at x; rw [hdn] at x; cases x.2
                  have HS := Lib.hid (show InSt W0 gb c (sumR (pickT c) (rs.take (j + 1))) (sumR (pickM c) (rs.take (j + 1))) (sumR (pickG T c) (rs.take (j + 1))) wr by
                    rw [HT1.out, HM1.out, HG1.out, show pickT c d = 0 from if_neg hcc, show pickM c d = 0 from if_neg hcc, show pickG T c d = 0 from if_neg hcc, Int.add_zero, Int.add_zero, Int.add_zero]; exact HIN.out)
                  clear hcc h hv1 hv2 hv3 hv4 hv5 h3
                  go_wp2
                  go_roundw
                  case rel => exact ⟨j + 1, by omega, by go_num, HS.out⟩
                  case measure => simp [intOf]; omega
                · have hcc : d.c = c ∧ isDone d = true := ⟨by simpa using hq, hdn⟩
                  have HTB := Lib.hid (talk_bound HR.out)
                  have HCB := Lib.hid (chargeF_bounds (m := talkD d) HT.out.symm (HTB.out.2 hcc.2) HTB.out.1)
                  have hbd := billFor_bounds HO.out j c
                  simp only [billFor] at hbd
                  rw [show pickT c d = 1 from if_pos hcc] at HT1
                  rw [show pickM c d = talkD d from if_pos hcc] at HM1
                  rw [show pickG T c d = chargeF T.f T.s T.p (talkD d) from if_pos hcc] at HG1
                  obtain ⟨T0, hT0⟩ : ∃ x, x = sumR (pickT c) (rs.take j) := ⟨_, rfl⟩
                  obtain ⟨M0, hM0⟩ : ∃ x, x = sumR (pickM c) (rs.take j) := ⟨_, rfl⟩
                  obtain ⟨G0, hG0⟩ : ∃ x, x = sumR (pickG T c) (rs.take j) := ⟨_, rfl⟩
                  obtain ⟨tk, htk⟩ : ∃ x, x = talkD d := ⟨_, rfl⟩
                  obtain ⟨cg, hcg⟩ : ∃ x, x = chargeF T.f T.s T.p tk := ⟨_, rfl⟩
                  have HTK := Lib.hid htk
                  have HCG := Lib.hid hcg
                  rw [← hT0, ← hM0, ← hG0] at hbd
                  rw [← hT0] at HT1
                  rw [← hM0, ← htk] at HM1
                  rw [← hG0, ← htk, ← hcg] at HG1
                  rw [← hT0, ← hM0, ← hG0] at HIN
                  rw [← htk] at HTB HCB
                  rw [← hcg] at HCB
                  have htb := HTB.out
                  have hcb := HCB.out
                  have htk0 := htb.2 hcc.2
                  have X1 := (IntWalk.i64_left _).trans (IntWalk.wrap64_in (T0 + 1) (by omega))
                  have X2 := (IntWalk.i64_left _).trans (IntWalk.wrap64_in (M0 + tk) (by omega))
                  have X3 := (IntWalk.i64_left _).trans (IntWalk.wrap64_in (G0 + cg) (by omega))
                  have e1 := blk_cell HIN.out.blk 1
                  have f1 := blk_frozen' HIN.out.blk 1
                  clear hT0 hM0 hG0 htk hcg hcc hbd htb hcb htk0 hv1 hv2 hv3 hv4 hv5 h3
                  go_wp2_with fail
                  have D1 : InSt W0 gb c (T0 + 1) M0 G0 (wr.setCell ⟨gb, 1, none⟩ (.int .i64 (T0 + 1))) := HIN.out.set rfl
                  obtain ⟨wa, hwa⟩ : ∃ x, x = wr.setCell ⟨gb, 1, none⟩ (.int .i64 (T0 + 1)) := ⟨_, rfl⟩
                  rw [← hwa] at D1 ⊢
                  clear hwa e1 f1 hv0 hv6 HIN
                  have gbz1 := blk_lt D1.blk
                  have BA : Below w.heap.size w wa := HB0.out.trans ⟨D1.gr.os, D1.gr.tape, D1.gr.output, D1.gr.size, fun i hi => D1.gr.block i (by have := HB0.out.size; omega) (by intro e; injection e with e; omega)⟩
                  obtain ⟨b', off', d', hA', _, _, h3', hxk', hv0, hv1, hv2, hv3, hv4, hv5, hv6⟩ := (h.below BA).rec7 hlt
                  injection hA' with hA'
                  injection hA' with hA1 hA2
                  subst hA1 hA2
                  have hdd : d = d' := by have := HXK.out; rw [hxk'] at this; injection this with this; exact this.symm
                  subst hdd
                  have kg := D1.blk
                  have eg := blk_cell kg
                  have fg := blk_frozen' kg
                  have zg := blk_lt kg
                  have HD1 := Lib.hid D1
                  clear D1 hxk' h3'
                  go_cut [] from 51 to 58 (fun wx => InSt W0 gb c (T0 + 1) (M0 + tk) G0 wx)
                  case first =>
                    go_region_with (go_at_call 42; refine (spec_TalkMinutes _ _ _ _ _ _ _ _).mono ?_; rintro x w3 ⟨rfl, b3⟩; rw [show talkF d.c d.l d.o d.f d.h d.t d.e.toList = tk from HTK.out.symm]; have D3 := (HD1.out.drew).below b3; have kg := D3.blk; have eg := blk_cell kg; have fg := blk_frozen' kg; have zg := blk_lt kg)
                    all_goals
                      go_wp2_with fail
                      go_meet
                      exact D3.set rfl
                  case rest =>
                    clear kg eg fg zg hv0 hv1 hv2 hv3 hv4 hv5 hv6
                    have D4 := hcut
                    clear hcut
                    go_upto_region 14 with fail
                    have gbz2 := blk_lt D4.blk
                    have BC : Below w.heap.size w wc := HB0.out.trans ⟨D4.gr.os, D4.gr.tape, D4.gr.output, D4.gr.size, fun i hi => D4.gr.block i (by have := HB0.out.size; omega) (by intro e; injection e with e; omega)⟩
                    obtain ⟨b', off', d', hA', _, _, h3', hxk', hv0, hv1, hv2, hv3, hv4, hv5, hv6⟩ := (h.below BC).rec7 hlt
                    injection hA' with hA'
                    injection hA' with hA1 hA2
                    subst hA1 hA2
                    have hdd : d = d' := by have := HXK.out; rw [hxk'] at this; injection this with this; exact this.symm
                    subst hdd
                    have kt4 := D4.other HK0.out hgb2
                    rw [hbt] at kt4
                    have et0 := blk_cell kt4 0
                    have et1 := blk_cell kt4 1
                    have et2 := blk_cell kt4 2
                    have kg := D4.blk
                    have eg := blk_cell kg
                    have fg := blk_frozen' kg
                    have zg := blk_lt kg
                    have HNN := Lib.hid (HTB.out.2 hdn)
                    clear hxk' h3' gbz2 BC
                    go_region_with (first
                      | (go_at_call 42; refine (spec_TalkMinutes _ _ _ _ _ _ _ _).mono ?_; rintro x w3 ⟨rfl, b3⟩; rw [show talkF d.c d.l d.o d.f d.h d.t d.e.toList = tk from HTK.out.symm]; have D4 := (D4.drew).below b3; have kt4 := (blk_below b3 (blk_drew kt4)).1; have et0 := blk_cell kt4 0; have et1 := blk_cell kt4 1; have et2 := blk_cell kt4 2; have kg := D4.blk; have eg := blk_cell kg; have fg := blk_frozen' kg; have zg := blk_lt kg)
                      | (go_at_call 43; refine (spec_l8Charge _ _ _ _ _ HT.out.symm HNN.out HTB.out.1).mono ?_; rintro x w6 ⟨rfl, b6⟩; rw [show chargeF T.f T.s T.p tk = cg from HCG.out.symm]; have D4 := D4.below b6; have kg := D4.blk; have eg := blk_cell kg; have fg := blk_frozen' kg; have zg := blk_lt kg))
                    all_goals
                      have HD7 := Lib.hid (show InSt W0 gb c (sumR (pickT c) (rs.take (j + 1))) (sumR (pickM c) (rs.take (j + 1))) (sumR (pickG T c) (rs.take (j + 1))) (w6.setCell ⟨gb, 3, none⟩ (.int .i64 (G0 + cg))) by rw [HT1.out, HM1.out, HG1.out]; exact D4.set rfl)
                      clear D4 kg eg fg
                      go_wp2
                      go_roundw
                      case rel => exact ⟨j + 1, by omega, by go_num, HD7.out⟩
                      case measure => simp [intOf]; omega
            · have e : j = n := by omega
              subst e
              have D : InSt W0 gb c (billFor T rs c).t (billFor T rs c).m (billFor T rs c).g wr := by
                have := HIN.out
                rw [List.take_of_length_le (by rw [hl.out]; exact Nat.le_refl _)] at this
                exact this
              have e1 := blk_cell D.blk 1
              clear h
              by_cases hp : 0 < (billFor T rs c).t
              · have hpb : decide (0 < (billFor T rs c).t) = true := decide_eq_true hp
                have e0 := blk_cell D.blk 0
                have e2 := blk_cell D.blk 2
                have e3 := blk_cell D.blk 3
                have HD := Lib.hid D
                have HN := Lib.hid (show billsTo T rs (k + 1) = billsTo T rs k ++ [billFor T rs c] by rw [HC.out]; exact billsTo_some (by rw [← HC.out]; exact hp))
                have hrow : wr.ownsRow (bt + 1) 48 4 (.slice (some ⟨g, 0, none⟩) L cl) L (bills (billsTo T rs k)) := HOW0.out.kept D.gr (.inr (by simp [Value.ownBlock]; exact hgb3))
                have HRW := Lib.hid hrow
                have HKT := Lib.hid (D.other HK0.out hgb2)
                have hbz := blk_lt HKT.out
                obtain ⟨hi0, hz0, hz1, hz2⟩ := HI.out
                have HH := Lib.hid hi0
                have HX2 := Lib.hid hc2
                clear hi0 hrow D hp gbz
                go_wp2_with (at_builtin; refine wpList_app _ rfl (.tmp 74) (.tmp 76) 35 rfl (bt + 1) 48 i0 zeroBill 4 32 Try.underlying35 HH.out hz0 hz1 hz2 rfl (by decide) (.slice (some ⟨g, 0, none⟩) L cl) L (bills (billsTo T rs k)) rfl (row_keep HRW.out ?c1) (by simp) ⟨_, 0, none⟩ 1 1 (BillD.cells (billFor T rs c)) rfl rfl ?c2 (by intro u hu; simp [BillD.cells] at hu; rcases hu with rfl | rfl | rfl | rfl <;> rfl) ?c5 ?c6 ?c7 ?_; (case c1 => exact fun b hb => Below.heap_alloc _ _ b hb); (case c2 => exact World.news_of_block (cs := (BillD.cells (billFor T rs c)).toArray) (heap_new' _ _ (by simp))); (case c5 => unfold maxLen; omega); (case c6 => omega); (case c7 => (simp; omega)); intro g1 c1 w1 hown1 hgr1 B1; have HO1 := Lib.hid hown1; have HB1 := Lib.hid B1; clear hown1 hgr1 B1)
                go_roundw
                case rel =>
                  refine ⟨k + 1, g1, L + 1, c1, by have := HC.out; omega, by rw [HC.out]; push_cast; rfl, by rw [HN.out, HL.out]; simp, rfl, ?_, ?_, ?_⟩
                  · exact (below_al HB2.out _).trans (HB1.out.mono (by omega))
                  · exact (HB1.out.block bt (by omega)).trans (blk_alloc HKT.out _)
                  · rw [HN.out, bills_snoc]; exact HO1.out
                case measure => have := HC.out; simp [intOf]; omega
              · have hpb : decide (0 < (billFor T rs c).t) = false := decide_eq_false hp
                have HN := Lib.hid (show billsTo T rs (k + 1) = billsTo T rs k by exact billsTo_none (by rw [← HC.out]; exact hp))
                have HRW := Lib.hid (show wr.ownsRow (bt + 1) 48 4 (.slice (some ⟨g, 0, none⟩) L cl) L (bills (billsTo T rs k)) from HOW0.out.kept D.gr (.inr (by simp [Value.ownBlock]; exact hgb3)))
                have HKT := Lib.hid (D.other HK0.out hgb2)
                clear D hp
                go_wp2
                go_roundw
                case rel => exact ⟨k + 1, g, L, cl, by have := HC.out; omega, by rw [HC.out]; push_cast; rfl, by rw [HN.out]; exact HL.out, rfl, HB2.out, HKT.out, by rw [HN.out]; exact HRW.out⟩
                case measure => have := HC.out; simp [intOf]; omega
        · have e : k = 99 := by omega
          subst e
          clear h
          go_wp2
          go_ret2
          obtain ⟨A', c', e', o⟩ := ownV_of_row HOW.out (by decide)
          injection e' with e1 e2 e3
          subst e1 e3
          rw [HO.out, HM.out]
          exact ⟨_, _, _, rfl, o.wide (by omega) (Nat.le_refl _), HB.out⟩
end Go.Proofs.Ytjcpjijihajopaa
