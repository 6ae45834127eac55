/-
 Part 13 of what stands behind the last text.
-/
import Derived.Deep.CutRange
import Derived.Deep.MidRow
import Derived.BigQuiet
import Derived.Test.YtjcpjijihajopaaFBillPq12
set_option linter.unusedSectionVars false
set_option linter.unusedSimpArgs false
set_option linter.unusedVariables false
namespace Go.Proofs.Ytjcpjijihajopaa
open Go.RowKit
theorem bills_snoc (bs : List BillD) (b : BillD) : bills (bs ++ [b]) = bills bs ++ b.cells := by simp [bills]
abbrev billO (c t m g : Int) : Obj := .cells #[.int .i64 c, .int .i64 t, .int .i64 m, .int .i64 g] 48
abbrev trfO (T : Trf) : Obj := .cells #[.int .i64 T.f, .int .i64 T.s, .int .i64 T.p] 32
theorem info_bill : (Try.prog.info? 48).map (λ i => (i.zero, i.size, i.bytes)) = some (some zeroBill, 4, 32) := by kernel_rfl
structure InSt (W0 : World) (gb : Nat) (c t m g : Int) (W : World) : Prop where
 blk : W.heap[gb]? = some (billO c t m g)
 gr : W0.grownBy W (some gb)
section
variable {W0 W W' : World} {gb : Nat} {c t m g : Int}
theorem InSt.below (h : InSt W0 gb c t m g W) (hb : Below W.heap.size W W') : InSt W0 gb c t m g W' := ⟨(blk_below hb h.blk).1, h.gr.trans ⟨hb.os, hb.tape, hb.output, hb.size, λ i hi _ => hb.block i hi⟩⟩
theorem InSt.drew (h : InSt W0 gb c t m g W) : InSt W0 gb c t m g W.drew := ⟨h.blk, ⟨h.gr.os, h.gr.tape, h.gr.output, h.gr.size, h.gr.block⟩⟩
theorem InSt.set (h : InSt W0 gb c t m g W) {i : Nat} {v : Value} {c' t' m' g' : Int} (e : (#[Value.int .i64 c, .int .i64 t, .int .i64 m, .int .i64 g] : Array Value).setIfInBounds i v = #[.int .i64 c', .int .i64 t', .int .i64 m', .int .i64 g']) : InSt W0 gb c' t' m' g' (W.setCell ⟨gb, i, none⟩ v) := by
 refine ⟨by rw [blk_setCell h.blk, e], h.gr.trans ⟨rfl, rfl, rfl, ?_, λ i _ hne => ?_⟩⟩
 . rw [World.size_setCell]; exact Nat.le_refl _
 . exact Below.heap_setCell W _ v _ (by simp; intro e; exact hne (by rw [e]))
theorem InSt.other (h : InSt W0 gb c t m g W) {b : Nat} {o : Obj} (hb : W0.heap[b]? = some o) (hne : b ≠ gb) : W.heap[b]? = some o := (h.gr.block b (blk_lt hb) (λ e => hne (by injection e))).trans hb
end
set_option maxRecDepth 20000 in
set_option maxHeartbeats 8000000 in
theorem spec_BillsOf (T : Trf) (lo hi n cp : Nat) (A : Option Addr) (rs : List RecD) (w : World) (h : Slc w lo hi 7 A n cp (recs rs)) (hn : n <= 1048576) :
   Calls Try.prog 19 #[.agg #[.int .i64 T.f, .int .i64 T.s, .int .i64 T.p], .slice A n cp] w (NewVB 48 4 w (bills (billsM T rs)) (billOk T rs)) := by
 have hl := Lib.hid h.recLen
 obtain ⟨i0, hi0, hz0, hz1, hz2⟩ := info_parts info_bill
 have HI := Lib.hid (And.intro hi0 (And.intro hz0 (And.intro hz1 hz2)))
 clear hi0 hz0 hz1 hz2
 obtain ⟨bt, hbt⟩ : ∃ b, b = w.heap.size := ⟨_, rfl⟩
 go_enter Try.func19, Try.ntmps19
 go_wp2_with fail
 refine (spec_TariffValid _ _ _ _).mono ?_
 rintro e w1 ⟨rfl, b1⟩
 have k0 := (blk_below b1 (blk_alloc (heap_alloc_new w (trfO T)) (.cells #[] 48))).1
 have k1 := (blk_below b1 (heap_new' (w.alloc (trfO T)) (.cells #[] 48) (b := w.heap.size + 1) (by simp))).1
 have B1 := below_step (below_al (below_al (Below.refl _ _) (trfO T)) (.cells #[] 48)) b1
 have hno : ∀ W : World, Below w.heap.size w W -> W.heap[w.heap.size + 1]? = some (.cells #[] 48) -> billOk T rs = false -> NewVB 48 4 w (bills (billsM T rs)) (billOk T rs) (.returned (.tuple #[.slice (some ⟨w.heap.size + 1, 0, none⟩) 0 0, .bool false])) W := by
   intro W hB hk ho
   rw [ho]
   have : billsM T rs = [] := by unfold billsM; rw [ho]; rfl
   rw [this]
   exact ⟨_, _, _, rfl, OwnV.empty _ _ _ _, hB⟩
 have HNO := Lib.hid hno
 clear b1 hno
 obtain ⟨t, ht⟩ : ∃ t, t = T.ok := ⟨_, rfl⟩
 have HT := Lib.hid ht
 have ht' : tariffB T.f T.s T.p = t := ht.symm
 rw [ht']
 clear ht ht'
 cases t
 . clear h k0
   go_wp2
   go_ret2
   exact HNO.out _ B1 k1 (by unfold billOk; rw [<- HT.out]; rfl)
 . obtain ⟨t2, ht2⟩ : ∃ t, t = validR rs := ⟨_, rfl⟩
   have HT2 := Lib.hid ht2
   clear ht2
   have h1 := h.below B1
   go_wp2_with fail
   refine (spec_l8Valid _ _ _ _ _ _ _ h1 hn).mono ?_
   rintro e w2 ⟨rfl, b2⟩
   rw [<- HT2.out]
   have k02 := (blk_below b2 k0).1
   have k12 := (blk_below b2 k1).1
   have B2 := below_step B1 b2
   clear b2 B1 k0 k1 h1
   cases t2
   . clear h k02
     go_wp2
     go_ret2
     exact HNO.out _ B2 k12 (by unfold billOk; rw [<- HT2.out]; simp)
   . have ho : billOk T rs = true := by unfold billOk; rw [<- HT.out, <- HT2.out]; rfl
     have HO := Lib.hid ho
     have HM := Lib.hid (show billsM T rs = billsTo T rs 99 by unfold billsM; rw [if_pos ho])
     have HV := Lib.hid (validR_parts HT2.out.symm)
     clear ho
     rw [<- hbt] at k02 k12
     go_wp2_with fail
     go_loopw [6, 7] (λ v i wr => ∃ (k g L cl : Nat), k <= 99 /\ i = .int .i64 ((k : Int) + 1) /\ L = (billsTo T rs k).length /\ v = .slice (some ⟨g, 0, none⟩) L cl /\ Below w.heap.size w wr /\ wr.heap[bt]? = some (trfO T) /\ wr.ownsRow (bt + 1) 48 4 (.slice (some ⟨g, 0, none⟩) L cl) L (bills (billsTo T rs k))) (λ _ i _ => 100 - (intOf i).toNat)
     case atStart => exact ⟨0, bt + 1, 0, 0, by omega, by simp, rfl, by rw [hbt], B2, k02, row_empty (Nat.le_refl _) k12⟩
     case round =>
       obtain ⟨k, g, L, cl, hk, rfl, hL, rfl, B, hkt, hown⟩ := hrel
       have HL := Lib.hid hL
       have HOW := Lib.hid hown
       have HB := Lib.hid B
       have HKT := Lib.hid hkt
       have hkt' := hkt
       have hzb := B.size
       have hbtz := blk_lt hkt
       have hglt : g < wr.heap.size := (hown.lt g rfl).2
       have hlen := billsTo_len T rs k
       rw [<- hL] at hlen
       clear hL hown hkt
       by_cases hlt : k < 99
       . obtain ⟨c, hc⟩ : ∃ c : Int, c = (k : Int) + 1 := ⟨_, rfl⟩
         have hc1 : 1 <= c := by omega
         have hc2 : c <= 99 := by omega
         have HC := Lib.hid hc
         rw [<- hc]
         clear hc hlt
         have B0 := below_al B (billO c 0 0 0)
         have kt := blk_alloc hkt' (billO c 0 0 0)
         have gb0 := heap_alloc_new wr (billO c 0 0 0)
         go_wp2_with fail
         obtain ⟨gb, hgb⟩ : ∃ b, b = wr.heap.size := ⟨_, rfl⟩
         obtain ⟨W0, hW0⟩ : ∃ W, W = wr.alloc (billO c 0 0 0) := ⟨_, rfl⟩
         have HB0 := Lib.hid (show Below w.heap.size w W0 by rw [hW0]; exact B0)
         have kt0 : W0.heap[bt]? = some (trfO T) := by rw [hW0]; exact kt
         have gbi : W0.heap[gb]? = some (billO c 0 0 0) := by rw [hW0, hgb]; exact gb0
         have HOW0 := Lib.hid (show W0.ownsRow (bt + 1) 48 4 (.slice (some ⟨g, 0, none⟩) L cl) L (bills (billsTo T rs k)) by rw [hW0]; exact row_keep HOW.out (λ b hb => Below.heap_alloc _ _ b hb))
         have hgb1 : w.heap.size <= gb := by rw [hgb]; exact hzb
         have hgb2 : bt ≠ gb := by omega
         have hgb3 : g ≠ gb := by omega
         have HGI := Lib.hid (show InSt W0 gb c 0 0 0 W0 from ⟨gbi, World.grownBy.refl _ _⟩)
         have HK0 := Lib.hid kt0
         have hzW : W0.heap.size = gb + 1 := by rw [hW0, hgb]; simp
         rw [<- hgb, <- hW0]
         clear hgb hW0 B0 kt gb0 gbi kt0 hkt' HKT HB HOW B hzb hbtz
         go_loopw [9] (λ i wr => ∃ j : Nat, j <= n /\ i = .int .i64 j /\ InSt W0 gb c (sumR (pickT c) (rs.take j)) (sumR (pickM c) (rs.take j)) (sumR (pickG T c) (rs.take j)) wr) (λ i _ => n - (intOf i).toNat)
         case atStart => exact ⟨0, Nat.zero_le _, rfl, HGI.out⟩
         case round =>
           obtain ⟨j, hj, rfl, hin⟩ := hrel
           have HIN := Lib.hid hin
           clear hin
           have gbz := blk_lt HIN.out.blk
           have HB2 := Lib.hid (show Below w.heap.size w wr from HB0.out.trans ⟨HIN.out.gr.os, HIN.out.gr.tape, HIN.out.gr.output, HIN.out.gr.size, λ i hi => HIN.out.gr.block i (by have := HB0.out.size; omega) (by intro e; injection e with e; omega)⟩)
           by_cases hlt : j < n
           . obtain ⟨b, off, d, hA, _, _, h3, hxk, hv0, hv1, hv2, hv3, hv4, hv5, hv6⟩ := (h.below HB2.out).rec7 hlt
             subst hA
             have hbg : b ≠ gb := by
               obtain ⟨b2, off2, e2, _, _, h4, _⟩ := h.at_ (by omega)
               injection e2 with e2
               injection e2 with e3 e4
               omega
             have HXK := Lib.hid hxk
             have HR := Lib.hid (HV.out.2 d (List.mem_of_getElem? hxk))
             have i0 : (0 : Int) <= (j : Int) := by omega
             have i1 : (j : Int) < (n : Int) := by omega
             have HT1 := Lib.hid (sumR_succ (f := pickT c) hxk)
             have HM1 := Lib.hid (sumR_succ (f := pickM c) hxk)
             have HG1 := Lib.hid (sumR_succ (f := pickG T c) hxk)
             clear hxk
             cases hq : (d.c == c)
             . have hcc : ¬ (d.c = c /\ isDone d = true) := λ x => by rw [x.1] at hq; simp at hq
               have HS := Lib.hid (show InSt W0 gb c (sumR (pickT c) (rs.take (j + 1))) (sumR (pickM c) (rs.take (j + 1))) (sumR (pickG T c) (rs.take (j + 1))) wr by
                 rw [HT1.out, HM1.out, HG1.out, show pickT c d = 0 from if_neg hcc, show pickM c d = 0 from if_neg hcc, show pickG T c d = 0 from if_neg hcc, Int.add_zero, Int.add_zero, Int.add_zero]; exact HIN.out)
               clear hcc h hv1 hv2 hv3 hv4 hv5 h3
               go_wp2
               go_roundw
               case rel => exact ⟨j + 1, by omega, by go_num, HS.out⟩
               case measure => simp [intOf]; omega
             . cases hdn : (d.e.toList == [100, 111, 110, 101])
               . have hcc : ¬ (d.c = c /\ isDone d = true) := λ x => by unfold isDone at x; rw [hdn] at x; cases x.2
                 have HS := Lib.hid (show InSt W0 gb c (sumR (pickT c) (rs.take (j + 1))) (sumR (pickM c) (rs.take (j + 1))) (sumR (pickG T c) (rs.take (j + 1))) wr by
                   rw [HT1.out, HM1.out, HG1.out, show pickT c d = 0 from if_neg hcc, show pickM c d = 0 from if_neg hcc, show pickG T c d = 0 from if_neg hcc, Int.add_zero, Int.add_zero, Int.add_zero]; exact HIN.out)
                 clear hcc h hv1 hv2 hv3 hv4 hv5 h3
                 go_wp2
                 go_roundw
                 case rel => exact ⟨j + 1, by omega, by go_num, HS.out⟩
                 case measure => simp [intOf]; omega
               . have hcc : d.c = c /\ isDone d = true := ⟨by simpa using hq, hdn⟩
                 have HTB := Lib.hid (talk_bound HR.out)
                 have HCB := Lib.hid (chargeF_bounds (m := talkD d) HT.out.symm (HTB.out.2 hcc.2) HTB.out.1)
                 have hbd := billFor_bounds HO.out j c
                 simp only [billFor] at hbd
                 rw [show pickT c d = 1 from if_pos hcc] at HT1
                 rw [show pickM c d = talkD d from if_pos hcc] at HM1
                 rw [show pickG T c d = chargeF T.f T.s T.p (talkD d) from if_pos hcc] at HG1
                 obtain ⟨T0, hT0⟩ : ∃ x, x = sumR (pickT c) (rs.take j) := ⟨_, rfl⟩
                 obtain ⟨M0, hM0⟩ : ∃ x, x = sumR (pickM c) (rs.take j) := ⟨_, rfl⟩
                 obtain ⟨G0, hG0⟩ : ∃ x, x = sumR (pickG T c) (rs.take j) := ⟨_, rfl⟩
                 obtain ⟨tk, htk⟩ : ∃ x, x = talkD d := ⟨_, rfl⟩
                 obtain ⟨cg, hcg⟩ : ∃ x, x = chargeF T.f T.s T.p tk := ⟨_, rfl⟩
                 have HTK := Lib.hid htk
                 have HCG := Lib.hid hcg
                 rw [<- hT0, <- hM0, <- hG0] at hbd
                 rw [<- hT0] at HT1
                 rw [<- hM0, <- htk] at HM1
                 rw [<- hG0, <- htk, <- hcg] at HG1
                 rw [<- hT0, <- hM0, <- hG0] at HIN
                 rw [<- htk] at HTB HCB
                 rw [<- hcg] at HCB
                 have htb := HTB.out
                 have hcb := HCB.out
                 have htk0 := htb.2 hcc.2
                 have X1 := (IntWalk.i64_left _).trans (IntWalk.wrap64_in (T0 + 1) (by omega))
                 have X2 := (IntWalk.i64_left _).trans (IntWalk.wrap64_in (M0 + tk) (by omega))
                 have X3 := (IntWalk.i64_left _).trans (IntWalk.wrap64_in (G0 + cg) (by omega))
                 have e1 := blk_cell HIN.out.blk 1
                 have f1 := blk_frozen' HIN.out.blk 1
                 clear hT0 hM0 hG0 htk hcg hcc hbd htb hcb htk0 hv1 hv2 hv3 hv4 hv5 h3
                 go_wp2_with fail
                 have D1 : InSt W0 gb c (T0 + 1) M0 G0 (wr.setCell ⟨gb, 1, none⟩ (.int .i64 (T0 + 1))) := HIN.out.set rfl
                 obtain ⟨wa, hwa⟩ : ∃ x, x = wr.setCell ⟨gb, 1, none⟩ (.int .i64 (T0 + 1)) := ⟨_, rfl⟩
                 rw [<- hwa] at D1 ⊢
                 clear hwa e1 f1 hv0 hv6 HIN
                 have gbz1 := blk_lt D1.blk
                 have BA : Below w.heap.size w wa := HB0.out.trans ⟨D1.gr.os, D1.gr.tape, D1.gr.output, D1.gr.size, λ i hi => D1.gr.block i (by have := HB0.out.size; omega) (by intro e; injection e with e; omega)⟩
                 obtain ⟨b', off', d', hA', _, _, h3', hxk', hv0, hv1, hv2, hv3, hv4, hv5, hv6⟩ := (h.below BA).rec7 hlt
                 injection hA' with hA'
                 injection hA' with hA1 hA2
                 subst hA1 hA2
                 have hdd : d = d' := by have := HXK.out; rw [hxk'] at this; injection this with this; exact this.symm
                 subst hdd
                 have kg := D1.blk
                 have eg := blk_cell kg
                 have fg := blk_frozen' kg
                 have zg := blk_lt kg
                 have HD1 := Lib.hid D1
                 clear D1 hxk' h3'
                 go_cut [] from 51 to 58 (λ wx => InSt W0 gb c (T0 + 1) (M0 + tk) G0 wx)
                 case first =>
                   go_region_with (go_at_call 42; refine (spec_TalkMinutes _ _ _ _ _ _ _ _).mono ?_; rintro x w3 ⟨rfl, b3⟩; rw [show talkF d.c d.l d.o d.f d.h d.t d.e.toList = tk from HTK.out.symm]; have D3 := (HD1.out.drew).below b3; have kg := D3.blk; have eg := blk_cell kg; have fg := blk_frozen' kg; have zg := blk_lt kg)
                   all_goals
                     go_wp2_with fail
                     go_meet
                     exact D3.set rfl
                 case rest =>
                   clear kg eg fg zg hv0 hv1 hv2 hv3 hv4 hv5 hv6
                   have D4 := hcut
                   clear hcut
                   go_upto_region 14 with fail
                   have gbz2 := blk_lt D4.blk
                   have BC : Below w.heap.size w wc := HB0.out.trans ⟨D4.gr.os, D4.gr.tape, D4.gr.output, D4.gr.size, λ i hi => D4.gr.block i (by have := HB0.out.size; omega) (by intro e; injection e with e; omega)⟩
                   obtain ⟨b', off', d', hA', _, _, h3', hxk', hv0, hv1, hv2, hv3, hv4, hv5, hv6⟩ := (h.below BC).rec7 hlt
                   injection hA' with hA'
                   injection hA' with hA1 hA2
                   subst hA1 hA2
                   have hdd : d = d' := by have := HXK.out; rw [hxk'] at this; injection this with this; exact this.symm
                   subst hdd
                   have kt4 := D4.other HK0.out hgb2
                   rw [hbt] at kt4
                   have et0 := blk_cell kt4 0
                   have et1 := blk_cell kt4 1
                   have et2 := blk_cell kt4 2
                   have kg := D4.blk
                   have eg := blk_cell kg
                   have fg := blk_frozen' kg
                   have zg := blk_lt kg
                   have HNN := Lib.hid (HTB.out.2 hdn)
                   clear hxk' h3' gbz2 BC
                   go_region_with (first
                     | (go_at_call 42; refine (spec_TalkMinutes _ _ _ _ _ _ _ _).mono ?_; rintro x w3 ⟨rfl, b3⟩; rw [show talkF d.c d.l d.o d.f d.h d.t d.e.toList = tk from HTK.out.symm]; have D4 := (D4.drew).below b3; have kt4 := (blk_below b3 (blk_drew kt4)).1; have et0 := blk_cell kt4 0; have et1 := blk_cell kt4 1; have et2 := blk_cell kt4 2; have kg := D4.blk; have eg := blk_cell kg; have fg := blk_frozen' kg; have zg := blk_lt kg)
                     | (go_at_call 43; refine (spec_l8Charge _ _ _ _ _ HT.out.symm HNN.out HTB.out.1).mono ?_; rintro x w6 ⟨rfl, b6⟩; rw [show chargeF T.f T.s T.p tk = cg from HCG.out.symm]; have D4 := D4.below b6; have kg := D4.blk; have eg := blk_cell kg; have fg := blk_frozen' kg; have zg := blk_lt kg))
                   all_goals
                     have HD7 := Lib.hid (show InSt W0 gb c (sumR (pickT c) (rs.take (j + 1))) (sumR (pickM c) (rs.take (j + 1))) (sumR (pickG T c) (rs.take (j + 1))) (w6.setCell ⟨gb, 3, none⟩ (.int .i64 (G0 + cg))) by rw [HT1.out, HM1.out, HG1.out]; exact D4.set rfl)
                     clear D4 kg eg fg
                     go_wp2
                     go_roundw
                     case rel => exact ⟨j + 1, by omega, by go_num, HD7.out⟩
                     case measure => simp [intOf]; omega
           . have e : j = n := by omega
             subst e
             have D : InSt W0 gb c (billFor T rs c).t (billFor T rs c).m (billFor T rs c).g wr := by
               have := HIN.out
               rw [List.take_of_length_le (by rw [hl.out]; exact Nat.le_refl _)] at this
               exact this
             have e1 := blk_cell D.blk 1
             clear h
             by_cases hp : 0 < (billFor T rs c).t
             . have hpb : decide (0 < (billFor T rs c).t) = true := decide_eq_true hp
               have e0 := blk_cell D.blk 0
               have e2 := blk_cell D.blk 2
               have e3 := blk_cell D.blk 3
               have HD := Lib.hid D
               have HN := Lib.hid (show billsTo T rs (k + 1) = billsTo T rs k ++ [billFor T rs c] by rw [HC.out]; exact billsTo_some (by rw [<- HC.out]; exact hp))
               have hrow : wr.ownsRow (bt + 1) 48 4 (.slice (some ⟨g, 0, none⟩) L cl) L (bills (billsTo T rs k)) := HOW0.out.kept D.gr (.inr (by simp [Value.ownBlock]; exact hgb3))
               have HRW := Lib.hid hrow
               have HKT := Lib.hid (D.other HK0.out hgb2)
               have hbz := blk_lt HKT.out
               obtain ⟨hi0, hz0, hz1, hz2⟩ := HI.out
               have HH := Lib.hid hi0
               have HX2 := Lib.hid hc2
               clear hi0 hrow D hp gbz
               go_wp2_with (at_builtin; refine wpList_app _ rfl (.tmp 74) (.tmp 76) 35 rfl (bt + 1) 48 i0 zeroBill 4 32 Try.underlying35 HH.out hz0 hz1 hz2 rfl (by decide) (.slice (some ⟨g, 0, none⟩) L cl) L (bills (billsTo T rs k)) rfl (row_keep HRW.out ?c1) (by simp) ⟨_, 0, none⟩ 1 1 (BillD.cells (billFor T rs c)) rfl rfl ?c2 (by intro u hu; simp [BillD.cells] at hu; rcases hu with rfl | rfl | rfl | rfl <;> rfl) ?c5 ?c6 ?c7 ?_; (case c1 => exact λ b hb => Below.heap_alloc _ _ b hb); (case c2 => exact World.news_of_block (cs := (BillD.cells (billFor T rs c)).toArray) (heap_new' _ _ (by simp))); (case c5 => unfold maxLen; omega); (case c6 => omega); (case c7 => (simp; omega)); intro g1 c1 w1 hown1 hgr1 B1; have HO1 := Lib.hid hown1; have HB1 := Lib.hid B1; clear hown1 hgr1 B1)
               go_roundw
               case rel =>
                 refine ⟨k + 1, g1, L + 1, c1, by have := HC.out; omega, by rw [HC.out]; push_cast; rfl, by rw [HN.out, HL.out]; simp, rfl, ?_, ?_, ?_⟩
                 . exact (below_al HB2.out _).trans (HB1.out.mono (by omega))
                 . exact (HB1.out.block bt (by omega)).trans (blk_alloc HKT.out _)
                 . rw [HN.out, bills_snoc]; exact HO1.out
               case measure => have := HC.out; simp [intOf]; omega
             . have hpb : decide (0 < (billFor T rs c).t) = false := decide_eq_false hp
               have HN := Lib.hid (show billsTo T rs (k + 1) = billsTo T rs k by exact billsTo_none (by rw [<- HC.out]; exact hp))
               have HRW := Lib.hid (show wr.ownsRow (bt + 1) 48 4 (.slice (some ⟨g, 0, none⟩) L cl) L (bills (billsTo T rs k)) from HOW0.out.kept D.gr (.inr (by simp [Value.ownBlock]; exact hgb3)))
               have HKT := Lib.hid (D.other HK0.out hgb2)
               clear D hp
               go_wp2
               go_roundw
               case rel => exact ⟨k + 1, g, L, cl, by have := HC.out; omega, by rw [HC.out]; push_cast; rfl, by rw [HN.out]; exact HL.out, rfl, HB2.out, HKT.out, by rw [HN.out]; exact HRW.out⟩
               case measure => have := HC.out; simp [intOf]; omega
       . have e : k = 99 := by omega
         subst e
         clear h
         go_wp2
         go_ret2
         obtain ⟨A', c', e', o⟩ := ownV_of_row HOW.out (by decide)
         injection e' with e1 e2 e3
         subst e1 e3
         rw [HO.out, HM.out]
         exact ⟨_, _, _, rfl, o.wide (by omega) (Nat.le_refl _), HB.out⟩
end Go.Proofs.Ytjcpjijihajopaa
namespace Go.Proofs.Ytjcpjijihajopaa
open Go.RowKit Go.Mt Go.Conc Go.Tt Go.Maps
end Go.Proofs.Ytjcpjijihajopaa
namespace Go.Proofs.Ytjcpjijihajopaa
open Go.RowKit Go.Mt Go.Conc Go.Tt Go.Maps
theorem recs_plain {rs : List RecD} : ∀ v ∈ recs rs, plainV v := by
 intro v hv
 obtain ⟨d, _, hd⟩ := List.mem_flatMap.1 hv
 simp only [RecD.cells, List.mem_cons, List.not_mem_nil, or_false] at hd
 rcases hd with rfl | rfl | rfl | rfl | rfl | rfl | rfl
 all_goals first
   | exact .inl ⟨_, _, rfl⟩
   | exact .inr (.inl ⟨_, rfl⟩)
end Go.Proofs.Ytjcpjijihajopaa
namespace Go.Proofs.Ytjcpjijihajopaa
open Go.RowKit
theorem Slc.billsLen {w : World} {lo hi n c : Nat} {A : Option Addr} {ds : List BillD} (h : Slc w lo hi 4 A n c (bills ds)) : ds.length = n := by
 have h1 := h.len; have h2 := flat_len BillD.cells (s := 4) (λ _ => rfl) ds
 unfold bills at h1; omega
theorem Slc.billsAt {w : World} {lo hi n c : Nat} {A : Option Addr} {ds : List BillD} (h : Slc w lo hi 4 A n c (bills ds)) {k : Nat} (hk : k < n) :
   ∃ b off d, A = some ⟨b, off, none⟩ /\ lo <= b /\ b < hi /\ b < w.heap.size /\ ds[k]? = some d /\ w.cell? ⟨b, off + k * 4, none⟩ = some (.int .i64 d.c) /\ w.cell? ⟨b, off + k * 4 + 1, none⟩ = some (.int .i64 d.t) /\ w.cell? ⟨b, off + k * 4 + 2, none⟩ = some (.int .i64 d.m) /\ w.cell? ⟨b, off + k * 4 + 3, none⟩ = some (.int .i64 d.g) := by
 have hl := h.billsLen
 have hx : ds[k]? = some ds[k] := List.getElem?_eq_getElem (by omega)
 have g : ∀ i, i < 4 -> (bills ds)[k * 4 + i]? = (ds[k].cells)[i]? := λ i hi => by
   have := flat_get BillD.cells (s := 4) (λ _ => rfl) ds k i hi
   rw [hx] at this; exact this
 obtain ⟨b, off, rfl, h1, h2, h3, h4⟩ := h.cells hk
 exact ⟨b, off, ds[k], rfl, h1, h2, h3, hx, h4 0 _ (g 0 (by decide)), by rw [Nat.add_assoc]; exact h4 1 _ (g 1 (by decide)), by rw [Nat.add_assoc]; exact h4 2 _ (g 2 (by decide)), by rw [Nat.add_assoc]; exact h4 3 _ (g 3 (by decide))⟩
end Go.Proofs.Ytjcpjijihajopaa
namespace Go.Proofs.Ytjcpjijihajopaa
open Go.RowKit
end Go.Proofs.Ytjcpjijihajopaa
namespace Go.Proofs.Ytjcpjijihajopaa
open Go.RowKit
end Go.Proofs.Ytjcpjijihajopaa
namespace Go.Proofs.Ytjcpjijihajopaa
open Go.RowKit Go.Mt Go.Conc Go.Tt Go.Maps
end Go.Proofs.Ytjcpjijihajopaa
namespace Go.Proofs.Ytjcpjijihajopaa
open Go.RowKit
abbrev MB : TypeId := 65
theorem zeroB (w : World) : (zeroValue 48).run Try.prog w = .ok zeroBill w := by kernel_rfl
theorem IntMap.keep {w w' : World} {b : Nat} {ps : List (Int × Value)} (h : IntMap w b ps) (e : w'.heap[b]? = w.heap[b]?) : IntMap w' b ps := by
 obtain ⟨es, cl, hb, he⟩ := h
 exact ⟨es, cl, e.trans hb, he⟩
theorem IntMap.lt {w : World} {b : Nat} {ps : List (Int × Value)} (h : IntMap w b ps) : b < w.heap.size := by
 obtain ⟨es, cl, hb, he⟩ := h
 exact blk_lt hb
theorem im_upd {W : World} {gm : Nat} {ps : List (Int × Value)} (h : IntMap W gm ps) (c : Int) (v : Value) :
   ∃ W', (Instr.mapUpdate MB (.map (some gm)) (.int .i64 c) v).run Try.prog W = .ok () W' /\ IntMap W' gm (putI c v ps) /\ W.grownBy W' (some gm) := by
 obtain ⟨es, cl, hr, hm⟩ := run_update_im Try.underlying65 Try.underlying3 h (c := c) v
 exact ⟨_, hr, hm, ⟨rfl, rfl, rfl, by simp, λ i _ hne => by simp; rw [Array.getElem?_setIfInBounds_ne (λ e => hne (by rw [e]))]⟩⟩
theorem im_look {W : World} {gm : Nat} {ps : List (Int × Value)} (h : IntMap W gm ps) (c : Int) (ok : Bool) :
   (Instr.lookup MB (.map (some gm)) (.int .i64 c) ok).run Try.prog W = .ok (if ok then .tuple #[(lookI c ps).getD zeroBill, .bool (lookI c ps).isSome] else (lookI c ps).getD zeroBill) W :=
 run_lookup_im Try.underlying65 Try.underlying3 (zeroB W) h ok
set_option maxHeartbeats 8000000 in
set_option maxRecDepth 20000 in
theorem bills1_any (T : Trf) (d : RecD) (b : BillD) (x : Int) (g2 g6 gm : Nat) (ps : List (Int × Value)) (w : World) (hT : T.ok = true) (hr0 : recOk d = true) (h2 : w.heap[g2]? = some (trfO T)) (h6 : w.heap[g6]? = some (.cells #[.map (some gm)] MB)) (hm : IntMap w gm ps) (n2 : g2 ≠ gm) (n6 : g6 ≠ gm)
   (hdn : isDone d = true) (hc : (lookI d.c ps).getD zeroBill = .agg #[.int .i64 x, .int .i64 b.t, .int .i64 b.m, .int .i64 b.g]) (hb : 0 <= b.t /\ b.t <= 60 /\ 0 <= b.m /\ b.m <= 216000 /\ 0 <= b.g /\ b.g <= 219600000) :
   Calls Try.prog 46 #[.agg #[.int .i64 d.c, .int .i64 d.l, .int .i64 d.o, .int .i64 d.f, .int .i64 d.h, .int .i64 d.t, .string d.e], .pointer (some ⟨g6, 0, none⟩), .pointer (some ⟨g2, 0, none⟩)] w λ e w' => e = .returned (.tuple #[]) /\ IntMap w' gm (putI d.c (BillD.val ⟨d.c, b.t + 1, b.m + talkD d, b.g + chargeF T.f T.s T.p (talkD d)⟩) ps) /\ w.grownBy w' (some gm) := by
 have hdn' : (d.e.toList == [100, 111, 110, 101]) = true := hdn
 have htb := talk_bound hr0
 have hcb := chargeF_bounds (m := talkD d) hT (htb.2 hdn) htb.1
 have htk0 := htb.2 hdn
 obtain ⟨tk, htk⟩ : ∃ y, y = talkD d := ⟨_, rfl⟩
 obtain ⟨cg, hcg⟩ : ∃ y, y = chargeF T.f T.s T.p tk := ⟨_, rfl⟩
 rw [<- htk] at htb hcb htk0 ⊢
 rw [<- hcg] at hcb ⊢
 have HTK := Lib.hid htk
 have HCG := Lib.hid hcg
 have htk1 := htb.1
 clear htk hcg
 have X1 := (IntWalk.i64_left _).trans (IntWalk.wrap64_in (b.t + 1) (by omega))
 have X2 := (IntWalk.i64_left _).trans (IntWalk.wrap64_in (b.m + tk) (by omega))
 have X3 := (IntWalk.i64_left _).trans (IntWalk.wrap64_in (b.g + cg) (by omega))
 have HB1 := Lib.hid (And.intro htk0 (And.intro htb hcb))
 clear hcb htb hb htk0 htk1
 obtain ⟨o, ho⟩ : ∃ o : Obj, o = .cells #[.int .i64 d.c, .int .i64 d.l, .int .i64 d.o, .int .i64 d.f, .int .i64 d.h, .int .i64 d.t, .string d.e] 50 := ⟨_, rfl⟩
 obtain ⟨r, hrr⟩ : ∃ r, r = w.heap.size := ⟨_, rfl⟩
 have hr : (w.alloc o).heap[r]? = some (.cells #[.int .i64 d.c, .int .i64 d.l, .int .i64 d.o, .int .i64 d.f, .int .i64 d.h, .int .i64 d.t, .string d.e] 50) := by rw [<- ho, hrr]; exact heap_alloc_new _ _
 have hm1 : IntMap (w.alloc o) gm ps := hm.keep (Below.heap_alloc w o gm hm.lt)
 have h21 := blk_alloc h2 o
 have h61 := blk_alloc h6 o
 have hzw : (w.alloc o).heap.size = r + 1 := by rw [hrr]; simp
 have hgm := hm.lt
 have hg2 := blk_lt h2
 have hg6 := blk_lt h6
 rw [<- hrr] at hgm hg2 hg6
 have G0 : w.grownBy (w.alloc o) (some gm) := World.grownBy_alloc w o _
 have HR := Lib.hid hr
 have HG := Lib.hid G0
 have H2 := Lib.hid h21
 have H6 := Lib.hid h61
 have HM := Lib.hid hm1
 have HO := Lib.hid ho
 have HRR := Lib.hid hrr
 have HC := Lib.hid hc
 have HZ := Lib.hid hzw
 clear hm h2 h6 hr hm1 h21 h61 G0 ho hrr hc hzw
 go_enter Try.func46, Try.ntmps46
 go_wp2_with fail
 rw [<- HO.out, <- HRR.out]
 refine (impl_TalkMinutes _ _ _ _ _ _ _ _).mono ?_
 rintro e w2 ⟨rfl, b2⟩
 have ht2 : talkF d.c d.l d.o d.f d.h d.t d.e.toList = tk := HTK.out.symm
 rw [ht2]
 have hm2 := HM.out.keep (b2.block gm HM.out.lt)
 have h62 := (blk_below b2 H6.out).1
 have h22 := (blk_below b2 H2.out).1
 have hr2 := (blk_below b2 HR.out).1
 have hz2 : r + 1 <= w2.heap.size := by have := b2.size; have := HZ.out; omega
 have HG2 := Lib.hid (show (w.alloc o).grownBy w2 (some gm) from ⟨b2.os, b2.tape, b2.output, b2.size, λ i hi _ => b2.block i hi⟩)
 have e6 := blk_cell h62 0
 have er := blk_cell hr2 0
 have er1 := blk_cell (blk_alloc hr2 (billO x b.t b.m b.g)) 0
 have hlk := im_look hm2 d.c false
 rw [if_neg (by simp), HC.out] at hlk
 obtain ⟨nb, hnb⟩ : ∃ y, y = w2.heap.size := ⟨_, rfl⟩
 have D0 : InSt (w2.alloc (billO x b.t b.m b.g)) nb x b.t b.m b.g (w2.alloc (billO x b.t b.m b.g)) := ⟨by rw [hnb]; exact heap_alloc_new _ _, World.grownBy.refl _ _⟩
 have HD0 := Lib.hid D0
 have HNB := Lib.hid hnb
 have HM2 := Lib.hid hm2
 have H22 := Lib.hid h22
 have H62 := Lib.hid h62
 have HR2 := Lib.hid hr2
 have hm2' := hm2
 clear b2 hm2 h62 h22 hr2 D0 hnb
 go_upto_region 7 with fail
 rw [<- HNB.out]
 obtain ⟨W3, hW3⟩ : ∃ y, y = w2.alloc (billO d.c (b.t + 1) (b.m + tk) b.g) := ⟨_, rfl⟩
 rw [<- hW3]
 have kg : W3.heap[nb]? = some (billO d.c (b.t + 1) (b.m + tk) b.g) := by rw [hW3, HNB.out]; exact heap_alloc_new _ _
 have hmz := hm2'.lt
 have HM3 := Lib.hid (show IntMap W3 gm ps by rw [hW3]; exact HM2.out.keep (Below.heap_alloc _ _ gm hmz))
 have kt : W3.heap[g2]? = some (trfO T) := by rw [hW3]; exact blk_alloc H22.out _
 have H63 := Lib.hid (show W3.heap[g6]? = some (.cells #[.map (some gm)] MB) by rw [hW3]; exact blk_alloc H62.out _)
 have HR3 := Lib.hid (show W3.heap[r]? = some (.cells #[.int .i64 d.c, .int .i64 d.l, .int .i64 d.o, .int .i64 d.f, .int .i64 d.h, .int .i64 d.t, .string d.e] 50) by rw [hW3]; exact blk_alloc HR2.out _)
 have HG3 := Lib.hid (show w2.grownBy W3 (some gm) by rw [hW3]; exact World.grownBy_alloc w2 _ _)
 have n2b : g2 ≠ nb := by have := HNB.out; omega
 have n6b : g6 ≠ nb := by have := HNB.out; omega
 have nrb : r ≠ nb := by have := HNB.out; omega
 have nmb : gm ≠ nb := by have := HNB.out; omega
 have HIN := Lib.hid (show InSt W3 nb d.c (b.t + 1) (b.m + tk) b.g W3 from ⟨kg, World.grownBy.refl _ _⟩)
 have HTT := Lib.hid kt
 have htb0 := HB1.out.1
 have htb1 := HB1.out.2.1.1
 have eg := blk_cell kg
 have fg := blk_frozen' kg
 have zg := blk_lt kg
 have et0 := blk_cell kt 0
 have et1 := blk_cell kt 1
 have et2 := blk_cell kt 2
 clear hW3 hz2 hgm hg2 hg6 hmz hlk e6 er er1 hm2'
 go_cut [] from 27 to 33 (λ wx => InSt W3 nb d.c (b.t + 1) (b.m + tk) (b.g + cg) wx)
 case first =>
   go_region_with (go_at_call 27; refine (impl_ChargeOf_yes _ _ _ _ _ hT htb0 htb1).mono ?_; rintro y w3 ⟨rfl, b3⟩; rw [show chargeF T.f T.s T.p tk = cg from HCG.out.symm]; have D3 := (HIN.out.drew).below b3; have kg := D3.blk; have eg := blk_cell kg; have fg := blk_frozen' kg; have zg := blk_lt kg)
   all_goals
     go_wp2_with fail
     go_meet
     exact D3.set rfl
 case rest =>
   clear kg eg fg zg et0 et1 et2 kt
   have D4 := hcut
   clear hcut
   have kg := D4.blk
   have g0 := blk_cell kg 0
   have g1 := blk_cell kg 1
   have g2' := blk_cell kg 2
   have g3 := blk_cell kg 3
   have e6 := blk_cell (D4.other H63.out n6b) 0
   have er := blk_cell (D4.other HR3.out nrb) 0
   have hm4 := HM3.out.keep (D4.gr.block gm HM3.out.lt (λ e => nmb (by injection e)))
   obtain ⟨w5, hup, hm5, hg5⟩ := im_upd hm4 d.c (BillD.val ⟨d.c, b.t + 1, b.m + tk, b.g + cg⟩)
   simp only [BillD.val] at hup
   have K1 := Lib.hid hm5
   have K2 := Lib.hid hg5
   have K3 := Lib.hid (show w2.grownBy wc (some gm) from ⟨D4.gr.os.trans HG3.out.os, D4.gr.tape.trans HG3.out.tape, D4.gr.output.trans HG3.out.output, Nat.le_trans HG3.out.size D4.gr.size, λ i hi hne => (D4.gr.block i (by have := HG3.out.size; omega) (λ e => by injection e with e; have := HNB.out; omega)).trans (HG3.out.block i hi hne)⟩)
   clear hm5 hg5 hm4 kg D4
   go_wp2
   exact bodyPost_end (v := .tuple #[]) (results_none rfl _ _ _) rfl ⟨rfl, K1.out, (HG.out.trans HG2.out).trans (K3.out.trans K2.out)⟩
theorem bills1_no (d : RecD) (g2 g6 : Nat) (w : World) (hdn : isDone d = false) :
   Calls Try.prog 46 #[.agg #[.int .i64 d.c, .int .i64 d.l, .int .i64 d.o, .int .i64 d.f, .int .i64 d.h, .int .i64 d.t, .string d.e], .pointer (some ⟨g6, 0, none⟩), .pointer (some ⟨g2, 0, none⟩)] w λ e w' => e = .returned (.tuple #[]) /\ Below w.heap.size w w' := by
 have hdn' : (d.e.toList == [100, 111, 110, 101]) = false := hdn
 go_enter Try.func46, Try.ntmps46
 go_wp2
 exact bodyPost_ret (v := .tuple #[]) (results_none rfl _ _ _) rfl ⟨rfl, below_al (Below.refl _ _) _⟩
end Go.Proofs.Ytjcpjijihajopaa
namespace Go.Proofs.Ytjcpjijihajopaa
open Go.RowKit Go.Mt Go.Conc Go.Tt Go.Maps
structure BillsI (T : Trf) (rs : List RecD) (g2 g6 gm B : Nat) (wb : World) (k : Nat) (w : World) : Prop where
 c2 : w.heap[g2]? = some (trfO T)
 c6 : w.heap[g6]? = some (.cells #[.map (some gm)] MB)
 m : ∃ ps, IntMap w gm ps /\ BillsIn T (rs.take k) ps
 size : wb.heap.size <= w.heap.size
 old : ∀ b, b < B -> w.heap[b]? = wb.heap[b]?
theorem billsI {T : Trf} {rs : List RecD} {g2 g6 gm B : Nat} {wb : World} (ho : billOk T rs = true) (n2 : g2 ≠ gm) (n6 : g6 ≠ gm) (hB : B <= gm /\ B <= wb.heap.size) :
   EachI 46 #[.pointer (some ⟨g6, 0, none⟩), .pointer (some ⟨g2, 0, none⟩)] rs (BillsI T rs g2 g6 gm B wb) := by
 have hh := ho
 simp only [billOk, Bool.and_eq_true] at hh
 obtain ⟨hT, hv⟩ := hh
 obtain ⟨h60, hall⟩ := validR_parts hv
 refine ⟨λ k w T e h => ⟨h.c2, h.c6, h.m, h.size, h.old⟩, λ k w cs T h => ?_, λ k w d hd h => ?_⟩
 . obtain ⟨ps, h1, h2⟩ := h.m
   have hz := h.size
   exact ⟨blk_alloc h.c2 _, blk_alloc h.c6 _, ⟨ps, h1.keep (heap_push_lt h1.lt), h2⟩, by rw [size_push]; omega, λ b hb => (heap_push_lt (by omega)).trans (h.old b hb)⟩
 . obtain ⟨ps, h1, h2⟩ := h.m
   have hr := hall d (List.mem_of_getElem? hd)
   have hbd := billFor_bounds ho k d.c
   cases hdn : isDone d with
   | false =>
     refine (bills1_no d g2 g6 w hdn).mono ?_
     rintro e w' ⟨rfl, hb⟩
     have hz := h.size
     exact ⟨_, rfl, (blk_below hb h.c2).1, (blk_below hb h.c6).1, ⟨ps, h1.keep (hb.block gm h1.lt), billsIn_skip h2 hd hdn⟩, Nat.le_trans hz hb.size, λ b hbb => (hb.block b (by omega)).trans (h.old b hbb)⟩
   | true =>
     obtain ⟨x, hx⟩ := billsIn_get h2 d.c
     refine (bills1_any T d (billFor T (rs.take k) d.c) x g2 g6 gm ps w hT hr h.c2 h.c6 h1 n2 n6 hdn hx hbd).mono ?_
     rintro e w' ⟨rfl, hm, hg⟩
     exact ⟨_, rfl, (hg.block _ (blk_lt h.c2) (λ e => n2 (by injection e))).trans h.c2, (hg.block _ (blk_lt h.c6) (λ e => n6 (by injection e))).trans h.c6, ⟨_, hm, billsIn_put h2 hd hdn hbd.1⟩, Nat.le_trans h.size hg.size, λ b hb => (hg.block b (by have := h.size; omega) (λ e => by injection e with e; omega)).trans (h.old b hb)⟩
end Go.Proofs.Ytjcpjijihajopaa
namespace Go.Proofs.Ytjcpjijihajopaa
open Go.RowKit Go.Mt Go.Conc Go.Tt Go.Maps
noncomputable def bodyBS : Go.Code := (Try.f20.body).getD .skip
noncomputable def rBS0 : Go.Code := match bodyBS with | .seq (a) _ => a | _ => .skip
noncomputable def rBS1 : Go.Code := match bodyBS with | .seq _ (.seq (.seq (a) _) _) => a | _ => .skip
noncomputable def rBS2 : Go.Code := match bodyBS with | .seq _ (.seq (.seq _ (.cond _ (.seq (a) _) _)) _) => a | _ => .skip
noncomputable def rBS3 : Go.Code := match bodyBS with | .seq _ (.seq _ (.seq (a) _)) => a | _ => .skip
noncomputable def rBS4 : Go.Code := match bodyBS with | .seq _ (.seq _ (.seq _ (.seq (a) _))) => a | _ => .skip
noncomputable def kBS5 : Go.Code := match bodyBS with | .seq _ (.seq _ (.seq _ (.seq _ (a)))) => a | _ => .skip
theorem bodyBS_eq : bodyBS = .seq (rBS0) (.seq (.seq (rBS1) (.cond (.tmp 18) (.seq (rBS2) (.ret)) (.skip))) (.seq (rBS3) (.seq (rBS4) (kBS5)))) := rfl
noncomputable def opsBS4 : Array Oper := match rBS4 with | .region _ ops _ => ops | _ => #[]
theorem rBS4_eq : rBS4 = .region 4 opsBS4 false := rfl
theorem opsBS4_range : List.range opsBS4.size = [0, 1, 2] := rfl
abbrev oBS4_0 : Oper := { dst := some 20, op := Go.Op.move (Go.Operand.tmp 1), type := 25, pos := "l8_bills.go:146", after := #[], guard := none }
theorem opsBS4_0 : opsBS4[0]? = some oBS4_0 := rfl
abbrev oBS4_1 : Oper := { dst := some 21, op := Go.Op.makeFunc (Go.Fn.func 46) #[] #[Go.Operand.tmp 6, Go.Operand.tmp 2], type := 61, pos := "l8_bills.go:146", after := #[], guard := none }
theorem opsBS4_1 : opsBS4[1]? = some oBS4_1 := rfl
abbrev oBS4_2 : Oper := { dst := some 22, op := Go.Op.call { callee := Go.Callee.value (Go.Operand.func 35), args := #[Go.Operand.tmp 20, Go.Operand.tmp 21], argTypes := #[25, 61] }, type := 0, pos := "l8_bills.go:146", after := #[{ on := 0, ground := Go.Ground.data }, { on := 1, ground := Go.Ground.data }], guard := none }
theorem opsBS4_2 : opsBS4[2]? = some oBS4_2 := rfl
theorem billO_wp {Q : Exit -> Go.Act -> World -> Prop} {w : World} {ps : List (Int × Value)} {T : Trf} {rs : List RecD} {g6 gm : Nat} {u3 u7 u8 u9 u10 u11 u12 u13 u14 u15 u16 u17 u18 u19 u20 u21 u22 u23 u24 u25 u26 u27 u28 u29 u30 u31 u32 u33 u34 u35 u36 u37 u38 u39 v0 v1 v2 v4 v5 : Value}
   (h6 : w.heap[g6]? = some (.cells #[.map (some gm)] MB)) (hm : IntMap w gm ps) (hps : BillsIn T rs ps)
   (HQ : Hid (∀ u7 u8 u9 u10 u11 u12 u13 u14 u15 u16 u17 u18 u19 u20 u21 u22 u23 u24 u25 u26 u27 u28 u29 u30 u31 u32 u33 u34 u35 u36 u37 u38 u39 A n c w', OwnV 48 4 w' w.heap.size w'.heap.size A n c (bills (billsTo T rs 99)) -> Below w.heap.size w w' -> Q .ret ⟨#[v0, v1, v2, u3, .slice A n c, .bool true, .pointer (some ⟨g6, 0, none⟩), u7, u8, u9, u10, u11, u12, u13, u14, u15, u16, u17, u18, u19, u20, u21, u22, u23, u24, u25, u26, u27, u28, u29, u30, u31, u32, u33, u34, u35, u36, u37, u38, u39], []⟩ w')) :
   Code.wp Try.prog kBS5 Q ⟨#[v0, v1, v2, u3, v4, v5, .pointer (some ⟨g6, 0, none⟩), u7, u8, u9, u10, u11, u12, u13, u14, u15, u16, u17, u18, u19, u20, u21, u22, u23, u24, u25, u26, u27, u28, u29, u30, u31, u32, u33, u34, u35, u36, u37, u38, u39], []⟩ w := by
 obtain ⟨i0, hi0, hz0, hz1, hz2⟩ := info_parts info_bill
 have HI := Lib.hid (And.intro hi0 (And.intro hz0 (And.intro hz1 hz2)))
 have H6 := Lib.hid h6
 have HM := Lib.hid hm
 have hgz := blk_lt h6
 have hmz := hm.lt
 have HP := Lib.hid hps
 clear hi0 hz0 hz1 hz2 h6 hm hps
 simp only [kBS5, bodyBS, Try.f20, Option.getD_some]
 go_wp2_with fail
 go_loopw [7, 8] (λ v i wr => ∃ (k g L cl : Nat), k <= 99 /\ i = .int .i64 ((k : Int) + 1) /\ L = (billsTo T rs k).length /\ v = .slice (some ⟨g, 0, none⟩) L cl /\ Below w.heap.size w wr /\ wr.ownsRow w.heap.size 48 4 (.slice (some ⟨g, 0, none⟩) L cl) L (bills (billsTo T rs k))) (λ _ i _ => 100 - (intOf i).toNat)
 case atStart => exact ⟨0, w.heap.size, 0, 0, by omega, by simp, rfl, rfl, below_al (Below.refl _ _) _, row_empty (Nat.le_refl _) (heap_alloc_new _ _)⟩
 case round =>
   obtain ⟨k, g, L, cl, hk, rfl, hL, rfl, B, hown⟩ := hrel
   have HL := Lib.hid hL
   have HOW := Lib.hid hown
   have HB := Lib.hid B
   have hzb := B.size
   have hlen := billsTo_len T rs k
   rw [<- hL] at hlen
   clear hL hown
   by_cases hlt : k < 99
   . obtain ⟨c, hc⟩ : ∃ c : Int, c = (k : Int) + 1 := ⟨_, rfl⟩
     have hc1 : 1 <= c := by omega
     have hc2 : c <= 99 := by omega
     have HC := Lib.hid hc
     rw [<- hc]
     clear hc
     have e6 := blk_cell ((B.block g6 hgz).trans H6.out) 0
     have hlk := im_look (HM.out.keep (B.block gm hmz)) c true
     rw [if_pos rfl, HP.out c] at hlk
     clear B
     by_cases hp : 0 < (billFor T rs c).t
     . rw [if_pos hp] at hlk
       simp only [Option.getD_some, Option.isSome_some, BillD.val, show (billFor T rs c).c = c from rfl] at hlk
       have HN := Lib.hid (show billsTo T rs (k + 1) = billsTo T rs k ++ [billFor T rs c] by rw [HC.out]; exact billsTo_some (by rw [<- HC.out]; exact hp))
       obtain ⟨hi0, hz0, hz1, hz2⟩ := HI.out
       have HH := Lib.hid hi0
       clear hi0 hp
       go_wp2_with (at_builtin; refine wpList_app _ rfl (.tmp 35) (.tmp 37) 35 rfl w.heap.size 48 i0 zeroBill 4 32 Try.underlying35 HH.out hz0 hz1 hz2 rfl (by decide) (.slice (some ⟨g, 0, none⟩) L cl) L (bills (billsTo T rs k)) rfl (row_keep HOW.out ?c1) (by simp) ⟨_, 0, none⟩ 1 1 (BillD.cells (billFor T rs c)) rfl rfl ?c2 (by intro u hu; simp [BillD.cells] at hu; rcases hu with rfl | rfl | rfl | rfl <;> rfl) ?c5 ?c6 ?c7 ?_; (case c1 => exact λ b hb => (Below.heap_alloc _ _ b (by simp; omega)).trans (Below.heap_alloc _ _ b hb)); (case c2 => exact World.news_of_block (cs := (BillD.cells (billFor T rs c)).toArray) (heap_new' _ _ (by simp))); (case c5 => unfold maxLen; omega); (case c6 => omega); (case c7 => (simp; omega)); intro g1 c1 w1 hown1 hgr1 B1; have HO1 := Lib.hid hown1; have HB1 := Lib.hid B1; clear hown1 hgr1 B1)
       go_roundw
       case rel =>
         refine ⟨k + 1, g1, L + 1, c1, by have := HC.out; omega, by rw [HC.out]; push_cast; rfl, by rw [HN.out, HL.out]; simp, rfl, ?_, ?_⟩
         . exact (below_al (below_al HB.out _) _).trans HB1.out
         . rw [HN.out, bills_snoc]; exact HO1.out
       case measure => have := HC.out; simp [intOf]; omega
     . rw [if_neg hp] at hlk
       simp only [Option.getD_none, Option.isSome_none] at hlk
       have HN := Lib.hid (show billsTo T rs (k + 1) = billsTo T rs k by exact billsTo_none (by rw [<- HC.out]; exact hp))
       clear hp
       go_wp2
       go_roundw
       case rel => exact ⟨k + 1, g, L, cl, by have := HC.out; omega, by rw [HC.out]; push_cast; rfl, by rw [HN.out]; exact HL.out, rfl, below_al HB.out _, by rw [HN.out]; exact row_keep HOW.out (λ b hb => Below.heap_alloc _ _ b hb)⟩
       case measure => have := HC.out; simp [intOf]; omega
   . have e : k = 99 := by omega
     subst e
     go_wp2
     obtain ⟨A', c', e', o⟩ := ownV_of_row HOW.out (by decide)
     injection e' with e1 e2 e3
     subst e1 e3
     exact HQ.out _ _ _ _ _ _ _ _ _ _ _ _ _ _ _ _ _ _ _ _ _ _ _ _ _ _ _ _ _ _ _ _ _ _ _ _ _ o HB.out
section
variable {St : Nat -> Prop} {W0 : World} {Post : Value -> World -> Prop}
set_option maxHeartbeats 4000000 in
set_option maxRecDepth 100000 in
theorem jo_bills {m : Fm} {ms : List Fm} {w : World} {ops : Array Oper} {i : Nat} {rest : List Nat} {k : List Item} {o : Oper} {args : Array Operand} {ats : Array TypeId} {A : Option Addr} {n cap : Nat} {T : Trf} {rs : List RecD} {src : Option Blk}
   (hr : m.ret = false) (hfn : inL olL m.fn = false) (htd : m.todo = .inRegion ops (i :: rest) :: k) (ho : ops[i]? = some o) (hwt : Region.wanted o (yielded ops m.tmps) = true) (hop : o.op = .call ⟨.value (.func 20), args, ats⟩)
   (hv : args.map m.eval = #[.agg #[.int .i64 T.f, .int .i64 T.s, .int .i64 T.p], .slice A n cap]) (hs : srcOk w A src) (hlo : ∀ b, src = some b -> Try.prog.globals.size <= b.rb) (hslc : Slc w 0 w.heap.size 7 A n cap (recs rs)) (hn : n <= 1048576)
   (hJ : ∀ A' n' c' w', Bl w.heap.size w w' -> OwnV 48 4 w' w.heap.size w'.heap.size A' n' c' (bills (billsM T rs)) -> JE St W0 Post (m.fin ops i rest k (.tuple #[.slice A' n' c', .bool (billOk T rs)])) ms w') : JE St W0 Post m ms w := by
 have L := lvF
 have hback : ∀ (tmps : Array Value) (td : List Item) (A' : Option Addr) (n' c' : Nat) (w' : World), tmps.getD 4 undef = .slice A' n' c' -> tmps.getD 5 undef = .bool (billOk T rs) -> Bl w.heap.size w w' -> OwnV 48 4 w' w.heap.size w'.heap.size A' n' c' (bills (billsM T rs)) -> JE St W0 Post ⟨20, tmps, td, true⟩ (m :: ms) w' := by
   intro tmps td A' n' c' w' h4 h5 hb ho
   refine JO.back L (v := .tuple #[.slice A' n' c', .bool (billOk T rs)]) rfl htd (fnx := Try.f20) Try.func20 ?_ hfn (hJ A' n' c' w' hb ho)
   show (resS [.tmp 4, .tmp 5] tmps).run _ _ = _
   simp only [resS, resOne, h4, h5]
   rfl
 have hfo : inL olL 20 = false := by kernel_rfl
 have hbb : (Try.f20).body = some bodyBS := rfl
 have hnn : ((Try.f20).name == "runtime.NumGoroutine") = false := by decide
 have hcn := JO.callN (St := St) (W0 := W0) (Post := Post) (ms := ms) (w := w) (fn := Try.f20) (c := bodyBS) L hr htd ho hwt hop hfo
 refine hcn Try.func20 hnn hbb ?_
 rw [hv]
 have hent : (#[.agg #[.int .i64 T.f, .int .i64 T.s, .int .i64 T.p], .slice A n cap] : Array Value) ++ Array.replicate ((Try.f20).ntmps - (#[.agg #[.int .i64 T.f, .int .i64 T.s, .int .i64 T.p], .slice A n cap] : Array Value).size) undef = #[.agg #[.int .i64 T.f, .int .i64 T.s, .int .i64 T.p], .slice A n cap, undef, undef, undef, undef, undef, undef, undef, undef, undef, undef, undef, undef, undef, undef, undef, undef, undef, undef, undef, undef, undef, undef, undef, undef, undef, undef, undef, undef, undef, undef, undef, undef, undef, undef, undef, undef, undef, undef] := by
   have e : (Try.f20).ntmps = 40 := rfl
   rw [e]
   apply Array.ext'
   simp only [Array.toList_append, Array.toList_replicate, List.size_toArray, List.length_cons, List.length_nil]
   rfl
 rw [hent, bodyBS_eq]
 have hsrc : ∀ b, src = some b -> b.rb < w.heap.size := λ b e => by subst e; exact (Array.getElem?_eq_some_iff.1 hs.2.1).1
 refine JO.seq L hfo ?_
 refine JO.pieceQ L (by kernel_rfl) hfo (λ Tp Q HQ => ?_)
 simp only [rBS0, bodyBS, Try.f20, Option.getD_some]
 go_wp2
 refine HQ.out _ _ ?_
 clear HQ
 obtain ⟨g2, hg2⟩ : ∃ g, g = w.heap.size := ⟨_, rfl⟩
 have B1 : Bl w.heap.size w ((Tt.tp w Tp 0).alloc (trfO T)) := ((Bl.refl _ w).tp Tp 0).al (Nat.le_refl _) _
 have h2 : ((Tt.tp w Tp 0).alloc (trfO T)).heap[g2]? = some (trfO T) := by rw [hg2]; exact heap_push (Tt.tp w Tp 0) _
 have e2 : (Tt.tp w Tp 0).heap.size = g2 := hg2.symm
 rw [e2]
 generalize (Tt.tp w Tp 0).alloc (trfO T) = w1 at B1 h2 ⊢
 have HG2 := Lib.hid hg2
 have hg2l : w.heap.size <= g2 := by omega
 clear hg2 e2
 refine JO.seq L hfo ?_
 refine JO.seq L hfo ?_
 refine JO.pieceQ L (by kernel_rfl) hfo (λ Tp Q HQ => ?_)
 simp only [rBS1, bodyBS, Try.f20, Option.getD_some]
 have B1t := B1.tp Tp 0
 have h2t : (Tt.tp w1 Tp 0).heap[g2]? = some (trfO T) := h2
 have hs1 := hslc.bl B1t
 have c0 := blk_cell h2t 0
 have c1 := blk_cell h2t 1
 have c2 := blk_cell h2t 2
 clear B1 h2
 generalize Tt.tp w1 Tp 0 = w2 at B1t h2t hs1 c0 c1 c2 ⊢
 have key : ∀ (t : Bool) (w3 : World), Bl w.heap.size w w3 -> w3.heap[g2]? = some (trfO T) -> t = billOk T rs -> True := λ _ _ _ _ _ => True.intro
 obtain ⟨tt, htt⟩ : ∃ t, t = T.ok := ⟨_, rfl⟩
 have HTT := Lib.hid htt
 have htt' : tariffB T.f T.s T.p = tt := htt.symm
 go_wp2_with fail
 refine (impl_TariffValid _ _ _ _).mono ?_
 rintro e w3 ⟨rfl, b3⟩
 rw [htt']
 have B3 := B1t.below' b3 (by have := B1t.size; omega)
 have h23 := (blk_below b3 h2t).1
 clear htt htt' c0 c1 c2 hs1
 cases tt with
 | false =>
   go_wp2
   refine HQ.out _ _ ?_
   clear HQ
   have hob : billOk T rs = false := by unfold billOk; rw [<- HTT.out]; rfl
   refine JO.cond L (t := true) hfo rfl ?_
   refine JO.seq L hfo ?_
   refine JO.pieceQ L (by kernel_rfl) hfo (λ Tp Q HQ => ?_)
   simp only [rBS2, bodyBS, Try.f20, Option.getD_some]
   go_wp2
   refine HQ.out _ _ ?_
   refine JO.ret L hfo ?_
   exact hback _ _ _ _ _ _ rfl (by rw [hob]; rfl) (B3.tp Tp 0) (by unfold billsM; rw [hob]; exact OwnV.nil _ _ _)
 | true =>
   obtain ⟨t2, ht2⟩ : ∃ t, t = validR rs := ⟨_, rfl⟩
   have HT2 := Lib.hid ht2
   clear ht2
   have hs3 := hslc.bl B3
   go_wp2_with fail
   refine (impl_recordsValid _ _ _ _ _ _ _ hs3 hn).mono ?_
   rintro e w4 ⟨rfl, b4⟩
   rw [<- HT2.out]
   have B4 := B3.below' b4 (by have := B3.size; omega)
   have h24 := (blk_below b4 h23).1
   clear hs3 b4 B3 h23
   cases t2 with
   | false =>
     go_wp2
     refine HQ.out _ _ ?_
     clear HQ
     have hob : billOk T rs = false := by unfold billOk; rw [<- HT2.out]; simp
     have B3 := B4
     refine JO.cond L (t := true) hfo rfl ?_
     refine JO.seq L hfo ?_
     refine JO.pieceQ L (by kernel_rfl) hfo (λ Tp Q HQ => ?_)
     simp only [rBS2, bodyBS, Try.f20, Option.getD_some]
     go_wp2
     refine HQ.out _ _ ?_
     refine JO.ret L hfo ?_
     exact hback _ _ _ _ _ _ rfl (by rw [hob]; rfl) (B3.tp Tp 0) (by unfold billsM; rw [hob]; exact OwnV.nil _ _ _)
   | true =>
     go_wp2
     refine HQ.out _ _ ?_
     clear HQ
     have hob : billOk T rs = true := by unfold billOk; rw [<- HTT.out, <- HT2.out]; rfl
     refine JO.cond L (t := false) hfo rfl ?_
     refine JO.skip L hfo ?_
     refine JO.seq L hfo ?_
     refine JO.pieceQ L (by kernel_rfl) hfo (λ Tp Q HQ => ?_)
     simp only [rBS3, bodyBS, Try.f20, Option.getD_some]
     have hmm := @run_makeMap Try.prog
     have B4t := B4.tp Tp 0
     have h24t : (Tt.tp w4 Tp 0).heap[g2]? = some (trfO T) := h24
     generalize Tt.tp w4 Tp 0 = w5 at B4t h24t ⊢
     clear B4 h24
     go_wp2
     refine HQ.out _ _ ?_
     clear HQ hmm
     have hz3 := B4t.size
     have hlt2 := blk_lt h24t
     obtain ⟨gm, hgm⟩ : ∃ g, g = w5.heap.size := ⟨_, rfl⟩
     have B3 := (B4t.al (Nat.le_refl _) (.map #[] 0)).al (Nat.le_refl _) (.cells #[.map (some w5.heap.size)] MB)
     have h23 := blk_alloc (blk_alloc h24t (.map #[] 0)) (.cells #[.map (some w5.heap.size)] MB)
     have e1 : (w5.alloc (.map #[] 0)).heap.size = gm + 1 := by rw [size_push, hgm]
     have h63 : ((w5.alloc (.map #[] 0)).alloc (.cells #[.map (some w5.heap.size)] MB)).heap[gm + 1]? = some (.cells #[.map (some gm)] MB) := by rw [<- e1, heap_push, hgm]
     have hm3 : IntMap ((w5.alloc (.map #[] 0)).alloc (.cells #[.map (some w5.heap.size)] MB)) gm [] := ⟨#[], 0, by rw [hgm]; exact blk_alloc (heap_push w5 _) _, rfl⟩
     have hlt3 : gm + 1 < ((w5.alloc (.map #[] 0)).alloc (.cells #[.map (some w5.heap.size)] MB)).heap.size := blk_lt h63
     rw [<- hgm] at B3 h23 h63 hm3 hlt3 ⊢
     rw [<- hgm] at hz3 hlt2
     generalize (w5.alloc (.map #[] 0)).alloc (.cells #[.map (some gm)] MB) = w6 at B3 h23 h63 hm3 hlt3 ⊢
     clear B4t h24t
     refine JO.seq L hfo ?_
     rw [rBS4_eq]
     refine JO.reg L hfo ?_
     rw [opsBS4_range]
     refine JO.opv L (v := .slice A n cap) hfo opsBS4_0 rfl (λ T e => rfl) ?_
     simp only [Go.Act.put, List.setIfInBounds_toArray, List.set_cons_zero, List.set_cons_succ]
     refine JO.opv L (v := .func (.func 46) #[] #[.pointer (some ⟨gm + 1, 0, none⟩), .pointer (some ⟨g2, 0, none⟩)]) hfo opsBS4_1 rfl (λ T e => (exec_makeFunc (f := 46) (first := #[]) (cap := #[.tmp 6, .tmp 2]) rfl _).trans (by simp [Go.Act.eval])) ?_
     simp only [Go.Act.put, List.setIfInBounds_toArray, List.set_cons_zero, List.set_cons_succ]
     have hI := billsI (B := w.heap.size) (wb := ghostM w6 src 76) (g2 := g2) (g6 := gm + 1) (gm := gm) hob (by omega) (by omega) ⟨by omega, by rw [ghostM_size]; have := B3.size; omega⟩
     refine jo_each (ops := opsBS4) (i := 2) (o := oBS4_2) (src := src) (rs := rs) (f := 46) (capt := #[.pointer (some ⟨gm + 1, 0, none⟩), .pointer (some ⟨g2, 0, none⟩)]) rfl rfl opsBS4_2 rfl rfl (by kernel_rfl) (by simp [Fm.eval]) (srcOk_bl hs B3) hlo (hslc.bl B3) hn hI (by kernel_rfl) ?_ (λ wn hin => ?_)
     . have hne : ∀ x, w.heap.size <= x -> ∀ b, src = some b -> b.rb ≠ x := λ x hx b e e2 => by have := hsrc b e; omega
       refine ⟨?_, ?_, ⟨[], ?_, billsIn_nil _⟩, Nat.le_refl _, λ _ _ => rfl⟩
       . rw [ghostM_at (by omega) (hne _ (by omega))]; exact h23
       . rw [ghostM_at (by omega) (hne _ (by omega))]; exact h63
       . exact hm3.keep (ghostM_at (by omega) (hne _ (by omega)))
     . have hne : ∀ x, w.heap.size <= x -> ∀ b, src = some b -> b.rb ≠ x := λ x hx b e e2 => by have := hsrc b e; omega
       have hwz := hin.size
       rw [ghostM_size] at hwz
       have B5 := thaw_bl (srcOk_bl hs B3) B3 (Nat.le_refl _) hin.old (by omega) hsrc
       have h65 : (thaw wn src).heap[gm + 1]? = some (.cells #[.map (some gm)] MB) := (thaw_at (hne _ (by omega))).trans hin.c6
       obtain ⟨ps, hD1, hD2⟩ := hin.m
       have hm5 : IntMap (thaw wn src) gm ps := hD1.keep (thaw_at (hne _ (by omega)))
       rw [List.take_of_length_le (by rw [hslc.recLen]; exact Nat.le_refl _)] at hD2
       simp only [Fm.fin, opsBS4_2, Option.bind_some, List.setIfInBounds_toArray, List.set_cons_zero, List.set_cons_succ]
       refine JO.regEnd L hfo ?_
       refine JO.tailQ L (by kernel_rfl) hfo (λ Tp Q HQ => ?_)
       have B5t := B5.tp Tp 0
       have h65t : (Tt.tp (thaw wn src) Tp 0).heap[gm + 1]? = some (.cells #[.map (some gm)] MB) := h65
       have hm5t : IntMap (Tt.tp (thaw wn src) Tp 0) gm ps := hm5
       generalize Tt.tp (thaw wn src) Tp 0 = w7 at B5t h65t hm5t ⊢
       have HQ1 := HQ.out
       refine billO_wp h65t hm5t hD2 (Lib.hid λ u7 u8 u9 u10 u11 u12 u13 u14 u15 u16 u17 u18 u19 u20 u21 u22 u23 u24 u25 u26 u27 u28 u29 u30 u31 u32 u33 u34 u35 u36 u37 u38 u39 A' n' c' w8 ho b8 => ?_)
       refine HQ1 _ _ (λ todo => ?_)
       exact hback _ _ _ _ _ _ rfl (by rw [hob]; rfl) (B5t.below b8 (by have := B5t.size; omega)) (by unfold billsM; rw [if_pos hob]; exact ho.wide (by have := B5t.size; omega) (Nat.le_refl _))
end
end Go.Proofs.Ytjcpjijihajopaa
namespace Go.Proofs.Ytjcpjijihajopaa
open Go.RowKit
def sumG (bs : List BillD) : Int := (bs.map (·.g)).sum
theorem sumG_succ {bs : List BillD} {k : Nat} {b : BillD} (h : bs[k]? = some b) : sumG (bs.take (k + 1)) = sumG (bs.take k) + b.g := by
 unfold sumG
 rw [List.take_add_one, h]
 simp
theorem sumG_bound {bs : List BillD} (h : ∀ b ∈ bs, 0 <= b.g /\ b.g <= 219600000) (k : Nat) : 0 <= sumG (bs.take k) /\ sumG (bs.take k) <= 219600000 * k := by
 induction k with
 | zero => simp [sumG]
 | succ k ih =>
   have e : (219600000 : Int) * ((k + 1 : Nat) : Int) = 219600000 * k + 219600000 := by push_cast; omega
   rw [e]
   by_cases hk : k < bs.length
   . rw [sumG_succ (List.getElem?_eq_getElem hk)]
     have := h bs[k] (List.getElem_mem hk)
     omega
   . rw [List.take_of_length_le (by omega)]
     rw [List.take_of_length_le (by omega)] at ih
     omega
theorem bills_g {T : Trf} {rs : List RecD} (ho : billOk T rs = true) : ∀ b ∈ billsM T rs, 0 <= b.g /\ b.g <= 219600000 := by
 intro b hb
 unfold billsM billsTo at hb
 rw [if_pos ho] at hb
 obtain ⟨i, _, hi⟩ := List.mem_filterMap.1 hb
 unfold billAt at hi
 split at hi
 . injection hi with hi
   subst hi
   have := billFor_bounds ho rs.length ((i : Int) + 1)
   rw [List.take_length] at this
   exact ⟨this.2.2.2.2.1, this.2.2.2.2.2⟩
 . cases hi
theorem billsM_len (T : Trf) (rs : List RecD) : (billsM T rs).length <= 99 := by
 unfold billsM
 split
 . exact billsTo_len T rs 99
 . simp
theorem totalM_eq {T : Trf} {rs : List RecD} (ho : billOk T rs = true) : totalM T rs = sumG (billsM T rs) := by unfold totalM billsM; rw [if_pos ho, if_pos ho]; rfl
theorem totalM_no {T : Trf} {rs : List RecD} (ho : billOk T rs = false) : totalM T rs = -1 := by unfold totalM; rw [ho]; rfl
set_option maxRecDepth 20000 in
set_option maxHeartbeats 2000000 in
theorem spec_TotalOf (T : Trf) (lo hi n cp : Nat) (A : Option Addr) (rs : List RecD) (w : World) (h : Slc w lo hi 7 A n cp (recs rs)) (hn : n <= 1048576) :
   Calls Try.prog 16 #[.agg #[.int .i64 T.f, .int .i64 T.s, .int .i64 T.p], .slice A n cp] w λ e w' => e = .returned (.int .i64 (totalM T rs)) /\ Below w.heap.size w w' := by
 obtain ⟨t, ht⟩ : ∃ t, t = billOk T rs := ⟨_, rfl⟩
 have HT := Lib.hid ht
 clear ht
 obtain ⟨B, hB⟩ : ∃ B, B = billsM T rs := ⟨_, rfl⟩
 have HB := Lib.hid hB
 clear hB
 go_enter Try.func16, Try.ntmps16
 go_wp2_with fail
 refine (spec_BillsOf T _ _ _ _ _ rs _ (h.alloc _) hn).mono ?_
 rintro e w1 ⟨A', n', c', rfl, ho, b1⟩
 rw [<- HT.out]
 rw [<- HB.out] at ho
 have hs := ho.slc
 have B1 := (below_al (Below.refl w.heap.size w) (.cells #[.int .i64 T.f, .int .i64 T.s, .int .i64 T.p] 32)).trans (b1.mono (by simp))
 have hl := Lib.hid hs.billsLen
 clear h ho b1
 cases t
 . clear hs
   go_wp2
   go_ret
   exact ⟨ret_int (totalM_no HT.out.symm).symm, B1⟩
 . have HS := Lib.hid (sumG_bound (by rw [HB.out]; exact bills_g HT.out.symm : ∀ b ∈ B, 0 <= b.g /\ b.g <= 219600000))
   have HG := Lib.hid (by rw [HB.out]; exact bills_g HT.out.symm : ∀ b ∈ B, 0 <= b.g /\ b.g <= 219600000)
   have HLE := Lib.hid (by rw [HB.out]; exact billsM_len T rs : B.length <= 99)
   go_wp2_with fail
   go_loopw [7, 8] (λ s i wr => ∃ k : Nat, k <= n' /\ s = .int .i64 (sumG (B.take k)) /\ i = .int .i64 k /\ Below w1.heap.size w1 wr) (λ _ i _ => n' - (intOf i).toNat)
   case atStart => exact ⟨0, Nat.zero_le _, rfl, rfl, Below.refl _ _⟩
   case round =>
     obtain ⟨k, hk, rfl, rfl, Bk⟩ := hrel
     by_cases hlt : k < n'
     . obtain ⟨b, off, d, hA, _, _, h3, hxk, hv0, hv1, hv2, hv3⟩ := (hs.below Bk).billsAt hlt
       subst hA
       have HX := Lib.hid (sumG_succ hxk)
       have hg := HG.out d (List.mem_of_getElem? hxk)
       have hsk := HS.out k
       have hll := hl.out
       have hle := HLE.out
       have i0 : (0 : Int) <= (k : Int) := by omega
       have i1 : (k : Int) < (n' : Int) := by omega
       obtain ⟨s, hs'⟩ : ∃ s, s = sumG (B.take k) := ⟨_, rfl⟩
       rw [<- hs'] at HX hsk ⊢
       have W1 := (IntWalk.i64_left _).trans (IntWalk.wrap64_in (s + d.g) (by omega))
       have hn99 : n' <= 99 := by omega
       clear hxk hs hv0 hv1 hv2 h3 hg hsk hll hle hs'
       go_wp2
       go_roundw
       case rel => exact ⟨k + 1, by omega, by rw [HX.out], by go_num, Bk⟩
       case measure => simp [intOf]; omega
     . have e : k = n' := by omega
       subst e
       have HE := Lib.hid (show B.take k = B by rw [List.take_of_length_le (by rw [hl.out]; exact Nat.le_refl _)])
       clear hs
       go_wp2
       go_ret
       exact ⟨ret_int (by rw [HE.out, totalM_eq HT.out.symm, <- HB.out]), B1.trans (Bk.mono B1.size)⟩
end Go.Proofs.Ytjcpjijihajopaa
namespace Go.Proofs.Ytjcpjijihajopaa
open Go.RowKit Go.Mt Go.Conc Go.Tt Go.Maps
theorem exec_load {p : Program} {o : Oper} {t : TypeId} {x : Operand} {ρ : Operand -> Value} {b : Nat} {cs : Array Value} {T : TypeId} {fz : Nat × Nat} {d : TypeDesc} (hop : o.op = .load t x) {w : World} (hb : w.heap[b]? = some (.cells cs T fz)) (hx : ρ x = .pointer (some ⟨b, 0, none⟩))
   (hu : p.underlying t = some d) (hd : d.isRow = true) (hi : (p.info? t).map (·.size) = some cs.size) : (execOp ρ o).run p w = .ok (.value (.agg cs)) w := by
 obtain ⟨dst, op', type, pos, after, guard⟩ := o
 simp only at hop
 subst hop
 have := run_loadAt_mid (P := p) w b 0 t cs.toList d (λ j v hj => by rw [Nat.zero_add, blk_cell hb]; simpa using hj) hu hd (by simpa using hi)
 simp only [execOp, hx, Sem.run_bind, this, Result.andThen_ok]
 rfl
noncomputable def bodyTO : Go.Code := (Try.f18.body).getD .skip
noncomputable def rTO0 : Go.Code := match bodyTO with | .seq (a) _ => a | _ => .skip
noncomputable def rTO1 : Go.Code := match bodyTO with | .seq _ (.seq (a) _) => a | _ => .skip
noncomputable def kTO2 : Go.Code := match bodyTO with | .seq _ (.seq _ (a)) => a | _ => .skip
theorem bodyTO_eq : bodyTO = .seq (rTO0) (.seq (rTO1) (kTO2)) := rfl
noncomputable def opsTO1 : Array Oper := match rTO1 with | .region _ ops _ => ops | _ => #[]
theorem rTO1_eq : rTO1 = .region 1 opsTO1 false := rfl
theorem opsTO1_range : List.range opsTO1.size = [0, 1, 2, 3, 4, 5, 6, 7] := rfl
abbrev oTO1_0 : Oper := { dst := some 11, op := Go.Op.load 32 (Go.Operand.tmp 2), type := 32, pos := "l8_bills.go:169", after := #[], guard := none }
theorem opsTO1_0 : opsTO1[0]? = some oTO1_0 := rfl
abbrev oTO1_1 : Oper := { dst := some 12, op := Go.Op.move (Go.Operand.tmp 1), type := 25, pos := "l8_bills.go:169", after := #[], guard := none }
theorem opsTO1_1 : opsTO1[1]? = some oTO1_1 := rfl
abbrev oTO1_2 : Oper := { dst := some 13, op := Go.Op.call { callee := Go.Callee.value (Go.Operand.func 20), args := #[Go.Operand.tmp 11, Go.Operand.tmp 12], argTypes := #[32, 25] }, type := 36, pos := "l8_bills.go:169", after := #[{ on := 0, ground := Go.Ground.data }, { on := 1, ground := Go.Ground.data }], guard := none }
theorem opsTO1_2 : opsTO1[2]? = some oTO1_2 := rfl
abbrev oTO1_3 : Oper := { dst := some 10, op := Go.Op.move (Go.Operand.tmp 13), type := 36, pos := "l8_bills.go:169", after := #[{ on := 2, ground := Go.Ground.data }], guard := none }
theorem opsTO1_3 : opsTO1[3]? = some oTO1_3 := rfl
abbrev oTO1_4 : Oper := { dst := some 14, op := Go.Op.extract (Go.Operand.tmp 10) 0, type := 35, pos := "l8_bills.go:169", after := #[{ on := 3, ground := Go.Ground.data }], guard := none }
theorem opsTO1_4 : opsTO1[4]? = some oTO1_4 := rfl
abbrev oTO1_5 : Oper := { dst := some 15, op := Go.Op.extract (Go.Operand.tmp 10) 1, type := 4, pos := "l8_bills.go:169", after := #[{ on := 3, ground := Go.Ground.data }, { on := 6, ground := Go.Ground.gcOnly Go.Departure.lateStores }], guard := none }
theorem opsTO1_5 : opsTO1[5]? = some oTO1_5 := rfl
abbrev oTO1_6 : Oper := { dst := some 5, op := Go.Op.assign (Go.Operand.tmp 14), type := 35, pos := "l8_bills.go:169", after := #[{ on := 4, ground := Go.Ground.data }, { on := 2, ground := Go.Ground.chain }, { on := 0, ground := Go.Ground.phase }, { on := 1, ground := Go.Ground.phase }, { on := 2, ground := Go.Ground.phase }, { on := 3, ground := Go.Ground.phase }, { on := 4, ground := Go.Ground.phase }, { on := 5, ground := Go.Ground.textOnly Go.Departure.lateStores }], guard := none }
theorem opsTO1_6 : opsTO1[6]? = some oTO1_6 := rfl
abbrev oTO1_7 : Oper := { dst := some 6, op := Go.Op.assign (Go.Operand.tmp 15), type := 4, pos := "l8_bills.go:169", after := #[{ on := 5, ground := Go.Ground.data }, { on := 6, ground := Go.Ground.chain }, { on := 0, ground := Go.Ground.phase }, { on := 1, ground := Go.Ground.phase }, { on := 2, ground := Go.Ground.phase }, { on := 3, ground := Go.Ground.phase }, { on := 4, ground := Go.Ground.phase }, { on := 5, ground := Go.Ground.phase }, { on := 6, ground := Go.Ground.phase }], guard := none }
theorem opsTO1_7 : opsTO1[7]? = some oTO1_7 := rfl
section
variable {St : Nat -> Prop} {W0 : World} {Post : Value -> World -> Prop}
set_option maxHeartbeats 4000000 in
set_option maxRecDepth 100000 in
theorem jo_total {m : Fm} {ms : List Fm} {w : World} {ops : Array Oper} {i : Nat} {rest : List Nat} {k : List Item} {o : Oper} {args : Array Operand} {ats : Array TypeId} {A : Option Addr} {n cap : Nat} {T : Trf} {rs : List RecD} {src : Option Blk}
   (hr : m.ret = false) (hfn : inL olL m.fn = false) (htd : m.todo = .inRegion ops (i :: rest) :: k) (ho : ops[i]? = some o) (hwt : Region.wanted o (yielded ops m.tmps) = true) (hop : o.op = .call ⟨.value (.func 18), args, ats⟩)
   (hv : args.map m.eval = #[.agg #[.int .i64 T.f, .int .i64 T.s, .int .i64 T.p], .slice A n cap]) (hs : srcOk w A src) (hlo : ∀ b, src = some b -> Try.prog.globals.size <= b.rb) (hslc : Slc w 0 w.heap.size 7 A n cap (recs rs)) (hn : n <= 1048576)
   (hJ : ∀ w', Bl w.heap.size w w' -> JE St W0 Post (m.fin ops i rest k (.int .i64 (totalM T rs))) ms w') : JE St W0 Post m ms w := by
 have L := lvF
 have hback : ∀ (tmps : Array Value) (td : List Item) (w' : World), tmps.getD 4 undef = .int .i64 (totalM T rs) -> Bl w.heap.size w w' -> JE St W0 Post ⟨18, tmps, td, true⟩ (m :: ms) w' := by
   intro tmps td w' h4 hb
   refine JO.back L (v := .int .i64 (totalM T rs)) rfl htd (fnx := Try.f18) Try.func18 ?_ hfn (hJ w' hb)
   show (resOne tmps (.tmp 4)).run _ _ = _
   simp only [resOne, Pure.pure, Sem.run, h4]
 have hfo : inL olL 18 = false := by kernel_rfl
 have hbb : (Try.f18).body = some bodyTO := rfl
 have hnn : ((Try.f18).name == "runtime.NumGoroutine") = false := by decide
 have hcn := JO.callN (St := St) (W0 := W0) (Post := Post) (ms := ms) (w := w) (fn := Try.f18) (c := bodyTO) L hr htd ho hwt hop hfo
 refine hcn Try.func18 hnn hbb ?_
 rw [hv]
 have hent : (#[.agg #[.int .i64 T.f, .int .i64 T.s, .int .i64 T.p], .slice A n cap] : Array Value) ++ Array.replicate ((Try.f18).ntmps - (#[.agg #[.int .i64 T.f, .int .i64 T.s, .int .i64 T.p], .slice A n cap] : Array Value).size) undef = #[.agg #[.int .i64 T.f, .int .i64 T.s, .int .i64 T.p], .slice A n cap, undef, undef, undef, undef, undef, undef, undef, undef, undef, undef, undef, undef, undef, undef, undef, undef, undef, undef, undef, undef, undef, undef, undef, undef, undef, undef, undef, undef] := by
   have e : (Try.f18).ntmps = 30 := rfl
   rw [e]
   apply Array.ext'
   simp only [Array.toList_append, Array.toList_replicate, List.size_toArray, List.length_cons, List.length_nil]
   rfl
 rw [hent, bodyTO_eq]
 refine JO.seq L hfo ?_
 refine JO.pieceQ L (by kernel_rfl) hfo (λ Tp Q HQ => ?_)
 simp only [rTO0, bodyTO, Try.f18, Option.getD_some]
 go_wp2
 refine HQ.out _ _ ?_
 clear HQ
 obtain ⟨g2, hg2⟩ : ∃ g, g = w.heap.size := ⟨_, rfl⟩
 have B1 : Bl w.heap.size w ((Tt.tp w Tp 0).alloc (trfO T)) := ((Bl.refl _ w).tp Tp 0).al (Nat.le_refl _) _
 have h2 : ((Tt.tp w Tp 0).alloc (trfO T)).heap[g2]? = some (trfO T) := by rw [hg2]; exact heap_push (Tt.tp w Tp 0) _
 have e2 : (Tt.tp w Tp 0).heap.size = g2 := hg2.symm
 rw [e2]
 generalize (Tt.tp w Tp 0).alloc (trfO T) = w1 at B1 h2 ⊢
 refine JO.seq L hfo ?_
 rw [rTO1_eq]
 refine JO.reg L hfo ?_
 rw [opsTO1_range]
 refine JO.opv L (v := .agg #[.int .i64 T.f, .int .i64 T.s, .int .i64 T.p]) hfo opsTO1_0 rfl (λ T' e => exec_load (w := Tt.tp w1 T' e) (t := 32) (x := .tmp 2) (b := g2) rfl h2 rfl Try.underlying32 rfl (by kernel_rfl)) ?_
 simp only [Go.Act.put, List.setIfInBounds_toArray, List.set_cons_zero, List.set_cons_succ]
 refine JO.opv L (v := .slice A n cap) hfo opsTO1_1 rfl (λ T e => rfl) ?_
 simp only [Go.Act.put, List.setIfInBounds_toArray, List.set_cons_zero, List.set_cons_succ]
 refine jo_bills (ops := opsTO1) (i := 2) (o := oTO1_2) (src := src) (rs := rs) (T := T) rfl hfo rfl opsTO1_2 rfl rfl (by simp [Fm.eval]) (srcOk_bl hs B1) hlo (hslc.bl B1) hn (λ A' n' c' w2 B2 hob => ?_)
 simp only [Fm.fin, opsTO1_2, Option.bind_some, List.setIfInBounds_toArray, List.set_cons_zero, List.set_cons_succ]
 refine JO.opv L (v := .tuple #[.slice A' n' c', .bool (billOk T rs)]) hfo opsTO1_3 rfl (λ T e => rfl) ?_
 simp only [Go.Act.put, List.setIfInBounds_toArray, List.set_cons_zero, List.set_cons_succ]
 refine JO.opv L (v := .slice A' n' c') hfo opsTO1_4 rfl (λ T e => rfl) ?_
 simp only [Go.Act.put, List.setIfInBounds_toArray, List.set_cons_zero, List.set_cons_succ]
 refine JO.opv L (v := .bool (billOk T rs)) hfo opsTO1_5 rfl (λ T e => rfl) ?_
 simp only [Go.Act.put, List.setIfInBounds_toArray, List.set_cons_zero, List.set_cons_succ]
 refine JO.opv L (v := .slice A' n' c') hfo opsTO1_6 rfl (λ T e => rfl) ?_
 simp only [Go.Act.put, List.setIfInBounds_toArray, List.set_cons_zero, List.set_cons_succ]
 refine JO.opv L (v := .bool (billOk T rs)) hfo opsTO1_7 rfl (λ T e => rfl) ?_
 simp only [Go.Act.put, List.setIfInBounds_toArray, List.set_cons_zero, List.set_cons_succ]
 refine JO.regEnd L hfo ?_
 have B2' : Bl w.heap.size w w2 := B1.trans ⟨B2.size, λ x hx => B2.block x (by have := B1.size; omega)⟩
 refine JO.tailQ L (by kernel_rfl) hfo (λ Tp Q HQ => ?_)
 simp only [kTO2, bodyTO, Try.f18, Option.getD_some]
 have B2t := B2'.tp Tp 0
 have hs2 : Slc (Tt.tp w2 Tp 0) w1.heap.size w2.heap.size 4 A' n' c' (bills (billsM T rs)) := hob.slc.tp _ _
 generalize Tt.tp w2 Tp 0 = w3 at B2t hs2 ⊢
 clear hob B2 B1 B2' h2 hg2 e2
 obtain ⟨t, ht⟩ : ∃ t, t = billOk T rs := ⟨_, rfl⟩
 have HT := Lib.hid ht
 rw [<- ht]
 clear ht
 obtain ⟨B, hB⟩ : ∃ B, B = billsM T rs := ⟨_, rfl⟩
 rw [<- hB] at hs2
 have HB := Lib.hid hB
 clear hB
 have hl := Lib.hid hs2.billsLen
 have HW := Lib.hid B2t
 have hwz := B2t.size
 clear B2t
 cases t with
 | false =>
   clear hs2
   go_wp2
   refine HQ.out _ _ (λ todo => ?_)
   exact hback _ _ _ (by rw [totalM_no HT.out.symm]; rfl) HW.out
 | true =>
   have HS := Lib.hid (sumG_bound (by rw [HB.out]; exact bills_g HT.out.symm : ∀ b ∈ B, 0 <= b.g /\ b.g <= 219600000))
   have HG := Lib.hid (by rw [HB.out]; exact bills_g HT.out.symm : ∀ b ∈ B, 0 <= b.g /\ b.g <= 219600000)
   have HLE := Lib.hid (by rw [HB.out]; exact billsM_len T rs : B.length <= 99)
   go_wp2_with fail
   go_loopw [7, 20] (λ s i wr => ∃ k : Nat, k <= n' /\ s = .int .i64 (sumG (B.take k)) /\ i = .int .i64 k /\ Below w3.heap.size w3 wr) (λ _ i _ => n' - (intOf i).toNat)
   case atStart => exact ⟨0, Nat.zero_le _, rfl, rfl, Below.refl _ _⟩
   case round =>
     obtain ⟨k, hk, rfl, rfl, Bk⟩ := hrel
     by_cases hlt : k < n'
     . obtain ⟨b, off, d, hA, _, _, h3, hxk, hv0, hv1, hv2, hv3⟩ := (hs2.below Bk).billsAt hlt
       subst hA
       have HX := Lib.hid (sumG_succ hxk)
       have hg := HG.out d (List.mem_of_getElem? hxk)
       have hsk := HS.out k
       have hll := hl.out
       have hle := HLE.out
       have i0 : (0 : Int) <= (k : Int) := by omega
       have i1 : (k : Int) < (n' : Int) := by omega
       obtain ⟨s, hs'⟩ : ∃ s, s = sumG (B.take k) := ⟨_, rfl⟩
       rw [<- hs'] at HX hsk ⊢
       have W1 := (IntWalk.i64_left _).trans (IntWalk.wrap64_in (s + d.g) (by omega))
       have hn99 : n' <= 99 := by omega
       have HBk := Lib.hid Bk
       clear hxk hs2 h3 hg hsk hll hle hs' Bk
       go_wp2
       go_roundw
       case rel => exact ⟨k + 1, by omega, by rw [HX.out], by go_num, below_al HBk.out _⟩
       case measure => simp [intOf]; omega
     . have e : k = n' := by omega
       subst e
       have HE := Lib.hid (show B.take k = B by rw [List.take_of_length_le (by rw [hl.out]; exact Nat.le_refl _)])
       have HBk := Lib.hid Bk
       clear hs2 Bk
       go_wp2
       refine HQ.out _ _ (λ todo => ?_)
       have htm : totalM T rs = sumG (B.take k) := by rw [totalM_eq HT.out.symm, <- HB.out, HE.out]
       exact hback _ _ _ (by rw [htm]; rfl) (HW.out.below' HBk.out (by have := HW.out.size; omega))
end
end Go.Proofs.Ytjcpjijihajopaa
namespace Go.Proofs.Ytjcpjijihajopaa
open Go.RowKit
def doneF (d : RecD) : Int := if isDone d = true then 1 else 0
def chF (T : Trf) (d : RecD) : Int := if isDone d = true then chargeOfF T.f T.s T.p (talkD d) else 0
theorem sumR_cons (f : RecD -> Int) (d : RecD) (ds : List RecD) : sumR f (d :: ds) = f d + sumR f ds := by simp [sumR]
theorem sumR_add (f g : RecD -> Int) (ds : List RecD) : sumR (λ d => f d + g d) ds = sumR f ds + sumR g ds := by
 induction ds with
 | nil => simp [sumR]
 | cons d ds ih => rw [sumR_cons, sumR_cons, sumR_cons, ih]; omega
theorem sumR_congr {f g : RecD -> Int} {ds : List RecD} (h : ∀ d ∈ ds, f d = g d) : sumR f ds = sumR g ds := by
 induction ds with
 | nil => rfl
 | cons d ds ih => rw [sumR_cons, sumR_cons, h d (by simp), ih λ x hx => h x (by simp [hx])]
def upTo (q : RecD -> Int) (n : Nat) (d : RecD) : Int := if 1 <= d.c /\ d.c <= (n : Int) /\ isDone d = true then q d else 0
theorem upTo_succ (q : RecD -> Int) (n : Nat) (d : RecD) : upTo q (n + 1) d = upTo q n d + (if d.c = (n : Int) + 1 /\ isDone d = true then q d else 0) := by
 unfold upTo
 push_cast
 by_cases hd : isDone d = true
 . simp only [hd, and_true]
   split <;> split <;> split <;> omega
 . simp [hd]
theorem billsTo_sum (T : Trf) (rs : List RecD) (v : BillD -> Int) (q : RecD -> Int) (hv : ∀ c, v (billFor T rs c) = sumR (λ d => if d.c = c /\ isDone d = true then q d else 0) rs) (hz : ∀ c, (billFor T rs c).t <= 0 -> v (billFor T rs c) = 0) :
   ∀ n : Nat, ((billsTo T rs n).map v).sum = sumR (upTo q n) rs := by
 intro n
 induction n with
 | zero =>
   have : sumR (upTo q 0) rs = sumR (λ _ => 0) rs := sumR_congr λ d _ => by unfold upTo; rw [if_neg (by omega)]
   rw [this]
   have h0 : ∀ ds : List RecD, sumR (λ _ => 0) ds = 0 := λ ds => by
     induction ds with
     | nil => rfl
     | cons d ds ih => rw [sumR_cons, ih]; rfl
   rw [h0]; rfl
 | succ n ih =>
   have e : sumR (upTo q (n + 1)) rs = sumR (upTo q n) rs + v (billFor T rs ((n : Int) + 1)) := by
     rw [hv, <- sumR_add]
     exact sumR_congr λ d _ => upTo_succ q n d
   rw [e, <- ih]
   by_cases ht : 0 < (billFor T rs ((n : Int) + 1)).t
   . rw [billsTo_some ht]; simp
   . rw [billsTo_none ht, hz _ (by omega)]; simp
section
variable {T : Trf} {rs : List RecD} (h : billOk T rs = true)
theorem recOk_c {d : RecD} (h : recOk d = true) : 1 <= d.c /\ d.c <= 99 := by
 have h' : recP d.c d.l d.o d.f d.h d.t d.e.toList := of_decide_eq_true h
 unfold recP at h'
 omega
theorem bills_talks (h : billOk T rs = true) : ((billsM T rs).map (·.t)).sum = sumR doneF rs := by
 have hh := h
 simp only [billOk, Bool.and_eq_true] at hh
 obtain ⟨_, hall⟩ := validR_parts hh.2
 unfold billsM
 rw [if_pos h, billsTo_sum T rs (·.t) (λ _ => 1) (λ c => rfl) (λ c hc => (billFor_zero hc).2.2) 99]
 refine sumR_congr λ d hd => ?_
 obtain ⟨c1, c2⟩ := recOk_c (hall d hd)
 unfold upTo doneF
 by_cases hdn : isDone d = true
 . rw [if_pos ⟨c1, by simpa using c2, hdn⟩, if_pos hdn]
 . rw [if_neg (λ x => hdn x.2.2), if_neg hdn]
theorem bills_charges (h : billOk T rs = true) : ((billsM T rs).map (·.g)).sum = sumR (chF T) rs := by
 have hh := h
 simp only [billOk, Bool.and_eq_true] at hh
 obtain ⟨_, hall⟩ := validR_parts hh.2
 unfold billsM
 rw [if_pos h, billsTo_sum T rs (·.g) (λ d => chargeF T.f T.s T.p (talkD d)) (λ c => rfl) (λ c hc => (billFor_zero hc).2.1) 99]
 refine sumR_congr λ d hd => ?_
 obtain ⟨c1, c2⟩ := recOk_c (hall d hd)
 have ht := talk_bound (hall d hd)
 unfold upTo chF chargeOfF
 by_cases hdn : isDone d = true
 . rw [if_pos ⟨c1, by simpa using c2, hdn⟩, if_pos hdn, if_pos ⟨hh.1, ht.2 hdn, ht.1⟩]
 . rw [if_neg (λ x => hdn x.2.2), if_neg hdn]
theorem totalM_bills (h : billOk T rs = true) : totalM T rs = ((billsM T rs).map (·.g)).sum := by
 unfold totalM billsM
 rw [if_pos h, if_pos h]
theorem billOk_sub {es : List RecD} (h : billOk T rs = true) (hs : ∀ d ∈ es, d ∈ rs) (hl : es.length <= rs.length) : billOk T es = true := by
 simp only [billOk, Bool.and_eq_true] at h ⊢
 obtain ⟨h1, h2⟩ := validR_parts h.2
 refine ⟨h.1, ?_⟩
 simp only [validR, Bool.and_eq_true, decide_eq_true_eq, List.all_eq_true]
 exact ⟨by omega, λ d hd => h2 d (hs d hd)⟩
theorem totalM_split (h : billOk T rs = true) (n : Nat) : totalM T rs = totalM T (rs.take n) + totalM T (rs.drop n) := by
 have h1 := billOk_sub h (es := rs.take n) (λ d hd => List.mem_of_mem_take hd) (by rw [List.length_take]; omega)
 have h2 := billOk_sub h (es := rs.drop n) (λ d hd => List.mem_of_mem_drop hd) (by rw [List.length_drop]; omega)
 rw [totalM_bills h, totalM_bills h1, totalM_bills h2, bills_charges h, bills_charges h1, bills_charges h2]
 exact sumR_split _ _ _
theorem chF_bound (h : billOk T rs = true) : ∀ d ∈ rs, 0 <= chF T d /\ chF T d <= 3660000 := by
 intro d hd
 have hh := h
 simp only [billOk, Bool.and_eq_true] at hh
 obtain ⟨_, hall⟩ := validR_parts hh.2
 have ht := talk_bound (hall d hd)
 unfold chF chargeOfF
 by_cases hdn : isDone d = true
 . rw [if_pos hdn, if_pos ⟨hh.1, ht.2 hdn, ht.1⟩]
   exact chargeF_bounds (m := talkD d) hh.1 (ht.2 hdn) ht.1
 . rw [if_neg hdn]; omega
theorem doneF_bound (rs : List RecD) : ∀ d ∈ rs, 0 <= doneF d /\ doneF d <= 1 := by
 intro d _
 unfold doneF
 split <;> omega
theorem chF_sum (h : billOk T rs = true) (k : Nat) : 0 <= sumR (chF T) (rs.take k) /\ sumR (chF T) (rs.take k) <= 219600000 := by
 have hh := h
 simp only [billOk, Bool.and_eq_true] at hh
 obtain ⟨h60, _⟩ := validR_parts hh.2
 have e : rs.take k = rs.take (min k rs.length) := by
   rcases Nat.le_total k rs.length with x | x
   . rw [Nat.min_eq_left x]
   . rw [Nat.min_eq_right x, List.take_of_length_le x, List.take_of_length_le (Nat.le_refl _)]
 rw [e]
 have := sumR_le (B := 3660000) (by omega) (chF_bound h) (min k rs.length)
 omega
theorem doneF_sum (h : billOk T rs = true) (k : Nat) : 0 <= sumR doneF (rs.take k) /\ sumR doneF (rs.take k) <= 60 := by
 have hh := h
 simp only [billOk, Bool.and_eq_true] at hh
 obtain ⟨h60, _⟩ := validR_parts hh.2
 have e : rs.take k = rs.take (min k rs.length) := by
   rcases Nat.le_total k rs.length with x | x
   . rw [Nat.min_eq_left x]
   . rw [Nat.min_eq_right x, List.take_of_length_le x, List.take_of_length_le (Nat.le_refl _)]
 rw [e]
 have := sumR_le (B := 1) (by omega) (doneF_bound rs) (min k rs.length)
 omega
theorem bills_at (h : billOk T rs = true) {b : BillD} (hb : b ∈ billsM T rs) : 1 <= b.t /\ b.t <= 60 /\ 0 <= b.g /\ b.g <= 219600000 := by
 unfold billsM at hb
 rw [if_pos h] at hb
 unfold billsTo at hb
 rw [List.mem_filterMap] at hb
 obtain ⟨i, _, hi⟩ := hb
 unfold billAt at hi
 split at hi
 . next ht =>
   obtain rfl := Option.some.inj hi
   have hb2 := billFor_bounds h rs.length ((i : Int) + 1)
   rw [List.take_of_length_le (Nat.le_refl _)] at hb2
   omega
 . cases hi
theorem billsTo_sorted (T : Trf) (rs : List RecD) : ∀ n : Nat, (billsTo T rs n).Pairwise (λ a b => a.c < b.c) /\ ∀ b ∈ billsTo T rs n, b.c <= (n : Int) := by
 intro n
 induction n with
 | zero => exact ⟨by simp [billsTo], λ b hb => by simp [billsTo] at hb⟩
 | succ n ih =>
   by_cases ht : 0 < (billFor T rs ((n : Int) + 1)).t
   . rw [billsTo_some ht]
     refine ⟨List.pairwise_append.2 ⟨ih.1, by simp, λ a ha b hb => ?_⟩, λ b hb => ?_⟩
     . simp at hb
       subst hb
       have := ih.2 a ha
       show a.c < (n : Int) + 1
       omega
     . rcases List.mem_append.1 hb with hb | hb
       . have := ih.2 b hb; push_cast; omega
       . simp at hb
         subst hb
         show (n : Int) + 1 <= _
         push_cast; omega
   . rw [billsTo_none ht]
     exact ⟨ih.1, λ b hb => by have := ih.2 b hb; push_cast; omega⟩
theorem bills_sorted (h : billOk T rs = true) {i j : Nat} {a b : BillD} (hij : i < j) (ha : (billsM T rs)[i]? = some a) (hb : (billsM T rs)[j]? = some b) : a.c < b.c := by
 unfold billsM at ha hb
 rw [if_pos h] at ha hb
 have := (billsTo_sorted T rs 99).1
 rw [List.pairwise_iff_getElem] at this
 obtain ⟨h1, rfl⟩ := List.getElem?_eq_some_iff.1 ha
 obtain ⟨h2, rfl⟩ := List.getElem?_eq_some_iff.1 hb
 exact this i j h1 h2 hij
theorem bills_few (T : Trf) (rs : List RecD) : (billsM T rs).length <= 99 := by
 unfold billsM
 split
 . exact billsTo_len T rs 99
 . simp
def sumB (v : BillD -> Int) (bs : List BillD) : Int := (bs.map v).sum
theorem sumB_succ {v : BillD -> Int} {bs : List BillD} {k : Nat} {b : BillD} (h : bs[k]? = some b) : sumB v (bs.take (k + 1)) = sumB v (bs.take k) + v b := by
 unfold sumB
 rw [List.take_add_one, h]
 simp
theorem sumB_le {v : BillD -> Int} {B : Int} {bs : List BillD} (hB : 0 <= B) (h : ∀ b ∈ bs, 0 <= v b /\ v b <= B) (k : Nat) : 0 <= sumB v (bs.take k) /\ sumB v (bs.take k) <= B * k := by
 induction k with
 | zero => simp [sumB]
 | succ k ih =>
   have e : B * ((k + 1 : Nat) : Int) = B * k + B := by push_cast; rw [Int.mul_add, Int.mul_one]
   rw [e]
   by_cases hk : k < bs.length
   . rw [sumB_succ (List.getElem?_eq_getElem hk)]
     have := h bs[k] (List.getElem_mem hk)
     omega
   . rw [List.take_of_length_le (by omega)]
     rw [List.take_of_length_le (by omega)] at ih
     omega
end
end Go.Proofs.Ytjcpjijihajopaa
namespace Go.Proofs.Ytjcpjijihajopaa
open Go.RowKit Go.Mt Go.Conc Go.Tt Go.Maps
noncomputable def bodyFB : Go.Code := (Try.f8.body).getD .skip
noncomputable def rFB0 : Go.Code := match bodyFB with | .seq (a) _ => a | _ => .skip
noncomputable def rFB1 : Go.Code := match bodyFB with | .seq _ (.seq (.seq (a) _) _) => a | _ => .skip
noncomputable def rFB2 : Go.Code := match bodyFB with | .seq _ (.seq (.seq _ (.cond _ (.seq (a) _) _)) _) => a | _ => .skip
noncomputable def rFB3 : Go.Code := match bodyFB with | .seq _ (.seq _ (.seq (a) _)) => a | _ => .skip
noncomputable def rFB4 : Go.Code := match bodyFB with | .seq _ (.seq _ (.seq _ (.seq (a) _))) => a | _ => .skip
noncomputable def rFB5 : Go.Code := match bodyFB with | .seq _ (.seq _ (.seq _ (.seq _ (.seq (a) _)))) => a | _ => .skip
noncomputable def rFB6 : Go.Code := match bodyFB with | .seq _ (.seq _ (.seq _ (.seq _ (.seq _ (.seq (a) _))))) => a | _ => .skip
noncomputable def rFB7 : Go.Code := match bodyFB with | .seq _ (.seq _ (.seq _ (.seq _ (.seq _ (.seq _ (.seq (.seq (a) _) _)))))) => a | _ => .skip
noncomputable def rFB8 : Go.Code := match bodyFB with | .seq _ (.seq _ (.seq _ (.seq _ (.seq _ (.seq _ (.seq (.seq _ (.cond _ (.seq (a) _) _)) _)))))) => a | _ => .skip
noncomputable def rFB9 : Go.Code := match bodyFB with | .seq _ (.seq _ (.seq _ (.seq _ (.seq _ (.seq _ (.seq _ (.seq (a) _))))))) => a | _ => .skip
noncomputable def rFB10 : Go.Code := match bodyFB with | .seq _ (.seq _ (.seq _ (.seq _ (.seq _ (.seq _ (.seq _ (.seq _ (.seq (.seq (a) _) _)))))))) => a | _ => .skip
noncomputable def bFB11 : Go.Code := match bodyFB with | .seq _ (.seq _ (.seq _ (.seq _ (.seq _ (.seq _ (.seq _ (.seq _ (.seq (.seq _ (a)) _)))))))) => a | _ => .skip
noncomputable def rFB17 : Go.Code := match bodyFB with | .seq _ (.seq _ (.seq _ (.seq _ (.seq _ (.seq _ (.seq _ (.seq _ (.seq _ (.seq (.seq (a) _) _))))))))) => a | _ => .skip
noncomputable def bFB18 : Go.Code := match bodyFB with | .seq _ (.seq _ (.seq _ (.seq _ (.seq _ (.seq _ (.seq _ (.seq _ (.seq _ (.seq (.seq _ (a)) _))))))))) => a | _ => .skip
noncomputable def rFB23 : Go.Code := match bodyFB with | .seq _ (.seq _ (.seq _ (.seq _ (.seq _ (.seq _ (.seq _ (.seq _ (.seq _ (.seq _ (.seq (a) _)))))))))) => a | _ => .skip
noncomputable def rFB24 : Go.Code := match bodyFB with | .seq _ (.seq _ (.seq _ (.seq _ (.seq _ (.seq _ (.seq _ (.seq _ (.seq _ (.seq _ (.seq _ (.seq (a) _))))))))))) => a | _ => .skip
theorem bodyFB_eq : bodyFB = .seq (rFB0) (.seq (.seq (rFB1) (.cond (.tmp 19) (.seq (rFB2) (.ret)) (.skip))) (.seq (rFB3) (.seq (rFB4) (.seq (rFB5) (.seq (rFB6) (.seq (.seq (rFB7) (.cond (.tmp 60) (.seq (rFB8) (.ret)) (.skip))) (.seq (rFB9) (.seq (.seq (rFB10) (bFB11)) (.seq (.seq (rFB17) (bFB18)) (.seq (rFB23) (.seq (rFB24) (.ret)))))))))))) := rfl
noncomputable def opsFB4 : Array Oper := match rFB4 with | .region _ ops _ => ops | _ => #[]
theorem rFB4_eq : rFB4 = .region 4 opsFB4 false := rfl
theorem opsFB4_range : List.range opsFB4.size = [0, 1, 2, 3, 4, 5, 6, 7] := rfl
abbrev oFB4_0 : Oper := { dst := some 26, op := Go.Op.load 32 (Go.Operand.tmp 3), type := 32, pos := "laws.go:1354", after := #[], guard := none }
theorem opsFB4_0 : opsFB4[0]? = some oFB4_0 := rfl
abbrev oFB4_1 : Oper := { dst := some 27, op := Go.Op.move (Go.Operand.tmp 4), type := 25, pos := "laws.go:1354", after := #[], guard := none }
theorem opsFB4_1 : opsFB4[1]? = some oFB4_1 := rfl
abbrev oFB4_2 : Oper := { dst := some 28, op := Go.Op.call { callee := Go.Callee.value (Go.Operand.func 20), args := #[Go.Operand.tmp 26, Go.Operand.tmp 27], argTypes := #[32, 25] }, type := 36, pos := "laws.go:1354", after := #[{ on := 0, ground := Go.Ground.data }, { on := 1, ground := Go.Ground.data }], guard := none }
theorem opsFB4_2 : opsFB4[2]? = some oFB4_2 := rfl
abbrev oFB4_3 : Oper := { dst := some 25, op := Go.Op.move (Go.Operand.tmp 28), type := 36, pos := "laws.go:1354", after := #[{ on := 2, ground := Go.Ground.data }], guard := none }
theorem opsFB4_3 : opsFB4[3]? = some oFB4_3 := rfl
abbrev oFB4_4 : Oper := { dst := some 29, op := Go.Op.extract (Go.Operand.tmp 25) 0, type := 35, pos := "laws.go:1354", after := #[{ on := 3, ground := Go.Ground.data }], guard := none }
theorem opsFB4_4 : opsFB4[4]? = some oFB4_4 := rfl
abbrev oFB4_5 : Oper := { dst := some 30, op := Go.Op.extract (Go.Operand.tmp 25) 1, type := 4, pos := "laws.go:1354", after := #[{ on := 3, ground := Go.Ground.data }, { on := 6, ground := Go.Ground.gcOnly Go.Departure.lateStores }], guard := none }
theorem opsFB4_5 : opsFB4[5]? = some oFB4_5 := rfl
abbrev oFB4_6 : Oper := { dst := some 5, op := Go.Op.assign (Go.Operand.tmp 29), type := 35, pos := "laws.go:1354", after := #[{ on := 4, ground := Go.Ground.data }, { on := 2, ground := Go.Ground.chain }, { on := 0, ground := Go.Ground.phase }, { on := 1, ground := Go.Ground.phase }, { on := 2, ground := Go.Ground.phase }, { on := 3, ground := Go.Ground.phase }, { on := 4, ground := Go.Ground.phase }, { on := 5, ground := Go.Ground.textOnly Go.Departure.lateStores }], guard := none }
theorem opsFB4_6 : opsFB4[6]? = some oFB4_6 := rfl
abbrev oFB4_7 : Oper := { dst := some 6, op := Go.Op.assign (Go.Operand.tmp 30), type := 4, pos := "laws.go:1354", after := #[{ on := 5, ground := Go.Ground.data }, { on := 6, ground := Go.Ground.chain }, { on := 0, ground := Go.Ground.phase }, { on := 1, ground := Go.Ground.phase }, { on := 2, ground := Go.Ground.phase }, { on := 3, ground := Go.Ground.phase }, { on := 4, ground := Go.Ground.phase }, { on := 5, ground := Go.Ground.phase }, { on := 6, ground := Go.Ground.phase }], guard := none }
theorem opsFB4_7 : opsFB4[7]? = some oFB4_7 := rfl
noncomputable def opsFB6 : Array Oper := match rFB6 with | .region _ ops _ => ops | _ => #[]
theorem rFB6_eq : rFB6 = .region 6 opsFB6 false := rfl
theorem opsFB6_range : List.range opsFB6.size = [0, 1, 2, 3] := rfl
abbrev oFB6_0 : Oper := { dst := some 37, op := Go.Op.load 32 (Go.Operand.tmp 3), type := 32, pos := "laws.go:1356", after := #[], guard := none }
theorem opsFB6_0 : opsFB6[0]? = some oFB6_0 := rfl
abbrev oFB6_1 : Oper := { dst := some 38, op := Go.Op.move (Go.Operand.tmp 4), type := 25, pos := "laws.go:1356", after := #[], guard := none }
theorem opsFB6_1 : opsFB6[1]? = some oFB6_1 := rfl
abbrev oFB6_2 : Oper := { dst := some 39, op := Go.Op.call { callee := Go.Callee.value (Go.Operand.func 18), args := #[Go.Operand.tmp 37, Go.Operand.tmp 38], argTypes := #[32, 25] }, type := 3, pos := "laws.go:1356", after := #[{ on := 0, ground := Go.Ground.data }, { on := 1, ground := Go.Ground.data }], guard := none }
theorem opsFB6_2 : opsFB6[2]? = some oFB6_2 := rfl
abbrev oFB6_3 : Oper := { dst := some 9, op := Go.Op.assign (Go.Operand.tmp 39), type := 3, pos := "laws.go:1356", after := #[{ on := 2, ground := Go.Ground.data }, { on := 2, ground := Go.Ground.chain }, { on := 0, ground := Go.Ground.phase }, { on := 1, ground := Go.Ground.phase }, { on := 2, ground := Go.Ground.phase }], guard := none }
theorem opsFB6_3 : opsFB6[3]? = some oFB6_3 := rfl
noncomputable def opsFB24 : Array Oper := match rFB24 with | .region _ ops _ => ops | _ => #[]
theorem rFB24_eq : rFB24 = .region 24 opsFB24 true := rfl
abbrev oFB24_0 : Oper := { dst := some 163, op := Go.Op.move (Go.Operand.tmp 9), type := 3, pos := "laws.go:1375", after := #[], guard := none }
abbrev oFB24_1 : Oper := { dst := some 164, op := Go.Op.move (Go.Operand.tmp 10), type := 3, pos := "laws.go:1375", after := #[], guard := none }
abbrev oFB24_2 : Oper := { dst := some 165, op := Go.Op.binOp Go.BinOp.eql 3 (Go.Operand.tmp 163) (Go.Operand.tmp 164) 3, type := 4, pos := "laws.go:1375", after := #[{ on := 0, ground := Go.Ground.data }, { on := 1, ground := Go.Ground.data }], guard := none }
abbrev oFB24_3 : Oper := { dst := some 166, op := Go.Op.move (Go.Operand.tmp 165), type := 4, pos := "laws.go:1375", after := #[{ on := 2, ground := Go.Ground.data }], guard := none }
theorem opsFB24_3 : opsFB24[3]? = some oFB24_3 := rfl
abbrev oFB24_4 : Oper := { dst := some 167, op := Go.Op.move (Go.Operand.tmp 9), type := 3, pos := "laws.go:1375", after := #[{ on := 3, ground := Go.Ground.guard }], guard := some (3, true) }
abbrev oFB24_5 : Oper := { dst := some 168, op := Go.Op.move (Go.Operand.tmp 13), type := 3, pos := "laws.go:1375", after := #[{ on := 3, ground := Go.Ground.guard }], guard := some (3, true) }
abbrev oFB24_6 : Oper := { dst := some 169, op := Go.Op.binOp Go.BinOp.eql 3 (Go.Operand.tmp 167) (Go.Operand.tmp 168) 3, type := 4, pos := "laws.go:1375", after := #[{ on := 4, ground := Go.Ground.data }, { on := 5, ground := Go.Ground.data }, { on := 3, ground := Go.Ground.guard }], guard := some (3, true) }
abbrev oFB24_7 : Oper := { dst := some 170, op := Go.Op.pick (Go.Operand.tmp 166) (Go.Operand.tmp 169) (Go.Operand.const (Go.Value.bool false)), type := 4, pos := "laws.go:1375", after := #[{ on := 3, ground := Go.Ground.data }, { on := 6, ground := Go.Ground.data }], guard := none }
abbrev oFB24_8 : Oper := { dst := some 171, op := Go.Op.move (Go.Operand.tmp 170), type := 4, pos := "laws.go:1375", after := #[{ on := 7, ground := Go.Ground.data }, { on := 3, ground := Go.Ground.chain }], guard := none }
theorem opsFB24_8 : opsFB24[8]? = some oFB24_8 := rfl
abbrev oFB24_9 : Oper := { dst := some 172, op := Go.Op.move (Go.Operand.tmp 11), type := 3, pos := "laws.go:1375", after := #[{ on := 8, ground := Go.Ground.guard }], guard := some (8, true) }
abbrev oFB24_10 : Oper := { dst := some 173, op := Go.Op.move (Go.Operand.tmp 12), type := 3, pos := "laws.go:1375", after := #[{ on := 8, ground := Go.Ground.guard }], guard := some (8, true) }
abbrev oFB24_11 : Oper := { dst := some 174, op := Go.Op.binOp Go.BinOp.eql 3 (Go.Operand.tmp 172) (Go.Operand.tmp 173) 3, type := 4, pos := "laws.go:1375", after := #[{ on := 9, ground := Go.Ground.data }, { on := 10, ground := Go.Ground.data }, { on := 8, ground := Go.Ground.guard }], guard := some (8, true) }
abbrev oFB24_12 : Oper := { dst := some 175, op := Go.Op.pick (Go.Operand.tmp 171) (Go.Operand.tmp 174) (Go.Operand.const (Go.Value.bool false)), type := 4, pos := "laws.go:1375", after := #[{ on := 8, ground := Go.Ground.data }, { on := 11, ground := Go.Ground.data }], guard := none }
abbrev oFB24_13 : Oper := { dst := some 176, op := Go.Op.move (Go.Operand.tmp 175), type := 4, pos := "laws.go:1375", after := #[{ on := 12, ground := Go.Ground.data }, { on := 8, ground := Go.Ground.chain }], guard := none }
theorem opsFB24_13 : opsFB24[13]? = some oFB24_13 := rfl
abbrev oFB24_14 : Oper := { dst := some 177, op := Go.Op.move (Go.Operand.tmp 9), type := 3, pos := "laws.go:1375", after := #[{ on := 13, ground := Go.Ground.guard }], guard := some (13, true) }
abbrev oFB24_15 : Oper := { dst := some 178, op := Go.Op.load 32 (Go.Operand.tmp 3), type := 32, pos := "laws.go:1375", after := #[{ on := 13, ground := Go.Ground.guard }], guard := some (13, true) }
abbrev oFB24_16 : Oper := { dst := some 179, op := Go.Op.move (Go.Operand.tmp 4), type := 25, pos := "laws.go:1375", after := #[{ on := 13, ground := Go.Ground.guard }], guard := some (13, true) }
abbrev oFB24_17 : Oper := { dst := some 180, op := Go.Op.move (Go.Operand.tmp 16), type := 3, pos := "laws.go:1375", after := #[{ on := 13, ground := Go.Ground.guard }], guard := some (13, true) }
abbrev oFB24_18 : Oper := { dst := some 181, op := Go.Op.slice 25 (Go.Operand.tmp 179) none (some (Go.Operand.tmp 180)) none, type := 25, pos := "laws.go:1375", after := #[{ on := 16, ground := Go.Ground.data }, { on := 17, ground := Go.Ground.data }, { on := 13, ground := Go.Ground.guard }], guard := some (13, true) }
abbrev oFB24_19 : Oper := { dst := some 182, op := Go.Op.call { callee := Go.Callee.value (Go.Operand.func 18), args := #[Go.Operand.tmp 178, Go.Operand.tmp 181], argTypes := #[32, 25] }, type := 3, pos := "laws.go:1375", after := #[{ on := 15, ground := Go.Ground.data }, { on := 18, ground := Go.Ground.data }, { on := 13, ground := Go.Ground.chain }, { on := 13, ground := Go.Ground.guard }], guard := some (13, true) }
theorem opsFB24_19 : opsFB24[19]? = some oFB24_19 := rfl
abbrev oFB24_20 : Oper := { dst := some 183, op := Go.Op.load 32 (Go.Operand.tmp 3), type := 32, pos := "laws.go:1375", after := #[{ on := 13, ground := Go.Ground.guard }], guard := some (13, true) }
abbrev oFB24_21 : Oper := { dst := some 184, op := Go.Op.move (Go.Operand.tmp 4), type := 25, pos := "laws.go:1375", after := #[{ on := 13, ground := Go.Ground.guard }], guard := some (13, true) }
abbrev oFB24_22 : Oper := { dst := some 185, op := Go.Op.move (Go.Operand.tmp 16), type := 3, pos := "laws.go:1375", after := #[{ on := 13, ground := Go.Ground.guard }], guard := some (13, true) }
abbrev oFB24_23 : Oper := { dst := some 186, op := Go.Op.slice 25 (Go.Operand.tmp 184) (some (Go.Operand.tmp 185)) none none, type := 25, pos := "laws.go:1375", after := #[{ on := 21, ground := Go.Ground.data }, { on := 22, ground := Go.Ground.data }, { on := 13, ground := Go.Ground.guard }], guard := some (13, true) }
abbrev oFB24_24 : Oper := { dst := some 187, op := Go.Op.call { callee := Go.Callee.value (Go.Operand.func 18), args := #[Go.Operand.tmp 183, Go.Operand.tmp 186], argTypes := #[32, 25] }, type := 3, pos := "laws.go:1375", after := #[{ on := 20, ground := Go.Ground.data }, { on := 23, ground := Go.Ground.data }, { on := 19, ground := Go.Ground.chain }, { on := 13, ground := Go.Ground.guard }], guard := some (13, true) }
theorem opsFB24_24 : opsFB24[24]? = some oFB24_24 := rfl
abbrev oFB24_25 : Oper := { dst := some 188, op := Go.Op.binOp Go.BinOp.add 3 (Go.Operand.tmp 182) (Go.Operand.tmp 187) 3, type := 3, pos := "laws.go:1375", after := #[{ on := 19, ground := Go.Ground.data }, { on := 24, ground := Go.Ground.data }, { on := 13, ground := Go.Ground.guard }], guard := some (13, true) }
abbrev oFB24_26 : Oper := { dst := some 189, op := Go.Op.binOp Go.BinOp.eql 3 (Go.Operand.tmp 177) (Go.Operand.tmp 188) 3, type := 4, pos := "laws.go:1375", after := #[{ on := 14, ground := Go.Ground.data }, { on := 25, ground := Go.Ground.data }, { on := 13, ground := Go.Ground.guard }], guard := some (13, true) }
abbrev oFB24_27 : Oper := { dst := some 190, op := Go.Op.pick (Go.Operand.tmp 176) (Go.Operand.tmp 189) (Go.Operand.const (Go.Value.bool false)), type := 4, pos := "laws.go:1375", after := #[{ on := 13, ground := Go.Ground.data }, { on := 26, ground := Go.Ground.data }], guard := none }
abbrev oFB24_28 : Oper := { dst := some 2, op := Go.Op.assign (Go.Operand.tmp 190), type := 4, pos := "laws.go:1375", after := #[{ on := 27, ground := Go.Ground.data }, { on := 24, ground := Go.Ground.chain }, { on := 0, ground := Go.Ground.phase }, { on := 1, ground := Go.Ground.phase }, { on := 2, ground := Go.Ground.phase }, { on := 3, ground := Go.Ground.phase }, { on := 4, ground := Go.Ground.phase }, { on := 5, ground := Go.Ground.phase }, { on := 6, ground := Go.Ground.phase }, { on := 7, ground := Go.Ground.phase }, { on := 8, ground := Go.Ground.phase }, { on := 9, ground := Go.Ground.phase }, { on := 10, ground := Go.Ground.phase }, { on := 11, ground := Go.Ground.phase }, { on := 12, ground := Go.Ground.phase }, { on := 13, ground := Go.Ground.phase }, { on := 14, ground := Go.Ground.phase }, { on := 15, ground := Go.Ground.phase }, { on := 16, ground := Go.Ground.phase }, { on := 17, ground := Go.Ground.phase }, { on := 18, ground := Go.Ground.phase }, { on := 19, ground := Go.Ground.phase }, { on := 20, ground := Go.Ground.phase }, { on := 21, ground := Go.Ground.phase }, { on := 22, ground := Go.Ground.phase }, { on := 23, ground := Go.Ground.phase }, { on := 24, ground := Go.Ground.phase }, { on := 25, ground := Go.Ground.phase }, { on := 26, ground := Go.Ground.phase }, { on := 27, ground := Go.Ground.phase }], guard := none }
structure FbAt (w : World) (gR : Nat) (cs : Array Value) (m cp : Nat) (rs : List RecD) (gT : Nat) (T : Trf) : Prop where
 l : LstAt w gR cs m cp rs
 t : w.heap[gT]? = some (trfO T)
section
variable {w w' : World} {gR m cp gT : Nat} {cs : Array Value} {rs : List RecD} {T : Trf}
theorem FbAt.bl (h : FbAt w gR cs m cp rs gT T) (k : Bl w.heap.size w w') : FbAt w' gR cs m cp rs gT T := ⟨h.l.bl k, (k.block gT (blk_lt h.t)).trans h.t⟩
theorem FbAt.below (h : FbAt w gR cs m cp rs gT T) (k : Below w.heap.size w w') : FbAt w' gR cs m cp rs gT T := h.bl ⟨k.size, k.block⟩
theorem FbAt.tp (h : FbAt w gR cs m cp rs gT T) (X : Tape) (e : Nat) : FbAt (Tt.tp w X e) gR cs m cp rs gT T := ⟨h.l.tp X e, h.t⟩
end
end Go.Proofs.Ytjcpjijihajopaa
namespace Go.Proofs.Ytjcpjijihajopaa
open Go.RowKit Go.Mt Go.Conc Go.Tt Go.Maps
theorem ar2t {t : Array Value} {a b : Nat} {x y : Value} {fn : FuncId} {td : List Item} (h1 : (Go.Act.mk t []).eval (.tmp a) = x) (h2 : (Go.Act.mk t []).eval (.tmp b) = y) :
   (#[.tmp a, .tmp b] : Array Operand).map (Fm.eval ⟨fn, t, td, false⟩) = #[x, y] := by
 rw [<- h1, <- h2]
 simp only [List.map_toArray, List.map_cons, List.map_nil]
 rfl
structure DFB24 (V : Nat -> Value) (gR m cp gT H : Nat) (rs : List RecD) (T : Trf) (N K : Int) : Prop where
 v2 : V 2 = .bool true
 v3 : V 3 = .pointer (some ⟨gT, 0, none⟩)
 v4 : V 4 = .slice (some ⟨gR, 0, none⟩) m cp
 v9 : V 9 = .int .i64 (N)
 v10 : V 10 = .int .i64 (N)
 v11 : V 11 = .int .i64 (K)
 v12 : V 12 = .int .i64 (K)
 v13 : V 13 = .int .i64 (N)
 v16 : V 16 = .int .i64 ((H : Int))
 v163 : V 163 = .int .i64 (N)
 v164 : V 164 = .int .i64 (N)
 v165 : V 165 = .bool true
 v166 : V 166 = .bool true
 v167 : V 167 = .int .i64 (N)
 v168 : V 168 = .int .i64 (N)
 v169 : V 169 = .bool true
 v170 : V 170 = .bool true
 v171 : V 171 = .bool true
 v172 : V 172 = .int .i64 (K)
 v173 : V 173 = .int .i64 (K)
 v174 : V 174 = .bool true
 v175 : V 175 = .bool true
 v176 : V 176 = .bool true
 v177 : V 177 = .int .i64 (N)
 v178 : V 178 = .agg #[.int .i64 T.f, .int .i64 T.s, .int .i64 T.p]
 v179 : V 179 = .slice (some ⟨gR, 0, none⟩) m cp
 v180 : V 180 = .int .i64 ((H : Int))
 v181 : V 181 = .slice (some ⟨gR, 0, none⟩) H cp
 v182 : V 182 = .int .i64 (totalM T (rs.take H))
 v183 : V 183 = .agg #[.int .i64 T.f, .int .i64 T.s, .int .i64 T.p]
 v184 : V 184 = .slice (some ⟨gR, 0, none⟩) m cp
 v185 : V 185 = .int .i64 ((H : Int))
 v186 : V 186 = .slice (if cp = H then some ⟨gR, 0, none⟩ else some ⟨gR, H * 7, none⟩) (m - H) (cp - H)
 v187 : V 187 = .int .i64 (totalM T (rs.drop H))
 v188 : V 188 = .int .i64 (N)
 v189 : V 189 = .bool true
 v190 : V 190 = .bool true
 hmc : m <= cp
 hH : H <= m
 hm : m <= 60
 hGg : Try.prog.globals.size <= gR
 hsum : IntKind.i64.wrap (totalM T (rs.take H) + totalM T (rs.drop H)) = N
section
variable {St : Nat -> Prop} {W0 : World} {Post : Value -> World -> Prop} {k : List Item} {ms : List Fm} {V : Nat -> Value} {Tf : Array Value} {gR m cp gT H : Nat} {rs : List RecD} {T : Trf} {N K : Int} {cs : Array Value}
abbrev JFB24 (St : Nat -> Prop) (W0 : World) (Post : Value -> World -> Prop) (k : List Item) (ms : List Fm) (Tf : Array Value) (gR : Nat) (cs : Array Value) (m : Nat) (cp : Nat) (rs : List RecD) (gT : Nat) (T : Trf) (i : Nat) (o : Oper) (v : Value) : Prop :=
 OpJ Try.prog (inL olL) (inL alL) fsF St W0 Post 8 opsFB24 k ms (λ w => FbAt w gR cs m cp rs gT T) Tf i o v
theorem dFB24_0 (E : DFB24 V gR m cp gT H rs T N K) (hT : TfV Tf V) : JFB24 St W0 Post k ms Tf gR cs m cp rs gT T 0 oFB24_0 (V 163) :=
 .val (wanted_no rfl) λ w _ => (exec_mv (.inl rfl) (evT hT E.v9)).trans (by rw [E.v163])
theorem dFB24_1 (E : DFB24 V gR m cp gT H rs T N K) (hT : TfV Tf V) : JFB24 St W0 Post k ms Tf gR cs m cp rs gT T 1 oFB24_1 (V 164) :=
 .val (wanted_no rfl) λ w _ => (exec_mv (.inl rfl) (evT hT E.v10)).trans (by rw [E.v164])
theorem dFB24_2 (E : DFB24 V gR m cp gT H rs T N K) (hT : TfV Tf V) : JFB24 St W0 Post k ms Tf gR cs m cp rs gT T 2 oFB24_2 (V 165) :=
 .val (wanted_no rfl) λ w _ => (exec_eql (r := true) rfl (evT hT E.v163) (evT hT E.v164) (by simp)).trans (by rw [E.v165])
theorem dFB24_3 (E : DFB24 V gR m cp gT H rs T N K) (hT : TfV Tf V) : JFB24 St W0 Post k ms Tf gR cs m cp rs gT T 3 oFB24_3 (V 166) :=
 .val (wanted_no rfl) λ w _ => (exec_mv (.inl rfl) (evT hT E.v165)).trans (by rw [E.v166])
theorem dFB24_4 (E : DFB24 V gR m cp gT H rs T N K) (hT : TfV Tf V) : JFB24 St W0 Post k ms Tf gR cs m cp rs gT T 4 oFB24_4 (V 167) :=
 .val (wanted_t hT rfl opsFB24_3 rfl E.v166) λ w _ => (exec_mv (.inl rfl) (evT hT E.v9)).trans (by rw [E.v167])
theorem dFB24_5 (E : DFB24 V gR m cp gT H rs T N K) (hT : TfV Tf V) : JFB24 St W0 Post k ms Tf gR cs m cp rs gT T 5 oFB24_5 (V 168) :=
 .val (wanted_t hT rfl opsFB24_3 rfl E.v166) λ w _ => (exec_mv (.inl rfl) (evT hT E.v13)).trans (by rw [E.v168])
theorem dFB24_6 (E : DFB24 V gR m cp gT H rs T N K) (hT : TfV Tf V) : JFB24 St W0 Post k ms Tf gR cs m cp rs gT T 6 oFB24_6 (V 169) :=
 .val (wanted_t hT rfl opsFB24_3 rfl E.v166) λ w _ => (exec_eql (r := true) rfl (evT hT E.v167) (evT hT E.v168) (by simp)).trans (by rw [E.v169])
theorem dFB24_7 (E : DFB24 V gR m cp gT H rs T N K) (hT : TfV Tf V) : JFB24 St W0 Post k ms Tf gR cs m cp rs gT T 7 oFB24_7 (V 170) :=
 .val (wanted_no rfl) λ w _ => (exec_pkT rfl (evT hT E.v166) (evT hT E.v169)).trans (by rw [E.v170])
theorem dFB24_8 (E : DFB24 V gR m cp gT H rs T N K) (hT : TfV Tf V) : JFB24 St W0 Post k ms Tf gR cs m cp rs gT T 8 oFB24_8 (V 171) :=
 .val (wanted_no rfl) λ w _ => (exec_mv (.inl rfl) (evT hT E.v170)).trans (by rw [E.v171])
theorem dFB24_9 (E : DFB24 V gR m cp gT H rs T N K) (hT : TfV Tf V) : JFB24 St W0 Post k ms Tf gR cs m cp rs gT T 9 oFB24_9 (V 172) :=
 .val (wanted_t hT rfl opsFB24_8 rfl E.v171) λ w _ => (exec_mv (.inl rfl) (evT hT E.v11)).trans (by rw [E.v172])
theorem dFB24_10 (E : DFB24 V gR m cp gT H rs T N K) (hT : TfV Tf V) : JFB24 St W0 Post k ms Tf gR cs m cp rs gT T 10 oFB24_10 (V 173) :=
 .val (wanted_t hT rfl opsFB24_8 rfl E.v171) λ w _ => (exec_mv (.inl rfl) (evT hT E.v12)).trans (by rw [E.v173])
theorem dFB24_11 (E : DFB24 V gR m cp gT H rs T N K) (hT : TfV Tf V) : JFB24 St W0 Post k ms Tf gR cs m cp rs gT T 11 oFB24_11 (V 174) :=
 .val (wanted_t hT rfl opsFB24_8 rfl E.v171) λ w _ => (exec_eql (r := true) rfl (evT hT E.v172) (evT hT E.v173) (by simp)).trans (by rw [E.v174])
theorem dFB24_12 (E : DFB24 V gR m cp gT H rs T N K) (hT : TfV Tf V) : JFB24 St W0 Post k ms Tf gR cs m cp rs gT T 12 oFB24_12 (V 175) :=
 .val (wanted_no rfl) λ w _ => (exec_pkT rfl (evT hT E.v171) (evT hT E.v174)).trans (by rw [E.v175])
theorem dFB24_13 (E : DFB24 V gR m cp gT H rs T N K) (hT : TfV Tf V) : JFB24 St W0 Post k ms Tf gR cs m cp rs gT T 13 oFB24_13 (V 176) :=
 .val (wanted_no rfl) λ w _ => (exec_mv (.inl rfl) (evT hT E.v175)).trans (by rw [E.v176])
theorem dFB24_14 (E : DFB24 V gR m cp gT H rs T N K) (hT : TfV Tf V) : JFB24 St W0 Post k ms Tf gR cs m cp rs gT T 14 oFB24_14 (V 177) :=
 .val (wanted_t hT rfl opsFB24_13 rfl E.v176) λ w _ => (exec_mv (.inl rfl) (evT hT E.v9)).trans (by rw [E.v177])
theorem dFB24_15 (E : DFB24 V gR m cp gT H rs T N K) (hT : TfV Tf V) : JFB24 St W0 Post k ms Tf gR cs m cp rs gT T 15 oFB24_15 (V 178) :=
 .val (wanted_t hT rfl opsFB24_13 rfl E.v176) λ w h => (exec_load (t := 32) (x := .tmp 3) (b := gT) rfl h.t (evT hT E.v3) Try.underlying32 rfl (by kernel_rfl)).trans (by rw [E.v178])
theorem dFB24_16 (E : DFB24 V gR m cp gT H rs T N K) (hT : TfV Tf V) : JFB24 St W0 Post k ms Tf gR cs m cp rs gT T 16 oFB24_16 (V 179) :=
 .val (wanted_t hT rfl opsFB24_13 rfl E.v176) λ w _ => (exec_mv (.inl rfl) (evT hT E.v4)).trans (by rw [E.v179])
theorem dFB24_17 (E : DFB24 V gR m cp gT H rs T N K) (hT : TfV Tf V) : JFB24 St W0 Post k ms Tf gR cs m cp rs gT T 17 oFB24_17 (V 180) :=
 .val (wanted_t hT rfl opsFB24_13 rfl E.v176) λ w _ => (exec_mv (.inl rfl) (evT hT E.v16)).trans (by rw [E.v180])
theorem dFB24_18 (E : DFB24 V gR m cp gT H rs T N K) (hT : TfV Tf V) : JFB24 St W0 Post k ms Tf gR cs m cp rs gT T 18 oFB24_18 (V 181) :=
 .val (wanted_t hT rfl opsFB24_13 rfl E.v176) λ w _ => (exec_sliceHi rfl (evT hT E.v179) (evT hT E.v180) E.hH E.hmc).trans (by rw [E.v181])
theorem dFB24_19 (E : DFB24 V gR m cp gT H rs T N K) (hT : TfV Tf V) : JFB24 St W0 Post k ms Tf gR cs m cp rs gT T 19 oFB24_19 (V 182) :=
 .call (wanted_t hT rfl opsFB24_13 rfl E.v176) λ t rest w hev hwt h hcont => jo_total (T := T) (A := some ⟨gR, 0, none⟩) (n := H) (cap := cp) (ops := opsFB24) (i := 19) (o := oFB24_19) (rs := rs.take H) rfl (by kernel_rfl) rfl opsFB24_19 hwt rfl (ar2t ((hev (.tmp 178) (by simp [Op.operands, Call.operands])).trans (evT hT E.v178)) ((hev (.tmp 181) (by simp [Op.operands, Call.operands])).trans (evT hT E.v181))) (h.l.src 0) (λ b' e => by cases e; exact E.hGg) (h.l.slcT E.hH) (by have := E.hm; have := E.hH; omega) (λ w' B => by have := hcont w' (h.bl B); rw [E.v182] at this; exact this)
theorem dFB24_20 (E : DFB24 V gR m cp gT H rs T N K) (hT : TfV Tf V) : JFB24 St W0 Post k ms Tf gR cs m cp rs gT T 20 oFB24_20 (V 183) :=
 .val (wanted_t hT rfl opsFB24_13 rfl E.v176) λ w h => (exec_load (t := 32) (x := .tmp 3) (b := gT) rfl h.t (evT hT E.v3) Try.underlying32 rfl (by kernel_rfl)).trans (by rw [E.v183])
theorem dFB24_21 (E : DFB24 V gR m cp gT H rs T N K) (hT : TfV Tf V) : JFB24 St W0 Post k ms Tf gR cs m cp rs gT T 21 oFB24_21 (V 184) :=
 .val (wanted_t hT rfl opsFB24_13 rfl E.v176) λ w _ => (exec_mv (.inl rfl) (evT hT E.v4)).trans (by rw [E.v184])
theorem dFB24_22 (E : DFB24 V gR m cp gT H rs T N K) (hT : TfV Tf V) : JFB24 St W0 Post k ms Tf gR cs m cp rs gT T 22 oFB24_22 (V 185) :=
 .val (wanted_t hT rfl opsFB24_13 rfl E.v176) λ w _ => (exec_mv (.inl rfl) (evT hT E.v16)).trans (by rw [E.v185])
theorem dFB24_23 (E : DFB24 V gR m cp gT H rs T N K) (hT : TfV Tf V) : JFB24 St W0 Post k ms Tf gR cs m cp rs gT T 23 oFB24_23 (V 186) :=
 .val (wanted_t hT rfl opsFB24_13 rfl E.v176) λ w _ => (exec_sliceLo rfl (evT hT E.v184) (evT hT E.v185) E.hH E.hmc).trans (by rw [E.v186])
theorem dFB24_24 (E : DFB24 V gR m cp gT H rs T N K) (hT : TfV Tf V) : JFB24 St W0 Post k ms Tf gR cs m cp rs gT T 24 oFB24_24 (V 187) :=
 .call (wanted_t hT rfl opsFB24_13 rfl E.v176) λ t rest w hev hwt h hcont => jo_total (T := T) (A := (if cp = H then some ⟨gR, 0, none⟩ else some ⟨gR, H * 7, none⟩)) (n := (m - H)) (cap := (cp - H)) (ops := opsFB24) (i := 24) (o := oFB24_24) (rs := rs.drop H) rfl (by kernel_rfl) rfl opsFB24_24 hwt rfl (ar2t ((hev (.tmp 183) (by simp [Op.operands, Call.operands])).trans (evT hT E.v183)) ((hev (.tmp 186) (by simp [Op.operands, Call.operands])).trans (evT hT E.v186))) (h.l.srcD H) (λ b' e => by cases e; exact E.hGg) (h.l.slcD E.hH) (by have := E.hm; have := E.hH; omega) (λ w' B => by have := hcont w' (h.bl B); rw [E.v187] at this; exact this)
theorem dFB24_25 (E : DFB24 V gR m cp gT H rs T N K) (hT : TfV Tf V) : JFB24 St W0 Post k ms Tf gR cs m cp rs gT T 25 oFB24_25 (V 188) :=
 .val (wanted_t hT rfl opsFB24_13 rfl E.v176) λ w _ => (exec_add rfl (evT hT E.v182) (evT hT E.v187) E.hsum).trans (by rw [E.v188])
theorem dFB24_26 (E : DFB24 V gR m cp gT H rs T N K) (hT : TfV Tf V) : JFB24 St W0 Post k ms Tf gR cs m cp rs gT T 26 oFB24_26 (V 189) :=
 .val (wanted_t hT rfl opsFB24_13 rfl E.v176) λ w _ => (exec_eql (r := true) rfl (evT hT E.v177) (evT hT E.v188) (by simp)).trans (by rw [E.v189])
theorem dFB24_27 (E : DFB24 V gR m cp gT H rs T N K) (hT : TfV Tf V) : JFB24 St W0 Post k ms Tf gR cs m cp rs gT T 27 oFB24_27 (V 190) :=
 .val (wanted_no rfl) λ w _ => (exec_pkT rfl (evT hT E.v176) (evT hT E.v189)).trans (by rw [E.v190])
theorem dFB24_28 (E : DFB24 V gR m cp gT H rs T N K) (hT : TfV Tf V) : JFB24 St W0 Post k ms Tf gR cs m cp rs gT T 28 oFB24_28 (V 2) :=
 .val (wanted_no rfl) λ w _ => (exec_mv (.inr rfl) (evT hT E.v190)).trans (by rw [E.v2])
theorem opsFB24_listFB24 : opsFB24.toList = [oFB24_0, oFB24_1, oFB24_2, oFB24_3, oFB24_4, oFB24_5, oFB24_6, oFB24_7, oFB24_8, oFB24_9, oFB24_10, oFB24_11, oFB24_12, oFB24_13, oFB24_14, oFB24_15, oFB24_16, oFB24_17, oFB24_18, oFB24_19, oFB24_20, oFB24_21, oFB24_22, oFB24_23, oFB24_24, oFB24_25, oFB24_26, oFB24_27, oFB24_28] := rfl
theorem dFB24_all (E : DFB24 V gR m cp gT H rs T N K) (hT : TfV Tf V) : ∀ (i : Nat) (o : Oper), opsFB24[i]? = some o -> JFB24 St W0 Post k ms Tf gR cs m cp rs gT T i o (valV V o) :=
 allL_ops opsFB24_listFB24 ⟨dFB24_0 E hT, dFB24_1 E hT, dFB24_2 E hT, dFB24_3 E hT, dFB24_4 E hT, dFB24_5 E hT, dFB24_6 E hT, dFB24_7 E hT, dFB24_8 E hT, dFB24_9 E hT, dFB24_10 E hT, dFB24_11 E hT, dFB24_12 E hT, dFB24_13 E hT, dFB24_14 E hT, dFB24_15 E hT, dFB24_16 E hT, dFB24_17 E hT, dFB24_18 E hT, dFB24_19 E hT, dFB24_20 E hT, dFB24_21 E hT, dFB24_22 E hT, dFB24_23 E hT, dFB24_24 E hT, dFB24_25 E hT, dFB24_26 E hT, dFB24_27 E hT, dFB24_28 E hT, trivial⟩
end
theorem opsFB24_ok : ordOk opsFB24 = true := by kernel_rfl
theorem opsFB24_sz : ∀ s, isDst opsFB24 s = true -> s < 191 := isDst_lt (by kernel_rfl)
set_option maxRecDepth 100000 in
theorem fb_drawn {St : Nat -> Prop} {W0 : World} {Post : Value -> World -> Prop} {w : World} {gR m cp gT H : Nat} {cs : Array Value} {rs : List RecD} {T : Trf} {N K : Int} {t0 : Array Value} (hz : t0.size = 191) (h3 : t0.getD 3 undef = .pointer (some ⟨gT, 0, none⟩)) (h4 : t0.getD 4 undef = .slice (some ⟨gR, 0, none⟩) m cp) (h9 : t0.getD 9 undef = .int .i64 (N)) (h10 : t0.getD 10 undef = .int .i64 (N)) (h11 : t0.getD 11 undef = .int .i64 (K)) (h12 : t0.getD 12 undef = .int .i64 (K)) (h13 : t0.getD 13 undef = .int .i64 (N)) (h16 : t0.getD 16 undef = .int .i64 ((H : Int)))
   (HL : FbAt w gR cs m cp rs gT T) (hmc : m <= cp) (hH : H <= m) (hm : m <= 60) (hGg : Try.prog.globals.size <= gR) (hsum : IntKind.i64.wrap (totalM T (rs.take H) + totalM T (rs.drop H)) = N)
   (hend : ∀ (tmps : Array Value) (td : List Item) (w' : World), tmps.getD 2 undef = .bool true -> JE St W0 Post ⟨8, tmps, td, true⟩ [] w') :
   JE St W0 Post ⟨8, t0, .code (.region 24 opsFB24 true) :: [.code .ret], false⟩ [] w := by
 have L := lvF
 have hfo : inL olL 8 = false := by kernel_rfl
 refine JO.drawnV L Try.checked.mixed hfo opsFB24_ok (WI := λ w => FbAt w gR cs m cp rs gT T) (λ w T e h => h.tp T e) (by rw [hz]; exact opsFB24_sz) (λ s => (#[undef, undef, .bool true, undef, undef, undef, undef, undef, undef, undef, undef, undef, undef, undef, undef, undef, undef, undef, undef, undef, undef, undef, undef, undef, undef, undef, undef, undef, undef, undef, undef, undef, undef, undef, undef, undef, undef, undef, undef, undef, undef, undef, undef, undef, undef, undef, undef, undef, undef, undef, undef, undef, undef, undef, undef, undef, undef, undef, undef, undef, undef, undef, undef, undef, undef, undef, undef, undef, undef, undef, undef, undef, undef, undef, undef, undef, undef, undef, undef, undef, undef, undef, undef, undef, undef, undef, undef, undef, undef, undef, undef, undef, undef, undef, undef, undef, undef, undef, undef, undef, undef, undef, undef, undef, undef, undef, undef, undef, undef, undef, undef, undef, undef, undef, undef, undef, undef, undef, undef, undef, undef, undef, undef, undef, undef, undef, undef, undef, undef, undef, undef, undef, undef, undef, undef, undef, undef, undef, undef, undef, undef, undef, undef, undef, undef, undef, undef, undef, undef, undef, undef, undef, undef, undef, undef, undef, undef, undef, undef, undef, undef, undef, undef, .int .i64 (N), .int .i64 (N), .bool true, .bool true, .int .i64 (N), .int .i64 (N), .bool true, .bool true, .bool true, .int .i64 (K), .int .i64 (K), .bool true, .bool true, .bool true, .int .i64 (N), .agg #[.int .i64 T.f, .int .i64 T.s, .int .i64 T.p], .slice (some ⟨gR, 0, none⟩) m cp, .int .i64 ((H : Int)), .slice (some ⟨gR, 0, none⟩) H cp, .int .i64 (totalM T (rs.take H)), .agg #[.int .i64 T.f, .int .i64 T.s, .int .i64 T.p], .slice (some ⟨gR, 0, none⟩) m cp, .int .i64 ((H : Int)), .slice (if cp = H then some ⟨gR, 0, none⟩ else some ⟨gR, H * 7, none⟩) (m - H) (cp - H), .int .i64 (totalM T (rs.drop H)), .int .i64 (N), .bool true, .bool true] : Array Value).getD s undef) (λ V hU h0 => ?_) HL
 have E : DFB24 V gR m cp gT H rs T N K := ⟨(hU 2 (by kernel_rfl)).trans rfl, (h0 3 (by kernel_rfl)).trans h3, (h0 4 (by kernel_rfl)).trans h4, (h0 9 (by kernel_rfl)).trans h9, (h0 10 (by kernel_rfl)).trans h10, (h0 11 (by kernel_rfl)).trans h11, (h0 12 (by kernel_rfl)).trans h12, (h0 13 (by kernel_rfl)).trans h13, (h0 16 (by kernel_rfl)).trans h16, (hU 163 (by kernel_rfl)).trans rfl, (hU 164 (by kernel_rfl)).trans rfl, (hU 165 (by kernel_rfl)).trans rfl, (hU 166 (by kernel_rfl)).trans rfl, (hU 167 (by kernel_rfl)).trans rfl, (hU 168 (by kernel_rfl)).trans rfl, (hU 169 (by kernel_rfl)).trans rfl, (hU 170 (by kernel_rfl)).trans rfl, (hU 171 (by kernel_rfl)).trans rfl, (hU 172 (by kernel_rfl)).trans rfl, (hU 173 (by kernel_rfl)).trans rfl, (hU 174 (by kernel_rfl)).trans rfl, (hU 175 (by kernel_rfl)).trans rfl, (hU 176 (by kernel_rfl)).trans rfl, (hU 177 (by kernel_rfl)).trans rfl, (hU 178 (by kernel_rfl)).trans rfl, (hU 179 (by kernel_rfl)).trans rfl, (hU 180 (by kernel_rfl)).trans rfl, (hU 181 (by kernel_rfl)).trans rfl, (hU 182 (by kernel_rfl)).trans rfl, (hU 183 (by kernel_rfl)).trans rfl, (hU 184 (by kernel_rfl)).trans rfl, (hU 185 (by kernel_rfl)).trans rfl, (hU 186 (by kernel_rfl)).trans rfl, (hU 187 (by kernel_rfl)).trans rfl, (hU 188 (by kernel_rfl)).trans rfl, (hU 189 (by kernel_rfl)).trans rfl, (hU 190 (by kernel_rfl)).trans rfl, hmc, hH, hm, hGg, hsum⟩
 exact ⟨λ Tf hT => dFB24_all E hT, λ Tf w hT hz hw => JO.ret L hfo (hend _ _ _ ((hT 2).trans E.v2))⟩
end Go.Proofs.Ytjcpjijihajopaa
namespace Go.Proofs.Ytjcpjijihajopaa
open Go.RowKit Go.Mt Go.Conc Go.Tt Go.Maps
theorem Slc.heq {w w' : World} {lo hi s n c : Nat} {A : Option Addr} {xs : List Value} (h : Slc w lo hi s A n c xs) (e : w'.heap = w.heap) : Slc w' lo hi s A n c xs :=
 h.keep (by rw [e]; exact Nat.le_refl _) λ b _ _ _ => by rw [e]
theorem FbAt.heq {w w' : World} {gR m cp gT : Nat} {cs : Array Value} {rs : List RecD} {T : Trf} (h : FbAt w gR cs m cp rs gT T) (e : w'.heap = w.heap) : FbAt w' gR cs m cp rs gT T :=
 ⟨⟨by rw [e]; exact h.l.blk, h.l.uni, h.l.cell, h.l.len, h.l.le, h.l.cap⟩, by rw [e]; exact h.t⟩
theorem FbAt.drew {w : World} {gR m cp gT : Nat} {cs : Array Value} {rs : List RecD} {T : Trf} (h : FbAt w gR cs m cp rs gT T) : FbAt w.drew gR cs m cp rs gT T := h.heq rfl
section
variable {w w' : World} {gR m cp gT k : Nat} {cs : Array Value} {rs : List RecD} {T : Trf} {d : RecD}
theorem fb_cells (h : FbAt w gR cs m cp rs gT T) (hk : k < m) (hx : rs[k]? = some d) : w.cell? ⟨gR, k * 7, none⟩ = some (.int .i64 d.c) /\ w.cell? ⟨gR, k * 7 + 1, none⟩ = some (.int .i64 d.l) /\ w.cell? ⟨gR, k * 7 + 2, none⟩ = some (.int .i64 d.o) /\ w.cell? ⟨gR, k * 7 + 3, none⟩ = some (.int .i64 d.f) /\ w.cell? ⟨gR, k * 7 + 4, none⟩ = some (.int .i64 d.h) /\ w.cell? ⟨gR, k * 7 + 5, none⟩ = some (.int .i64 d.t) /\ w.cell? ⟨gR, k * 7 + 6, none⟩ = some (.string d.e) /\ w.cell? ⟨gT, 0, none⟩ = some (.int .i64 T.f) /\ w.cell? ⟨gT, 1, none⟩ = some (.int .i64 T.s) /\ w.cell? ⟨gT, 2, none⟩ = some (.int .i64 T.p) /\ FbAt w gR cs m cp rs gT T := by
 obtain ⟨b, off, d', hA, _, _, h3, hxk, hv0, hv1, hv2, hv3, hv4, hv5, hv6⟩ := h.l.slc.rec7 hk
 injection hA with hA
 injection hA with hA1 hA2
 subst hA1 hA2
 rw [Nat.zero_add] at hv0 hv1 hv2 hv3 hv4 hv5 hv6
 rw [hx] at hxk
 injection hxk with e
 subst e
 have kt := h.t
 exact ⟨hv0, hv1, hv2, hv3, hv4, hv5, hv6, blk_cell kt 0, blk_cell kt 1, blk_cell kt 2, h⟩
theorem fb_cells_below (hk : k < m) (hx : rs[k]? = some d) (hb : Below w.heap.size w w') (h : w.cell? ⟨gR, k * 7, none⟩ = some (.int .i64 d.c) /\ w.cell? ⟨gR, k * 7 + 1, none⟩ = some (.int .i64 d.l) /\ w.cell? ⟨gR, k * 7 + 2, none⟩ = some (.int .i64 d.o) /\ w.cell? ⟨gR, k * 7 + 3, none⟩ = some (.int .i64 d.f) /\ w.cell? ⟨gR, k * 7 + 4, none⟩ = some (.int .i64 d.h) /\ w.cell? ⟨gR, k * 7 + 5, none⟩ = some (.int .i64 d.t) /\ w.cell? ⟨gR, k * 7 + 6, none⟩ = some (.string d.e) /\ w.cell? ⟨gT, 0, none⟩ = some (.int .i64 T.f) /\ w.cell? ⟨gT, 1, none⟩ = some (.int .i64 T.s) /\ w.cell? ⟨gT, 2, none⟩ = some (.int .i64 T.p) /\ FbAt w gR cs m cp rs gT T) : w'.cell? ⟨gR, k * 7, none⟩ = some (.int .i64 d.c) /\ w'.cell? ⟨gR, k * 7 + 1, none⟩ = some (.int .i64 d.l) /\ w'.cell? ⟨gR, k * 7 + 2, none⟩ = some (.int .i64 d.o) /\ w'.cell? ⟨gR, k * 7 + 3, none⟩ = some (.int .i64 d.f) /\ w'.cell? ⟨gR, k * 7 + 4, none⟩ = some (.int .i64 d.h) /\ w'.cell? ⟨gR, k * 7 + 5, none⟩ = some (.int .i64 d.t) /\ w'.cell? ⟨gR, k * 7 + 6, none⟩ = some (.string d.e) /\ w'.cell? ⟨gT, 0, none⟩ = some (.int .i64 T.f) /\ w'.cell? ⟨gT, 1, none⟩ = some (.int .i64 T.s) /\ w'.cell? ⟨gT, 2, none⟩ = some (.int .i64 T.p) /\ FbAt w' gR cs m cp rs gT T :=
 fb_cells (h.2.2.2.2.2.2.2.2.2.2.below hb) hk hx
theorem fb_cells_drew (h : w.cell? ⟨gR, k * 7, none⟩ = some (.int .i64 d.c) /\ w.cell? ⟨gR, k * 7 + 1, none⟩ = some (.int .i64 d.l) /\ w.cell? ⟨gR, k * 7 + 2, none⟩ = some (.int .i64 d.o) /\ w.cell? ⟨gR, k * 7 + 3, none⟩ = some (.int .i64 d.f) /\ w.cell? ⟨gR, k * 7 + 4, none⟩ = some (.int .i64 d.h) /\ w.cell? ⟨gR, k * 7 + 5, none⟩ = some (.int .i64 d.t) /\ w.cell? ⟨gR, k * 7 + 6, none⟩ = some (.string d.e) /\ w.cell? ⟨gT, 0, none⟩ = some (.int .i64 T.f) /\ w.cell? ⟨gT, 1, none⟩ = some (.int .i64 T.s) /\ w.cell? ⟨gT, 2, none⟩ = some (.int .i64 T.p) /\ FbAt w gR cs m cp rs gT T) : w.drew.cell? ⟨gR, k * 7, none⟩ = some (.int .i64 d.c) /\ w.drew.cell? ⟨gR, k * 7 + 1, none⟩ = some (.int .i64 d.l) /\ w.drew.cell? ⟨gR, k * 7 + 2, none⟩ = some (.int .i64 d.o) /\ w.drew.cell? ⟨gR, k * 7 + 3, none⟩ = some (.int .i64 d.f) /\ w.drew.cell? ⟨gR, k * 7 + 4, none⟩ = some (.int .i64 d.h) /\ w.drew.cell? ⟨gR, k * 7 + 5, none⟩ = some (.int .i64 d.t) /\ w.drew.cell? ⟨gR, k * 7 + 6, none⟩ = some (.string d.e) /\ w.drew.cell? ⟨gT, 0, none⟩ = some (.int .i64 T.f) /\ w.drew.cell? ⟨gT, 1, none⟩ = some (.int .i64 T.s) /\ w.drew.cell? ⟨gT, 2, none⟩ = some (.int .i64 T.p) /\ FbAt w.drew gR cs m cp rs gT T :=
 ⟨h.1, h.2.1, h.2.2.1, h.2.2.2.1, h.2.2.2.2.1, h.2.2.2.2.2.1, h.2.2.2.2.2.2.1, h.2.2.2.2.2.2.2.1, h.2.2.2.2.2.2.2.2.1, h.2.2.2.2.2.2.2.2.2.1, h.2.2.2.2.2.2.2.2.2.2.drew⟩
end
theorem totalM_bound (T : Trf) (rs : List RecD) : -1 <= totalM T rs /\ totalM T rs <= 21740400000 := by
 by_cases h : billOk T rs = true
 . rw [totalM_bills h]
   have := sumB_le (v := (·.g)) (B := 219600000) (by omega) (λ b hb => (bills_at h hb).2.2) (billsM T rs).length
   rw [List.take_of_length_le (Nat.le_refl _)] at this
   unfold sumB at this
   have := bills_few T rs
   omega
 . unfold totalM
   rw [if_neg h]
   omega
section
variable {St : Nat -> Prop} {W0 : World} {Post : Value -> World -> Prop}
set_option maxHeartbeats 16000000 in
set_option maxRecDepth 100000 in
theorem jo_fb3 {w : World} {gR m cp gT : Nat} {cs : Array Value} {rs : List RecD} {T : Trf} {N K : Int} {v0 v1 v2 v5 v6 v7 v8 u14 u15 u16 u17 u18 u19 u20 u21 u22 u23 u24 u25 u26 u27 u28 u29 u30 u31 u32 u33 u34 u35 u36 u37 u38 u39 u40 u41 u42 u43 u44 u45 u46 u47 u48 u49 u50 u51 u52 u53 u54 u55 u56 u57 u58 u59 u60 u61 u62 u63 u64 u65 u66 u67 u68 u69 u70 u71 u72 u73 u74 u75 u76 u77 u78 u79 u80 u81 u82 u83 u84 u85 u86 u87 u88 u89 u90 u91 u92 u93 u94 u95 u96 u97 u98 u99 u100 u101 u102 u103 u104 u105 u106 u107 u108 u109 u110 u111 u112 u113 u114 u115 u116 u117 u118 u119 u120 u121 u122 u123 u124 u125 u126 u127 u128 u129 u130 u131 u132 u133 u134 u135 u136 u137 u138 u139 u140 u141 u142 u143 u144 u145 u146 u147 u148 u149 u150 u151 u152 u153 u154 u155 u156 u157 u158 u159 u160 u161 u162 u163 u164 u165 u166 u167 u168 u169 u170 u171 u172 u173 u174 u175 u176 u177 u178 u179 u180 u181 u182 u183 u184 u185 u186 u187 u188 u189 u190 : Value}
   (HL : FbAt w gR cs m cp rs gT T) (hGg : Try.prog.globals.size <= gR) (hm60 : m <= 60) (HT : Hid (true = billOk T rs)) (HN : Hid (N = totalM T rs)) (HC : Hid (N = sumR (chF T) rs)) (HK : Hid (K = sumR doneF rs))
   (hend : ∀ (tmps : Array Value) (td : List Item) (w' : World), tmps.getD 2 undef = .bool true -> JE St W0 Post ⟨8, tmps, td, true⟩ [] w') :
   JE St W0 Post ⟨8, #[v0, v1, v2, .pointer (some ⟨gT, 0, none⟩), .slice (some ⟨gR, 0, none⟩) m cp, v5, v6, v7, v8, .int .i64 N, .int .i64 N, .int .i64 K, .int .i64 0, .int .i64 0, u14, u15, u16, u17, u18, u19, u20, u21, u22, u23, u24, u25, u26, u27, u28, u29, u30, u31, u32, u33, u34, u35, u36, u37, u38, u39, u40, u41, u42, u43, u44, u45, u46, u47, u48, u49, u50, u51, u52, u53, u54, u55, u56, u57, u58, u59, u60, u61, u62, u63, u64, u65, u66, u67, u68, u69, u70, u71, u72, u73, u74, u75, u76, u77, u78, u79, u80, u81, u82, u83, u84, u85, u86, u87, u88, u89, u90, u91, u92, u93, u94, u95, u96, u97, u98, u99, u100, u101, u102, u103, u104, u105, u106, u107, u108, u109, u110, u111, u112, u113, u114, u115, u116, u117, u118, u119, u120, u121, u122, u123, u124, u125, u126, u127, u128, u129, u130, u131, u132, u133, u134, u135, u136, u137, u138, u139, u140, u141, u142, u143, u144, u145, u146, u147, u148, u149, u150, u151, u152, u153, u154, u155, u156, u157, u158, u159, u160, u161, u162, u163, u164, u165, u166, u167, u168, u169, u170, u171, u172, u173, u174, u175, u176, u177, u178, u179, u180, u181, u182, u183, u184, u185, u186, u187, u188, u189, u190], [.code (.seq (.seq rFB17 bFB18) (.seq rFB23 (.seq rFB24 .ret)))], false⟩ [] w := by
 have L := lvF
 have hfo : inL olL 8 = false := by kernel_rfl
 have hok := HT.out.symm
 have hlen := Lib.hid HL.l.len
 refine JO.seq L hfo ?_
 refine JO.seq L hfo ?_
 refine JO.pieceQ L (by kernel_rfl) hfo (λ Tp Q HQ => ?_)
 simp only [rFB17, bodyFB, Try.f8, Option.getD_some]
 replace HL := HL.tp Tp 0
 generalize Tt.tp w Tp 0 = w1 at HL ⊢
 go_wp2
 refine HQ.out _ _ ?_
 clear HQ
 refine JO.pieceQ L (by kernel_rfl) hfo (λ Tp Q HQ => ?_)
 simp only [bFB18, bodyFB, Try.f8, Option.getD_some]
 replace HL := HL.tp Tp 0
 generalize Tt.tp w1 Tp 0 = w2 at HL ⊢
 have HS := Lib.hid HL
 clear HL
 go_wp2_with fail
 go_loopw [12, 13, 15] (λ q s i wr => ∃ k : Nat, k <= m /\ q = .int .i64 (sumR doneF (rs.take k)) /\ s = .int .i64 (sumR (chF T) (rs.take k)) /\ i = .int .i64 k /\ FbAt wr gR cs m cp rs gT T) (λ _ _ i _ => m - (intOf i).toNat)
 case atStart => exact ⟨0, Nat.zero_le _, rfl, rfl, rfl, HS.out⟩
 case round =>
   obtain ⟨k, hk, rfl, rfl, rfl, hF⟩ := hrel
   have HF := Lib.hid hF
   by_cases hlt : k < m
   . obtain ⟨b, off, d, hA, _, _, h3, hxk, hv0, hv1, hv2, hv3, hv4, hv5, hv6⟩ := hF.l.slc.rec7 hlt
     injection hA with hA
     injection hA with hA1 hA2
     subst hA1 hA2
     rw [Nat.zero_add] at hv0 hv1 hv2 hv3 hv4 hv5 hv6
     obtain ⟨S, hS⟩ : ∃ S, S = sumR (chF T) (rs.take k) := ⟨_, rfl⟩
     obtain ⟨Q, hQ⟩ : ∃ Q, Q = sumR doneF (rs.take k) := ⟨_, rfl⟩
     have bS := chF_sum hok k
     have bQ := doneF_sum hok k
     have eS := sumR_succ (f := chF T) hxk
     have eQ := sumR_succ (f := doneF) hxk
     have bC := chF_bound hok d (List.mem_of_getElem? hxk)
     rw [<- hS] at bS eS ⊢
     rw [<- hQ] at bQ eQ ⊢
     have i0 : (0 : Int) <= (k : Int) := by omega
     have i1 : (k : Int) < (m : Int) := by omega
     cases hdn : (d.e.toList == [100, 111, 110, 101])
     . have hn : isDone d = false := hdn
       have ES := Lib.hid (show sumR (chF T) (rs.take (k + 1)) = S by rw [eS]; unfold chF; simp [hn])
       have EQ := Lib.hid (show sumR doneF (rs.take (k + 1)) = Q by rw [eQ]; unfold doneF; simp [hn])
       clear eS eQ bS bQ bC hS hQ hxk hv1 hv2 hv3 hv4 hv5 hF hn
       go_wp2
       go_roundw
       case rel => exact ⟨k + 1, by omega, by rw [EQ.out], by rw [ES.out], by go_num, HF.out⟩
       case measure => simp [intOf]; omega
     . have hn : isDone d = true := hdn
       obtain ⟨tk, htk⟩ : ∃ y, y = talkD d := ⟨_, rfl⟩
       obtain ⟨cg, hcg⟩ : ∃ y, y = chargeOfF T.f T.s T.p tk := ⟨_, rfl⟩
       have ec : chF T d = cg := by unfold chF; rw [if_pos hn, <- htk, hcg]
       rw [ec] at eS bC
       have eq1 : doneF d = 1 := if_pos hn
       rw [eq1] at eQ
       have ES := Lib.hid eS
       have EQ := Lib.hid eQ
       have HTK := Lib.hid htk
       have HCG := Lib.hid hcg
       have X1 := (IntWalk.i64_left _).trans (IntWalk.wrap64_in (S + cg) (by omega))
       have X2 := (IntWalk.i64_left _).trans (IntWalk.wrap64_in (Q + 1) (by omega))
       have S0 := fb_cells hF hlt hxk
       have HXK := Lib.hid hxk
       have HLT := Lib.hid hlt
       clear eS eQ bS bQ bC hS hQ hxk hF hn htk hcg ec eq1 h3 hv0 hv1 hv2 hv3 hv4 hv5
       go_upto_region 22 with fail
       clear hv6
       go_region_held3 (λ W => W.cell? ⟨gR, k * 7, none⟩ = some (.int .i64 d.c) /\ W.cell? ⟨gR, k * 7 + 1, none⟩ = some (.int .i64 d.l) /\ W.cell? ⟨gR, k * 7 + 2, none⟩ = some (.int .i64 d.o) /\ W.cell? ⟨gR, k * 7 + 3, none⟩ = some (.int .i64 d.f) /\ W.cell? ⟨gR, k * 7 + 4, none⟩ = some (.int .i64 d.h) /\ W.cell? ⟨gR, k * 7 + 5, none⟩ = some (.int .i64 d.t) /\ W.cell? ⟨gR, k * 7 + 6, none⟩ = some (.string d.e) /\ W.cell? ⟨gT, 0, none⟩ = some (.int .i64 T.f) /\ W.cell? ⟨gT, 1, none⟩ = some (.int .i64 T.s) /\ W.cell? ⟨gT, 2, none⟩ = some (.int .i64 T.p) /\ FbAt W gR cs m cp rs gT T)
         (first | exact fb_cells_drew S0 | exact fb_cells_below HLT.out HXK.out (by assumption) (by assumption))
         (first
           | (go_at_call 28; refine (impl_TalkMinutes _ _ _ _ _ _ _ _).mono ?_; rintro x w3 ⟨rfl, b3⟩; rw [show talkF d.c d.l d.o d.f d.h d.t d.e.toList = tk from HTK.out.symm])
           | (go_at_call 27; refine (impl_ChargeOf _ _ _ _ _).mono ?_; rintro x w6 ⟨rfl, b6⟩; rw [show chargeOfF T.f T.s T.p tk = cg from HCG.out.symm]))
       have HF5 := Lib.hid (show FbAt w6 gR cs m cp rs gT T by
         have S1 : w6.cell? ⟨gR, k * 7, none⟩ = some (.int .i64 d.c) /\ w6.cell? ⟨gR, k * 7 + 1, none⟩ = some (.int .i64 d.l) /\ w6.cell? ⟨gR, k * 7 + 2, none⟩ = some (.int .i64 d.o) /\ w6.cell? ⟨gR, k * 7 + 3, none⟩ = some (.int .i64 d.f) /\ w6.cell? ⟨gR, k * 7 + 4, none⟩ = some (.int .i64 d.h) /\ w6.cell? ⟨gR, k * 7 + 5, none⟩ = some (.int .i64 d.t) /\ w6.cell? ⟨gR, k * 7 + 6, none⟩ = some (.string d.e) /\ w6.cell? ⟨gT, 0, none⟩ = some (.int .i64 T.f) /\ w6.cell? ⟨gT, 1, none⟩ = some (.int .i64 T.s) /\ w6.cell? ⟨gT, 2, none⟩ = some (.int .i64 T.p) /\ FbAt w6 gR cs m cp rs gT T := by assumption
         exact S1.2.2.2.2.2.2.2.2.2.2)
       clear S0
       go_wp2
       go_roundw
       case rel => exact ⟨k + 1, by have := HLT.out; omega, by rw [EQ.out], by rw [ES.out], by go_num, HF5.out⟩
       case measure => have := HLT.out; simp [intOf]; omega
   . have e : k = m := by omega
     subst e
     have e1 : sumR (chF T) (rs.take k) = N := by rw [HC.out, List.take_of_length_le (by rw [hlen.out]; exact Nat.le_refl _)]
     have e2 : sumR doneF (rs.take k) = K := by rw [HK.out, List.take_of_length_le (by rw [hlen.out]; exact Nat.le_refl _)]
     rw [e1, e2]
     clear e1 e2 hF
     go_wp2
     refine HQ.out _ _ ?_
     clear HQ
     refine JO.seq L hfo ?_
     refine JO.pieceQ L (by kernel_rfl) hfo (λ Tp Q HQ => ?_)
     simp only [rFB23, bodyFB, Try.f8, Option.getD_some]
     have HL := HF.out.tp Tp 0
     generalize Tt.tp wr Tp 0 = w5 at HL ⊢
     go_wp2
     refine HQ.out _ _ ?_
     clear HQ
     have eH : ((k : Int) / 2) = ((k / 2 : Nat) : Int) := by omega
     rw [eH]
     have hs1 := totalM_split hok (k / 2)
     have hb1 := totalM_bound T (rs.take (k / 2))
     have hb2 := totalM_bound T (rs.drop (k / 2))
     refine JO.seq L hfo ?_
     rw [rFB24_eq]
     exact fb_drawn rfl rfl rfl rfl rfl rfl rfl rfl rfl HL HL.l.le (by omega) hm60 hGg (by rw [wrap_id (by omega) (by omega), <- hs1]; exact HN.out.symm) hend
set_option maxHeartbeats 16000000 in
set_option maxRecDepth 100000 in
theorem jo_fb2 {w : World} {gR m cp gT n1 c1 c2 lo1 hi1 lo2 hi2 : Nat} {A1 A2 : Option Addr} {cs : Array Value} {rs : List RecD} {T : Trf} {N : Int} {B : List BillD} {v0 v1 v2 u10 u11 u12 u13 u14 u15 u16 u17 u18 u19 u20 u21 u22 u23 u24 u25 u26 u27 u28 u29 u30 u31 u32 u33 u34 u35 u36 u37 u38 u39 u40 u41 u42 u43 u44 u45 u46 u47 u48 u49 u50 u51 u52 u53 u54 u55 u56 u57 u58 u59 u60 u61 u62 u63 u64 u65 u66 u67 u68 u69 u70 u71 u72 u73 u74 u75 u76 u77 u78 u79 u80 u81 u82 u83 u84 u85 u86 u87 u88 u89 u90 u91 u92 u93 u94 u95 u96 u97 u98 u99 u100 u101 u102 u103 u104 u105 u106 u107 u108 u109 u110 u111 u112 u113 u114 u115 u116 u117 u118 u119 u120 u121 u122 u123 u124 u125 u126 u127 u128 u129 u130 u131 u132 u133 u134 u135 u136 u137 u138 u139 u140 u141 u142 u143 u144 u145 u146 u147 u148 u149 u150 u151 u152 u153 u154 u155 u156 u157 u158 u159 u160 u161 u162 u163 u164 u165 u166 u167 u168 u169 u170 u171 u172 u173 u174 u175 u176 u177 u178 u179 u180 u181 u182 u183 u184 u185 u186 u187 u188 u189 u190 : Value}
   (HL : FbAt w gR cs m cp rs gT T) (hGg : Try.prog.globals.size <= gR) (hm60 : m <= 60) (HT : Hid (true = billOk T rs)) (HN : Hid (N = totalM T rs)) (HB : Hid (B = billsM T rs)) (hs1 : Slc w lo1 hi1 4 A1 n1 c1 (bills B)) (hs2 : Slc w lo2 hi2 4 A2 n1 c2 (bills B))
   (hend : ∀ (tmps : Array Value) (td : List Item) (w' : World), tmps.getD 2 undef = .bool true -> JE St W0 Post ⟨8, tmps, td, true⟩ [] w') :
   JE St W0 Post ⟨8, #[v0, v1, v2, .pointer (some ⟨gT, 0, none⟩), .slice (some ⟨gR, 0, none⟩) m cp, .slice A1 n1 c1, .bool true, .slice A2 n1 c2, .bool true, .int .i64 N, u10, u11, u12, u13, u14, u15, u16, u17, u18, u19, u20, u21, u22, u23, u24, u25, u26, u27, u28, u29, u30, u31, u32, u33, u34, u35, u36, u37, u38, u39, u40, u41, u42, u43, u44, u45, u46, u47, u48, u49, u50, u51, u52, u53, u54, u55, u56, u57, u58, u59, u60, u61, u62, u63, u64, u65, u66, u67, u68, u69, u70, u71, u72, u73, u74, u75, u76, u77, u78, u79, u80, u81, u82, u83, u84, u85, u86, u87, u88, u89, u90, u91, u92, u93, u94, u95, u96, u97, u98, u99, u100, u101, u102, u103, u104, u105, u106, u107, u108, u109, u110, u111, u112, u113, u114, u115, u116, u117, u118, u119, u120, u121, u122, u123, u124, u125, u126, u127, u128, u129, u130, u131, u132, u133, u134, u135, u136, u137, u138, u139, u140, u141, u142, u143, u144, u145, u146, u147, u148, u149, u150, u151, u152, u153, u154, u155, u156, u157, u158, u159, u160, u161, u162, u163, u164, u165, u166, u167, u168, u169, u170, u171, u172, u173, u174, u175, u176, u177, u178, u179, u180, u181, u182, u183, u184, u185, u186, u187, u188, u189, u190], [.code (.seq rFB9 (.seq (.seq rFB10 bFB11) (.seq (.seq rFB17 bFB18) (.seq rFB23 (.seq rFB24 .ret)))))], false⟩ [] w := by
 have L := lvF
 have hfo : inL olL 8 = false := by kernel_rfl
 have hok := HT.out.symm
 have HBd := Lib.hid (by rw [HB.out]; exact λ b hb => bills_at hok hb : ∀ b ∈ B, 1 <= b.t /\ b.t <= 60 /\ 0 <= b.g /\ b.g <= 219600000)
 have HSG := Lib.hid (λ k => sumB_le (v := (·.g)) (B := 219600000) (by omega) (λ b hb => (HBd.out b hb).2.2) k : ∀ k : Nat, 0 <= sumB (·.g) (B.take k) /\ sumB (·.g) (B.take k) <= 219600000 * k)
 have HST := Lib.hid (λ k => sumB_le (v := (·.t)) (B := 60) (by omega) (λ b hb => ⟨by have := (HBd.out b hb).1; omega, (HBd.out b hb).2.1⟩) k : ∀ k : Nat, 0 <= sumB (·.t) (B.take k) /\ sumB (·.t) (B.take k) <= 60 * k)
 have HSO := Lib.hid (by rw [HB.out]; exact λ i j a b hij ha hb => bills_sorted hok hij ha hb : ∀ (i j : Nat) (a b : BillD), i < j -> B[i]? = some a -> B[j]? = some b -> a.c < b.c)
 have HLE := Lib.hid (by rw [HB.out]; exact bills_few T rs : B.length <= 99)
 have hl := Lib.hid hs1.billsLen
 refine JO.seq L hfo ?_
 refine JO.pieceQ L (by kernel_rfl) hfo (λ Tp Q HQ => ?_)
 simp only [rFB9, bodyFB, Try.f8, Option.getD_some]
 replace HL := HL.tp Tp 0
 replace hs1 := hs1.tp Tp 0
 replace hs2 := hs2.tp Tp 0
 generalize Tt.tp w Tp 0 = w1 at HL hs1 hs2 ⊢
 go_wp2
 refine HQ.out _ _ ?_
 clear HQ
 refine JO.seq L hfo ?_
 refine JO.seq L hfo ?_
 refine JO.pieceQ L (by kernel_rfl) hfo (λ Tp Q HQ => ?_)
 simp only [rFB10, bodyFB, Try.f8, Option.getD_some]
 replace HL := HL.tp Tp 0
 replace hs1 := hs1.tp Tp 0
 replace hs2 := hs2.tp Tp 0
 generalize Tt.tp w1 Tp 0 = w2 at HL hs1 hs2 ⊢
 go_wp2
 refine HQ.out _ _ ?_
 clear HQ
 refine JO.pieceQ L (by kernel_rfl) hfo (λ Tp Q HQ => ?_)
 simp only [bFB11, bodyFB, Try.f8, Option.getD_some]
 replace HL := HL.tp Tp 0
 replace hs1 := hs1.tp Tp 0
 replace hs2 := hs2.tp Tp 0
 generalize Tt.tp w2 Tp 0 = w3 at HL hs1 hs2 ⊢
 have HS := Lib.hid HL
 clear HL
 go_wp2_with fail
 go_loopw [10, 11, 14] (λ s q i wr => ∃ k : Nat, k <= n1 /\ s = .int .i64 (sumB (·.g) (B.take k)) /\ q = .int .i64 (sumB (·.t) (B.take k)) /\ i = .int .i64 k /\ wr.heap = w3.heap) (λ _ _ i _ => n1 - (intOf i).toNat)
 case atStart => exact ⟨0, Nat.zero_le _, rfl, rfl, rfl, rfl⟩
 case round =>
   obtain ⟨k, hk, rfl, rfl, rfl, hh⟩ := hrel
   have H1 := hs1.heq hh
   have H2 := hs2.heq hh
   have HH := Lib.hid hh
   by_cases hlt : k < n1
   . obtain ⟨b, off, d, hA, _, _, h3, hxk, hv0, hv1, hv2, hv3⟩ := H1.billsAt hlt
     obtain ⟨b', off', d', hA', _, _, h3', hxk', hv0', hv1', hv2', hv3'⟩ := H2.billsAt hlt
     have e : d = d' := by rw [hxk] at hxk'; injection hxk'
     subst e
     subst hA hA'
     have hbd := HBd.out d (List.mem_of_getElem? hxk)
     obtain ⟨S, hS⟩ : ∃ S, S = sumB (·.g) (B.take k) := ⟨_, rfl⟩
     obtain ⟨Q, hQ⟩ : ∃ Q, Q = sumB (·.t) (B.take k) := ⟨_, rfl⟩
     have bS := HSG.out k
     have bQ := HST.out k
     have eS := sumB_succ (v := (·.g)) hxk
     have eQ := sumB_succ (v := (·.t)) hxk
     rw [<- hS] at bS eS ⊢
     rw [<- hQ] at bQ eQ ⊢
     have hkl : k <= 99 := by have := HLE.out; have := hl.out; omega
     have X1 := (IntWalk.i64_left _).trans (IntWalk.wrap64_in (S + d.g) (by omega))
     have X2 := (IntWalk.i64_left _).trans (IntWalk.wrap64_in (Q + d.t) (by omega))
     have hg1 : decide (d.t < 1) = false := decide_eq_false (by omega)
     have ES := Lib.hid eS
     have EQ := Lib.hid eQ
     have i0 : (0 : Int) <= (k : Int) := by omega
     have i1 : (k : Int) < (n1 : Int) := by omega
     have HXK := Lib.hid hxk
     clear hxk hxk' eS eQ bS bQ hS hQ hh H1 hbd
     by_cases hk0 : k = 0
     . have hg2 : decide ((0 : Int) < (k : Int)) = false := decide_eq_false (by omega)
       have hg4 : decide (0 < k) = false := decide_eq_false (by omega)
       clear H2 HBd HSG HST HSO hk0
       go_wp2_with fail
       go_quiet (fail)
       go_wp2
       go_roundw
       case rel => exact ⟨k + 1, by omega, by rw [ES.out], by rw [EQ.out], by go_num, HH.out⟩
       case measure => simp [intOf]; omega
     . obtain ⟨b1, off1, p, hA, _, _, h31, hxp, hp0, _, _, _⟩ := (hs1.heq HH.out).billsAt (k := k - 1) (by omega)
       injection hA with hA
       injection hA with hA1 hA2
       subst hA1 hA2
       have hlt := HSO.out (k - 1) k p d (by omega) hxp HXK.out
       have hg2 : decide ((0 : Int) < (k : Int)) = true := decide_eq_true (by omega)
       have hg4 : decide (0 < k) = true := decide_eq_true (by omega)
       have hg3 : decide (d.c <= p.c) = false := decide_eq_false (by omega)
       have i2 : (0 : Int) <= (k : Int) - 1 := by omega
       have i3 : (k : Int) - 1 < (n1 : Int) := by omega
       have i4 : ((k : Int) - 1).toNat = k - 1 := by omega
       have i5 : IntKind.i64.wrap ((k : Int) - 1) = (k : Int) - 1 := by rw [wrap_id (by omega) (by omega)]
       clear H2 HBd HSG HST HSO hk0 hxp hlt
       go_wp2_with fail
       go_quiet (fail)
       clear i4 i5
       go_wp2
       go_roundw
       case rel => exact ⟨k + 1, by omega, by rw [ES.out], by rw [EQ.out], by go_num, HH.out⟩
       case measure => simp [intOf]; omega
   . have e : k = n1 := by omega
     subst e
     have e1 : sumB (·.g) (B.take k) = N := by rw [List.take_of_length_le (by rw [hl.out]; exact Nat.le_refl _), HN.out, totalM_bills hok, <- HB.out]; rfl
     have e2 : sumB (·.t) (B.take k) = sumR doneF rs := by rw [List.take_of_length_le (by rw [hl.out]; exact Nat.le_refl _), <- bills_talks hok, <- HB.out]; rfl
     rw [e1, e2]
     clear e1 e2 H1 H2
     go_wp2
     refine HQ.out _ _ ?_
     clear HQ
     exact jo_fb3 (HS.out.heq HH.out) hGg hm60 HT HN (Lib.hid (by rw [HN.out, totalM_bills hok, bills_charges hok])) (Lib.hid rfl) hend
end
end Go.Proofs.Ytjcpjijihajopaa
