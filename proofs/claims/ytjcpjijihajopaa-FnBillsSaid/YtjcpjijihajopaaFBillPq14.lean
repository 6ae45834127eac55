/-
 Part 14 of what stands behind the last text.
-/
import Derived.Test.YtjcpjijihajopaaFBillPq13
set_option linter.unusedSectionVars false
set_option linter.unusedSimpArgs false
set_option linter.unusedVariables false
namespace Go.Proofs.Ytjcpjijihajopaa
open Go.RowKit Go.Mt Go.Conc Go.Tt Go.Maps
section
variable {St : Nat -> Prop} {W0 : World} {Post : Value -> World -> Prop}
set_option maxHeartbeats 16000000 in
set_option maxRecDepth 100000 in
theorem jo_law_fb {w : World} {A : Option Addr} {n cap : Nat} (hC : Code w A n cap) (hG : Try.prog.globals.size <= w.heap.size) (hP : ∀ (R : Pr) (W : World), Kp W0 R St W -> Post (.bool true) W) :
   JE St W0 Post ⟨8, #[.slice A n cap, undef, undef, undef, undef, undef, undef, undef, undef, undef, undef, undef, undef, undef, undef, undef, undef, undef, undef, undef, undef, undef, undef, undef, undef, undef, undef, undef, undef, undef, undef, undef, undef, undef, undef, undef, undef, undef, undef, undef, undef, undef, undef, undef, undef, undef, undef, undef, undef, undef, undef, undef, undef, undef, undef, undef, undef, undef, undef, undef, undef, undef, undef, undef, undef, undef, undef, undef, undef, undef, undef, undef, undef, undef, undef, undef, undef, undef, undef, undef, undef, undef, undef, undef, undef, undef, undef, undef, undef, undef, undef, undef, undef, undef, undef, undef, undef, undef, undef, undef, undef, undef, undef, undef, undef, undef, undef, undef, undef, undef, undef, undef, undef, undef, undef, undef, undef, undef, undef, undef, undef, undef, undef, undef, undef, undef, undef, undef, undef, undef, undef, undef, undef, undef, undef, undef, undef, undef, undef, undef, undef, undef, undef, undef, undef, undef, undef, undef, undef, undef, undef, undef, undef, undef, undef, undef, undef, undef, undef, undef, undef, undef, undef, undef, undef, undef, undef, undef, undef, undef, undef, undef, undef, undef, undef, undef, undef, undef, undef, undef, undef, undef, undef, undef, undef, undef, undef, undef, undef, undef, undef], [.code bodyFB], false⟩ [] w := by
 have L := lvF
 have hfo : inL olL 8 = false := by kernel_rfl
 have hend : ∀ (tmps : Array Value) (td : List Item) (w' : World), tmps.getD 2 undef = .bool true -> JE St W0 Post ⟨8, tmps, td, true⟩ [] w' := by
   intro tmps td w' h6
   refine JO.fin L (t := 2) rfl Try.func8 rfl (by kernel_rfl) λ K R W v' hv hk => ?_
   have hv' : VR (SF fsF) K R (tmps.getD 2 undef) v' := hv
   rw [h6] at hv'
   cases hv'
   exact hP R W hk
 rw [bodyFB_eq]
 refine JO.seq L hfo ?_
 refine JO.pieceQ L (by kernel_rfl) hfo (λ Tp Q HQ => ?_)
 simp only [rFB0, bodyFB, Try.f8, Option.getD_some]
 replace hC : Code (Tt.tp w Tp 0) A n cap := ⟨hC.le, hC.cap, hC.at_⟩
 replace hG : Try.prog.globals.size <= (Tt.tp w Tp 0).heap.size := hG
 generalize Tt.tp w Tp 0 = w1 at hC hG ⊢
 go_wp2
 refine HQ.out _ _ ?_
 clear HQ
 refine JO.seq L hfo ?_
 refine JO.seq L hfo ?_
 refine JO.pieceQ L (by kernel_rfl) hfo (λ Tp Q HQ => ?_)
 simp only [rFB1, bodyFB, Try.f8, Option.getD_some]
 replace hC : Code (Tt.tp w1 Tp 0) A n cap := ⟨hC.le, hC.cap, hC.at_⟩
 replace hG : Try.prog.globals.size <= (Tt.tp w1 Tp 0).heap.size := hG
 generalize Tt.tp w1 Tp 0 = w2 at hC hG ⊢
 have hcl := hC.le
 have hcm := hC.cap
 unfold maxLen at hcm
 go_wp2
 refine HQ.out _ _ ?_
 clear HQ
 by_cases hbig : (1048576 : Int) < (n : Int)
 . refine JO.cond L (t := true) hfo (by show Value.bool (decide _) = _; rw [decide_eq_true hbig]) ?_
   refine JO.seq L hfo ?_
   refine JO.pieceQ L (by kernel_rfl) hfo (λ Tp Q HQ => ?_)
   simp only [rFB2, bodyFB, Try.f8, Option.getD_some]
   go_wp2
   refine HQ.out _ _ ?_
   refine JO.ret L hfo ?_
   exact hend _ _ _ rfl
 refine JO.cond L (t := false) hfo (by show Value.bool (decide _) = _; rw [decide_eq_false hbig]) ?_
 refine JO.skip L hfo ?_
 refine JO.seq L hfo ?_
 refine JO.pieceQ L (by kernel_rfl) hfo (λ Tp Q HQ => ?_)
 simp only [rFB3, bodyFB, Try.f8, Option.getD_some]
 replace hC : Code (Tt.tp w2 Tp 0) A n cap := ⟨hC.le, hC.cap, hC.at_⟩
 replace hG : Try.prog.globals.size <= (Tt.tp w2 Tp 0).heap.size := hG
 generalize Tt.tp w2 Tp 0 = w3 at hC hG ⊢
 go_wp2_with (go_at_call 26; refine (DrawBills_any A n cap w3 hC).mono ?_; rintro e w4 ⟨gR, m, cp, rs, x, y, z, rfl, hrow, hm60, hb4⟩)
 refine HQ.out _ _ ?_
 clear HQ
 obtain ⟨T, hT⟩ : ∃ T : Trf, T = ⟨x, y, z⟩ := ⟨_, rfl⟩
 have ex : x = T.f := by rw [hT]
 have ey : y = T.s := by rw [hT]
 have ez : z = T.p := by rw [hT]
 clear hT
 subst ex ey ez
 obtain ⟨cur, hcur, hcc, hrl, hmc, hcpm, hgR⟩ := lst_of_row hrow
 have hgz4 : gR < w4.heap.size := blk_lt hcur
 obtain ⟨gT, hgT⟩ : ∃ g, g = w4.heap.size := ⟨_, rfl⟩
 have kT : (w4.alloc (trfO T)).heap[gT]? = some (trfO T) := by rw [hgT]; exact heap_push w4 _
 have kR := blk_alloc hcur (trfO T)
 rw [<- hgT]
 generalize w4.alloc (trfO T) = w4' at kT kR ⊢
 refine JO.regh (s := 4) (g := gR) (o := 0) (n := m) (c := cp) rfl kR (λ cs hcs hpl huni => ?_)
 have hgz : gR < w4'.heap.size := blk_lt kR
 have HL : FbAt (put w4' gR (.cells cs 50 (0, 0))) gR cs m cp rs gT T := ⟨⟨put_same hgz, huni, λ j v hv => hpl j v (hcc j v hv) (recs_plain v (List.mem_of_getElem? hv)), hrl, hmc, hcpm⟩, (put_ne (by omega)).trans kT⟩
 have hGg : Try.prog.globals.size <= gR := by omega
 have hm1 : m <= 1048576 := by omega
 generalize put w4' gR (.cells cs 50 (0, 0)) = w5 at HL ⊢
 clear hrow hb4 hcur hcc hpl huni hcs hgz hC hG hbig kT kR hgz4 hgT hgR
 refine JO.seq L hfo ?_
 rw [rFB4_eq]
 refine JO.reg L hfo ?_
 rw [opsFB4_range]
 refine JO.opv L (v := .agg #[.int .i64 T.f, .int .i64 T.s, .int .i64 T.p]) hfo opsFB4_0 rfl (λ T' e => exec_load (w := Tt.tp w5 T' e) (t := 32) (x := .tmp 3) (b := gT) rfl HL.t rfl Try.underlying32 rfl (by kernel_rfl)) ?_
 simp only [Go.Act.put, List.setIfInBounds_toArray, List.set_cons_zero, List.set_cons_succ]
 refine JO.opv L (v := .slice (some ⟨gR, 0, none⟩) m cp) hfo opsFB4_1 rfl (λ T e => rfl) ?_
 simp only [Go.Act.put, List.setIfInBounds_toArray, List.set_cons_zero, List.set_cons_succ]
 refine jo_bills (ops := opsFB4) (i := 2) (o := oFB4_2) (rs := rs) (T := T) rfl hfo rfl opsFB4_2 rfl rfl (by simp [Fm.eval]) (HL.l.src 0) (λ b' e => by cases e; exact hGg) HL.l.slc hm1 (λ A1 n1 c1 w6 B6 O6 => ?_)
 replace HL := HL.bl B6
 have hs1 := O6.slc
 clear B6 O6
 simp only [Fm.fin, opsFB4_2, Option.bind_some, List.setIfInBounds_toArray, List.set_cons_zero, List.set_cons_succ]
 obtain ⟨t, ht⟩ : ∃ t, t = billOk T rs := ⟨_, rfl⟩
 have HT := Lib.hid ht
 rw [<- ht]
 clear ht
 refine JO.opv L (v := .tuple #[.slice A1 n1 c1, .bool t]) hfo opsFB4_3 rfl (λ T e => rfl) ?_
 simp only [Go.Act.put, List.setIfInBounds_toArray, List.set_cons_zero, List.set_cons_succ]
 refine JO.opv L (v := .slice A1 n1 c1) hfo opsFB4_4 rfl (λ T e => rfl) ?_
 simp only [Go.Act.put, List.setIfInBounds_toArray, List.set_cons_zero, List.set_cons_succ]
 refine JO.opv L (v := .bool t) hfo opsFB4_5 rfl (λ T e => rfl) ?_
 simp only [Go.Act.put, List.setIfInBounds_toArray, List.set_cons_zero, List.set_cons_succ]
 refine JO.opv L (v := .slice A1 n1 c1) hfo opsFB4_6 rfl (λ T e => rfl) ?_
 simp only [Go.Act.put, List.setIfInBounds_toArray, List.set_cons_zero, List.set_cons_succ]
 refine JO.opv L (v := .bool t) hfo opsFB4_7 rfl (λ T e => rfl) ?_
 simp only [Go.Act.put, List.setIfInBounds_toArray, List.set_cons_zero, List.set_cons_succ]
 refine JO.regEnd L hfo ?_
 refine JO.seq L hfo ?_
 refine JO.pieceQ L (by kernel_rfl) hfo (λ Tp Q HQ => ?_)
 simp only [rFB5, bodyFB, Try.f8, Option.getD_some]
 replace HL := HL.tp Tp 0
 replace hs1 := hs1.tp Tp 0
 generalize Tt.tp w6 Tp 0 = w7 at HL hs1 ⊢
 have kt := HL.t
 have et0 := blk_cell kt 0
 have et1 := blk_cell kt 1
 have et2 := blk_cell kt 2
 have HS := Lib.hid HL
 have HS1 := Lib.hid hs1
 clear HL hs1 kt
 go_wp2_with (go_at_call 19; refine (spec_BillsOf T _ _ _ _ _ rs w7 HS.out.l.slc hm1).mono ?_; rintro e w8 ⟨A2, n2, c2, rfl, O8, b8⟩; rw [<- HT.out])
 refine HQ.out _ _ ?_
 clear HQ et0 et1 et2
 have HL := HS.out.below b8
 have hs1 := HS1.out.below b8
 have hs2 := O8.slc
 have en : n2 = n1 := by rw [<- hs1.billsLen, <- hs2.billsLen]
 subst en
 clear O8 b8 HS HS1
 refine JO.seq L hfo ?_
 rw [rFB6_eq]
 refine JO.reg L hfo ?_
 rw [opsFB6_range]
 refine JO.opv L (v := .agg #[.int .i64 T.f, .int .i64 T.s, .int .i64 T.p]) hfo opsFB6_0 rfl (λ T' e => exec_load (w := Tt.tp w8 T' e) (t := 32) (x := .tmp 3) (b := gT) rfl HL.t rfl Try.underlying32 rfl (by kernel_rfl)) ?_
 simp only [Go.Act.put, List.setIfInBounds_toArray, List.set_cons_zero, List.set_cons_succ]
 refine JO.opv L (v := .slice (some ⟨gR, 0, none⟩) m cp) hfo opsFB6_1 rfl (λ T e => rfl) ?_
 simp only [Go.Act.put, List.setIfInBounds_toArray, List.set_cons_zero, List.set_cons_succ]
 refine jo_total (ops := opsFB6) (i := 2) (o := oFB6_2) (rs := rs) (T := T) rfl hfo rfl opsFB6_2 rfl rfl (by simp [Fm.eval]) (HL.l.src 0) (λ b' e => by cases e; exact hGg) HL.l.slc hm1 (λ w9 B9 => ?_)
 replace HL := HL.bl B9
 replace hs1 := hs1.bls B9 (Nat.le_refl _)
 replace hs2 := hs2.bls B9 (Nat.le_refl _)
 clear B9
 simp only [Fm.fin, opsFB6_2, Option.bind_some, List.setIfInBounds_toArray, List.set_cons_zero, List.set_cons_succ]
 obtain ⟨N, hN⟩ : ∃ N, N = totalM T rs := ⟨_, rfl⟩
 have HN := Lib.hid hN
 rw [<- hN]
 clear hN
 refine JO.opv L (v := .int .i64 N) hfo opsFB6_3 rfl (λ T e => rfl) ?_
 simp only [Go.Act.put, List.setIfInBounds_toArray, List.set_cons_zero, List.set_cons_succ]
 refine JO.regEnd L hfo ?_
 refine JO.seq L hfo ?_
 refine JO.seq L hfo ?_
 refine JO.pieceQ L (by kernel_rfl) hfo (λ Tp Q HQ => ?_)
 simp only [rFB7, bodyFB, Try.f8, Option.getD_some]
 replace HL := HL.tp Tp 0
 replace hs1 := hs1.tp Tp 0
 replace hs2 := hs2.tp Tp 0
 generalize Tt.tp w9 Tp 0 = w10 at HL hs1 hs2 ⊢
 have kt := HL.t
 have et0 := blk_cell kt 0
 have et1 := blk_cell kt 1
 have et2 := blk_cell kt 2
 have HS := Lib.hid HL
 have HS1 := Lib.hid hs1
 have HS2 := Lib.hid hs2
 clear HL hs1 hs2 kt
 cases t with
 | false =>
   go_wp2_with (go_at_call 16; refine (spec_TotalOf T _ _ _ _ _ rs w10 HS.out.l.slc hm1).mono ?_; rintro e w11 ⟨rfl, b11⟩; rw [<- HN.out])
   refine HQ.out _ _ ?_
   clear HQ et0 et1 et2
   have HL := HS.out.below b11
   clear b11
   refine JO.cond L (t := true) hfo rfl ?_
   refine JO.seq L hfo ?_
   refine JO.pieceQ L (by kernel_rfl) hfo (λ Tp Q HQ => ?_)
   simp only [rFB8, bodyFB, Try.f8, Option.getD_some]
   replace HL := HL.tp Tp 0
   generalize Tt.tp w11 Tp 0 = w12 at HL ⊢
   have kt := HL.t
   have et0 := blk_cell kt 0
   have et1 := blk_cell kt 1
   have et2 := blk_cell kt 2
   have HS3 := Lib.hid HL
   have hN1 : N = -1 := HN.out.trans (totalM_no HT.out.symm)
   subst hN1
   clear HL kt
   go_wp2_with (go_at_call 16; refine (spec_TotalOf T _ _ _ _ _ rs w12 HS3.out.l.slc hm1).mono ?_; rintro e w13 ⟨rfl, b13⟩; rw [<- HN.out])
   refine HQ.out _ _ ?_
   refine JO.ret L hfo ?_
   exact hend _ _ _ rfl
 | true =>
   go_wp2_with (go_at_call 16; refine (spec_TotalOf T _ _ _ _ _ rs w10 HS.out.l.slc hm1).mono ?_; rintro e w11 ⟨rfl, b11⟩; rw [<- HN.out])
   refine HQ.out _ _ ?_
   clear HQ et0 et1 et2
   refine JO.cond L (t := false) hfo rfl ?_
   refine JO.skip L hfo ?_
   exact jo_fb2 (B := billsM T rs) (HS.out.below b11) hGg hm60 HT HN (Lib.hid rfl) (HS1.out.below b11) (HS2.out.below b11) hend
end
end Go.Proofs.Ytjcpjijihajopaa
