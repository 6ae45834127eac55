/-
 Part 10 of what stands behind the last text.
-/
import Derived.Test.YtjcpjijihajopaaFBillPq9
set_option linter.unusedSectionVars false
set_option linter.unusedSimpArgs false
set_option linter.unusedVariables false
namespace Go.Proofs.Ytjcpjijihajopaa
open Go.RowKit
theorem usedB_succ {rs : List RecD} {k : Nat} {d : RecD} (l : Int) (h : rs[k]? = some d) : usedB (rs.take (k + 1)) l = (usedB (rs.take k) l || (d.l == l && isOpen d)) := by
 unfold usedB
 rw [List.take_add_one, h]
 simp [List.any_append]
theorem freeTo_succ (rs : List RecD) (n : Nat) : freeTo rs (n + 1) = freeTo rs n ++ (if usedB rs ((n : Int) + 1) then [] else [(n : Int) + 1]) := by
 unfold freeTo
 rw [List.range_succ, List.map_append, List.filter_append]
 congr 1
 simp only [List.map_cons, List.map_nil, List.filter_cons, List.filter_nil]
 cases usedB rs ((n : Int) + 1) <;> simp
theorem freeTo_len (rs : List RecD) (n : Nat) : (freeTo rs n).length <= n := by
 unfold freeTo
 exact Nat.le_trans (List.length_filter_le _ _) (by simp)
theorem ints_snoc' (xs : List Int) (x : Int) : ints (xs ++ [x]) = ints xs ++ [.int .i64 x] := by simp [ints]
theorem info_int8 : (Try.prog.info? 3).map (λ i => (i.zero, i.size, i.bytes)) = some (some (.int .i64 0), 1, 8) := by kernel_rfl
theorem offB_parts {o : OffD} (h : offB o = true) : 1 <= o.ln /\ o.ln <= 6 /\ 1 <= o.op /\ o.op <= 4 /\ 1 <= o.pt /\ o.pt <= 60 := of_decide_eq_true h
set_option maxHeartbeats 4000000 in
set_option maxRecDepth 20000 in
theorem l6Free_any (lo : Nat) (v : RoomV) (r : RoomD) (w : World) (h : RoomOk w lo v r) (hn : r.recs.length <= 100000) (ho : offB r.o = true) :
   Calls Try.prog 100 #[.agg (roomA v r)] w λ e w' => ∃ x, e = .returned x /\ NewRow 3 1 w (freeF r.o r.recs).length (ints (freeF r.o r.recs)) x w' := by
 obtain ⟨i0, hi0, hz0, hz1, hz2⟩ := info_parts info_int8
 have HI := Lib.hid (And.intro hi0 (And.intro hz0 (And.intro hz1 hz2)))
 clear hi0 hz0 hz1 hz2
 obtain ⟨l0, l1, -, -, -, -⟩ := offB_parts ho
 have hs := h.slcR
 obtain ⟨n, hnn⟩ : ∃ n, n = r.recs.length := ⟨_, rfl⟩
 have hn5 : n <= 100000 := by omega
 have HN := Lib.hid hnn
 obtain ⟨rs, hrs⟩ : ∃ x, x = r.recs := ⟨_, rfl⟩
 have HRS := Lib.hid hrs
 obtain ⟨gb, hgb⟩ : ∃ g, g = w.heap.size := ⟨_, rfl⟩
 have HGB := Lib.hid hgb
 obtain ⟨ln, hln⟩ : ∃ x, x = r.o.ln := ⟨_, rfl⟩
 have HLN := Lib.hid hln
 obtain ⟨m, hm⟩ : ∃ m : Nat, m = ln.toNat := ⟨_, rfl⟩
 have hlm : ln = (m : Int) := by omega
 obtain ⟨O, hO⟩ : ∃ O : Obj, O = .cells (roomA v r) 121 := ⟨_, rfl⟩
 have hk0 : (w.alloc O).heap[gb]? = some (roomO v r) := by rw [hO, hgb]; exact heap_alloc_new _ _
 have B0 : Below w.heap.size w (w.alloc O) := below_al (Below.refl _ _) O
 have hz : (w.alloc O).heap.size = gb + 1 := by rw [hgb]; simp
 have hF : freeF r.o r.recs = freeTo rs m := by unfold freeF; rw [<- hln, <- hrs, <- hm]
 have HF := Lib.hid hF
 have hc0 := blk_cell hk0 0
 rw [<- hnn, <- hrs] at hs
 have HH0 := Lib.hid hk0
 have HB0 := Lib.hid B0
 have HZ := Lib.hid hz
 rw [<- hln] at l0 l1
 clear hF hnn hrs hgb hln hm h hc0
 have HO := Lib.hid hO
 have HMB := Lib.hid hlm
 rw [hlm] at l0 l1
 clear hO hk0 B0 hz
 go_enter Try.func100, Try.ntmps100
 go_wp2_with fail
 rw [<- HO.out]
 go_loopw [3, 4] (λ x i wr => ∃ (k g L cl : Nat), k <= m /\ i = .int .i64 ((k : Int) + 1) /\ L = (freeTo rs k).length /\ x = .slice (some ⟨g, 0, none⟩) L cl /\ Below (gb + 1) (w.alloc O) wr /\ wr.ownsRow (gb + 1) 3 1 (.slice (some ⟨g, 0, none⟩) L cl) L (ints (freeTo rs k))) (λ _ i _ => 1000 - (intOf i).toNat)
 case atStart =>
   have hz := HZ.out
   refine ⟨0, gb + 1, 0, 0, Nat.zero_le _, by simp, rfl, by rw [HGB.out], ?_, row_empty (Nat.le_refl _) (heap_new' _ _ hz.symm)⟩
   rw [<- hz]
   exact below_al (Below.refl _ _) _
 case round =>
   obtain ⟨k, g, L, cl, hk, rfl, hL, rfl, B, hown⟩ := hrel
   have HL := Lib.hid hL
   have HOW := Lib.hid hown
   have HB := Lib.hid B
   have hzb := B.size
   have hz := HZ.out
   have hkb := (B.block gb (by omega)).trans HH0.out
   have e0 := blk_cell hkb 0
   have e4 := blk_cell hkb 4
   have hlen := freeTo_len rs k
   rw [<- hL] at hlen
   have hs' := hs.below (HB0.out.trans (B.mono (by have := HGB.out; omega)))
   have e0' : wr.cell? ⟨w.heap.size, 0, none⟩ = some (.int .i64 (m : Int)) := by rw [<- HGB.out, e0, <- HMB.out, HLN.out]; rfl
   have e4' : wr.cell? ⟨w.heap.size, 4, none⟩ = some (.slice (some ⟨v.gR, 0, none⟩) n v.cR) := by rw [<- HGB.out, e4, HN.out]; rfl
   have HFS := Lib.hid (freeTo_succ rs k)
   have HLL := Lib.hid hs'.recLen
   clear hL hown e0 e4 hkb B hz hs
   by_cases hlt : k < m
   . obtain ⟨l, hl⟩ : ∃ l : Int, l = (k : Int) + 1 := ⟨_, rfl⟩
     have hl1 : 1 <= l := by omega
     have hl2 : l <= (m : Int) := by omega
     rw [<- hl] at HFS ⊢
     have HL1 := Lib.hid hl
     clear hl
     go_wp2_with fail
     go_loop [5, 6] (λ u i => ∃ j : Nat, j <= n /\ u = .bool (usedB (rs.take j) l) /\ i = .int .i64 j) (λ _ i => n - (intOf i).toNat)
     case atStart => exact ⟨0, Nat.zero_le _, rfl, rfl⟩
     case round =>
       obtain ⟨j, hj, rfl, rfl⟩ := hrel
       by_cases hjt : j < n
       . obtain ⟨b, off, d, hA, _, _, h3, hxk, hv0, hv1, hv2, hv3, hv4, hv5, hv6⟩ := hs'.rec7 hjt
         have HU := Lib.hid (usedB_succ l hxk)
         have i0 : (0 : Int) <= (j : Int) := by omega
         have i1 : (j : Int) < (n : Int) := by omega
         injection hA with hA
         injection hA with hA1 hA2
         subst hA1 hA2
         simp only [Nat.zero_add] at hv1 hv6
         clear hxk hs' hv0 hv2 hv3 hv4 hv5 h3
         cases hu : usedB (rs.take j) l
         . rw [hu] at HU
           cases hq : (d.l == l)
           . have HN1 := Lib.hid (show usedB (rs.take (j + 1)) l = false by rw [HU.out, hq]; rfl)
             go_wp2
             go_round
             case rel => exact ⟨j + 1, by omega, by rw [HN1.out], by go_num⟩
             case measure => simp [intOf]; omega
           . cases hd : (d.e.toList == [111, 112, 101, 110])
             . have HN1 := Lib.hid (show usedB (rs.take (j + 1)) l = false by rw [HU.out, hq]; unfold isOpen; rw [hd]; rfl)
               go_wp2
               go_round
               case rel => exact ⟨j + 1, by omega, by rw [HN1.out], by go_num⟩
               case measure => simp [intOf]; omega
             . have HN1 := Lib.hid (show usedB (rs.take (j + 1)) l = true by rw [HU.out, hq]; unfold isOpen; rw [hd]; rfl)
               go_wp2
               go_round
               case rel => exact ⟨j + 1, by omega, by rw [HN1.out], by go_num⟩
               case measure => simp [intOf]; omega
         . rw [hu] at HU
           have HN1 := Lib.hid (show usedB (rs.take (j + 1)) l = true by rw [HU.out]; rfl)
           clear hv1 hv6
           go_wp2
           go_round
           case rel => exact ⟨j + 1, by omega, by rw [HN1.out], by go_num⟩
           case measure => simp [intOf]; omega
       . have e : j = n := by omega
         subst e
         have HT := Lib.hid (show rs.take j = rs by rw [List.take_of_length_le (by rw [HLL.out]; exact Nat.le_refl _)])
         rw [HT.out]
         clear hs'
         obtain ⟨u, hu⟩ : ∃ u, u = usedB rs l := ⟨_, rfl⟩
         rw [<- hu] at HFS ⊢
         clear hu
         cases u
         . have HN1 := Lib.hid (show freeTo rs (k + 1) = freeTo rs k ++ [l] by rw [HFS.out]; rfl)
           obtain ⟨hi0, hz0, hz1, hz2⟩ := HI.out
           have HH := Lib.hid hi0
           have hzw := HZ.out
           clear hi0
           go_wp2_with (at_builtin; refine wpList_app _ rfl (.tmp 44) (.tmp 46) 73 rfl (gb + 1) 3 i0 (.int .i64 0) 1 8 Try.underlying73 HH.out hz0 hz1 hz2 rfl (by decide) (.slice (some ⟨g, 0, none⟩) L cl) L (ints (freeTo rs k)) rfl (row_keep HOW.out ?c1) (by simp) ⟨_, 0, none⟩ 1 1 [.int .i64 l] rfl rfl ?c2 (by intro u hu; simp at hu; subst hu; rfl) ?c5 ?c6 ?c7 ?_; (case c1 => exact λ b hb => Below.heap_alloc _ _ b hb); (case c2 => exact World.news_of_block (cs := #[.int .i64 l]) (heap_new' _ _ (by simp))); (case c5 => unfold maxLen; omega); (case c6 => omega); (case c7 => (simp; omega)); intro g1 c1 w1 hown1 hgr1 B1; have HO1 := Lib.hid hown1; have HB1 := Lib.hid B1; clear hown1 hgr1 B1)
           go_roundw
           case rel =>
             refine ⟨k + 1, g1, L + 1, c1, by omega, by rw [HL1.out]; push_cast; rfl, by rw [HN1.out, HL.out]; simp, rfl, ?_, ?_⟩
             . have b1 := HB.out
               exact (b1.alloc (by have := HB.out.size; have := HZ.out; omega) _).trans HB1.out
             . rw [HN1.out, ints_snoc']; exact HO1.out
           case measure => have := HL1.out; simp [intOf]; omega
         . have HN1 := Lib.hid (show freeTo rs (k + 1) = freeTo rs k by rw [HFS.out]; simp)
           go_wp2
           go_roundw
           case rel => exact ⟨k + 1, g, L, cl, by omega, by rw [HL1.out]; push_cast; rfl, by rw [HN1.out]; exact HL.out, rfl, HB.out, by rw [HN1.out]; exact HOW.out⟩
           case measure => have := HL1.out; simp [intOf]; omega
   . have e : k = m := by omega
     subst e
     clear hs'
     go_wp2
     go_ret
     refine ⟨_, rfl, g, cl, by rw [HF.out, <- HL.out]; rfl, ?_, HB0.out.trans (HB.out.mono (by have := HGB.out; omega))⟩
     rw [HF.out, <- HL.out]
     obtain ⟨h1, h2⟩ := HOW.out
     refine ⟨h1, h2.imp id λ ⟨b, cap, cur, e1, e2, e3⟩ => ⟨b, cap, cur, e1, by have := HGB.out; omega, e3⟩⟩
end Go.Proofs.Ytjcpjijihajopaa
namespace Go.Proofs.Ytjcpjijihajopaa
open Go.RowKit
theorem Slc.takeS {w : World} {lo hi s n c g : Nat} {xs : List Value} (h : Slc w lo hi s (some ⟨g, 0, none⟩) n c xs) {k : Nat} (hk : k <= n) : Slc w lo hi s (some ⟨g, 0, none⟩) k c (xs.take (k * s)) := by
 refine ⟨by rw [List.length_take, h.len]; exact Nat.min_eq_left (Nat.mul_le_mul_right _ hk), Nat.le_trans hk h.le, h.cap, λ h0 => ?_⟩
 obtain ⟨b, off, e, h1, h2, h3, h4⟩ := h.at_ (by omega)
 refine ⟨b, off, e, h1, h2, h3, λ j v hv => h4 j v ?_⟩
 rw [List.getElem?_take] at hv
 split at hv
 . exact hv
 . cases hv
theorem Slc.dropS {w : World} {lo hi s n c g : Nat} {xs : List Value} (h : Slc w lo hi s (some ⟨g, 0, none⟩) n c xs) {k : Nat} (hk : k <= n) : Slc w lo hi s (some ⟨g, k * s, none⟩) (n - k) (c - k) (xs.drop (k * s)) := by
 refine ⟨by rw [List.length_drop, h.len, Nat.sub_mul], by have := h.le; omega, by have := h.cap; omega, λ h0 => ?_⟩
 obtain ⟨b, off, e, h1, h2, h3, h4⟩ := h.at_ (by omega)
 injection e with e
 injection e with e1 e2
 subst e1 e2
 refine ⟨g, k * s, rfl, h1, h2, h3, λ j v hv => ?_⟩
 rw [List.getElem?_drop] at hv
 have := h4 (k * s + j) v hv
 rwa [Nat.zero_add] at this
theorem Slc.dropI {w : World} {lo hi s n c g : Nat} {xs : List Value} (h : Slc w lo hi s (some ⟨g, 0, none⟩) n c xs) {k : Nat} (hk : k <= n) : Slc w lo hi s (if c = k then some ⟨g, 0, none⟩ else some ⟨g, k * s, none⟩) (n - k) (c - k) (xs.drop (k * s)) := by
 have d := h.dropS hk
 by_cases e : c = k
 . rw [if_pos e]
   exact ⟨d.len, d.le, d.cap, λ h0 => by have := h.le; omega⟩
 . rw [if_neg e]; exact d
theorem calls_take (xs : List CallD) (k : Nat) : (calls xs).take (k * 2) = calls (xs.take k) := by
 induction xs generalizing k with
 | nil => simp [calls]
 | cons x xs ih =>
   cases k with
   | zero => simp [calls]
   | succ k =>
     have e : (k + 1) * 2 = k * 2 + 1 + 1 := by omega
     rw [e]
     simp only [calls, List.flatMap_cons, CallD.cells, List.cons_append, List.nil_append, List.take_succ_cons]
     have := ih k
     unfold calls at this
     rw [this]
theorem calls_drop (xs : List CallD) (k : Nat) : (calls xs).drop (k * 2) = calls (xs.drop k) := by
 induction xs generalizing k with
 | nil => simp [calls]
 | cons x xs ih =>
   cases k with
   | zero => simp [calls]
   | succ k =>
     have e : (k + 1) * 2 = k * 2 + 1 + 1 := by omega
     rw [e]
     simp only [calls, List.flatMap_cons, CallD.cells, List.cons_append, List.nil_append, List.drop_succ_cons]
     have := ih k
     unfold calls at this
     rw [this]
theorem calls_app (xs ys : List CallD) : calls (xs ++ ys) = calls xs ++ calls ys := by simp [calls]
theorem calls_one (xs : List CallD) : ∀ u ∈ calls xs, u.oneCell' = true := by
 intro u hu
 obtain ⟨d, _, hd⟩ := List.mem_flatMap.1 hu
 simp only [CallD.cells, List.mem_cons, List.not_mem_nil, or_false] at hd
 rcases hd with rfl | rfl <;> rfl
theorem queued_at {xs : List CallD} {x : CallD} {k : Nat} (hk : k <= xs.length) (h : ∀ j, j < k -> ∀ b, xs[j]? = some b -> x.p <= b.p) (hn : ∀ b, xs[k]? = some b -> ¬ x.p <= b.p) : queuedF xs x = xs.take k ++ x :: xs.drop k := by
 unfold queuedF
 induction xs generalizing k with
 | nil => simp
 | cons y ys ih =>
   cases k with
   | zero =>
     have := hn y rfl
     simp [List.takeWhile_cons, List.dropWhile_cons, this]
   | succ k =>
     have hy := h 0 (by omega) y rfl
     have := ih (k := k) (by simpa using hk) (λ j hj b hb => h (j + 1) (by omega) b (by simpa using hb)) (λ b hb => hn b (by simpa using hb))
     simp [List.takeWhile_cons, List.dropWhile_cons, hy, this]
theorem held2b {W0 W : World} {a1 a2 : Addr} {v1 v2 : Value} (h : W.cell? a1 = some v1 /\ W.cell? a2 = some v2 /\ Below W0.heap.size W0 W) : Below W0.heap.size W0 W := h.2.2
theorem blk_cell_pair {w : World} {a b : Addr} {u v : Value} (h : w.cell? a = some u) (k : w.cell? b = some v) : w.cell? a = some u /\ w.cell? b = some v := ⟨h, k⟩
set_option maxHeartbeats 8000000 in
set_option maxRecDepth 20000 in
theorem l6Queued_any (lo hi n c g : Nat) (xs : List CallD) (x : CallD) (w : World) (h : Slc w lo hi 2 (some ⟨g, 0, none⟩) n c (calls xs)) (hn : n <= 100000) :
   Calls Try.prog 103 #[.slice (some ⟨g, 0, none⟩) n c, .agg #[.int .i64 x.c, .int .i64 x.p]] w λ e w' => ∃ v, e = .returned v /\ NewRow 140 2 w (queuedF xs x).length (calls (queuedF xs x)) v w' := by
 have hl := Lib.hid h.callsLen
 have hcap := Lib.hid h.le
 obtain ⟨i0, hi0, hz0, hz1, hz2⟩ := info_parts info_call6
 have HI := Lib.hid (And.intro hi0 (And.intro hz0 (And.intro hz1 hz2)))
 clear hi0 hz0 hz1 hz2
 obtain ⟨gb, hgb⟩ : ∃ g, g = w.heap.size := ⟨_, rfl⟩
 have HGB := Lib.hid hgb
 obtain ⟨O, hO⟩ : ∃ O : Obj, O = .cells #[.int .i64 x.c, .int .i64 x.p] 140 := ⟨_, rfl⟩
 have hk0 : (w.alloc O).heap[gb]? = some (.cells #[.int .i64 x.c, .int .i64 x.p] 140) := by rw [hO, hgb]; exact heap_alloc_new _ _
 have HK0 := Lib.hid hk0
 have HB0 := Lib.hid (below_al (Below.refl w.heap.size w) O)
 have HO := Lib.hid hO
 clear hgb hO hk0
 go_enter Try.func103, Try.ntmps103
 go_wp2_with fail
 rw [<- HO.out, <- HGB.out]
 go_loopw [5] (λ i wr => ∃ k : Nat, k <= n /\ i = .int .i64 k /\ Below (w.alloc O).heap.size (w.alloc O) wr /\ ∀ j, j < k -> ∀ b, xs[j]? = some b -> x.p <= b.p) (λ i _ => n - (intOf i).toNat)
 case atStart => exact ⟨0, Nat.zero_le _, rfl, Below.refl _ _, λ j hj => absurd hj (by omega)⟩
 case round =>
   obtain ⟨k, hk, rfl, B, hcs⟩ := hrel
   have HC := Lib.hid hcs
   have kg := (blk_below B HK0.out).1
   have zg := (blk_below B HK0.out).2
   have e0 := blk_cell kg 0
   have e1 := blk_cell kg 1
   have BW := HB0.out.trans (B.mono HB0.out.size)
   have hs := h.below BW
   have i0' : (0 : Int) <= (k : Int) := by omega
   have HBW := Lib.hid BW
   have HB := Lib.hid B
   clear hcs kg BW B
   by_cases hlt : k < n
   . obtain ⟨b, off, d, hA, _, _, h3, hxk, hv0, hv1⟩ := hs.callsAt hlt
     injection hA with hA
     injection hA with hA1 hA2
     subst hA1 hA2
     simp only [Nat.zero_add] at hv0 hv1
     have HX := Lib.hid hxk
     have i1 : (k : Int) < (n : Int) := by omega
     by_cases hp : x.p <= d.p
     . have HP := Lib.hid hp
       have hpb : decide (x.p <= d.p) = true := decide_eq_true hp
       clear hxk h hs h3 hv0 hp
       go_wp2_with fail
       go_quiet (fail)
       go_wp2
       go_roundw
       case rel => exact ⟨k + 1, by omega, by go_num, ⟨HB.out.os, HB.out.tape, HB.out.output, HB.out.size, HB.out.block⟩, λ j hj b hb => by
         by_cases e : j = k
         . subst e; rw [HX.out] at hb; injection hb with hb; exact hb ▸ HP.out
         . exact HC.out j (by omega) b hb⟩
       case measure => simp [intOf]; omega
     . have HQ := Lib.hid (queued_at (x := x) (k := k) (by rw [hl.out]; exact hk) HC.out (λ b hb => by rw [hxk] at hb; injection hb with hb; exact hb ▸ hp))
       have hpb : decide (x.p <= d.p) = false := decide_eq_false hp
       clear hxk h3 hv0 hp
       go_wp2_with fail
       go_quiet (fail)
       go_wp2_with fail
       obtain ⟨wq, hwq⟩ : ∃ y, y = wr.drewN nq := ⟨_, rfl⟩
       rw [<- hwq]
       replace hs : Slc wq lo hi 2 (some ⟨g, 0, none⟩) n c (calls xs) := by rw [hwq]; exact ⟨hs.len, hs.le, hs.cap, hs.at_⟩
       replace e0 : wq.cell? ⟨gb, 0, none⟩ = some (.int .i64 x.c) := by rw [hwq]; exact e0
       replace e1 : wq.cell? ⟨gb, 1, none⟩ = some (.int .i64 x.p) := by rw [hwq]; exact e1
       replace zg : gb < wq.heap.size := by rw [hwq]; exact zg
       have HBQ := Lib.hid (show Below w.heap.size w wq by rw [hwq]; exact ⟨HBW.out.os, HBW.out.tape, HBW.out.output, HBW.out.size, HBW.out.block⟩)
       have HZQ := Lib.hid (show wr.heap.size <= wq.heap.size by rw [hwq]; exact Nat.le_refl _)
       clear hwq
       have HN := Lib.hid (Nat.le_refl wq.heap.size)
       have HT1 := Lib.hid (calls_take xs k ▸ hs.takeS hk)
       have HT2 := Lib.hid (calls_drop xs k ▸ hs.dropI hk)
       have HCG := Lib.hid zg
       obtain ⟨hi0, hz0, hz1, hz2⟩ := HI.out
       have HH := Lib.hid hi0
       have hcp := hcap.out
       have HKK := Lib.hid (blk_cell_pair e0 e1)
       have k1 : (k : Int) <= (n : Int) := by omega
       have k2 : (n : Int) <= (c : Int) := by omega
       have k3 : (k : Int) <= (c : Int) := by omega
       clear hi0 hs h
       go_region_held3 (λ W => W.cell? ⟨gb, 0, none⟩ = some (.int .i64 x.c) /\ W.cell? ⟨gb, 1, none⟩ = some (.int .i64 x.p) /\ Below wq.heap.size wq W)
         ((refine hb2_to (by simpa using HCG.out) (by simpa using HCG.out) HKK.out.1 HKK.out.2 ?_; (repeat' (first | with_reducible assumption | with_reducible exact held2b (by assumption) | with_reducible exact Below.refl _ _ | with_reducible apply below_al | with_reducible apply below_drew)); done))
         (first
           | (refine step_apps _ rfl (.tmp 22) (.tmp 25) 118 rfl wq.heap.size 140 i0 (.agg #[.int .i64 0, .int .i64 0]) 2 16 Try.underlying118 HH.out hz0 hz1 hz2 rfl (by decide) _ 0 0 [] rfl (row_empty ?c1 ?c2) (some ⟨g, 0, none⟩) k c _ _ (calls (xs.take k)) rfl (HT1.out.below ?c3) (calls_one _) ?c5 ?c6 ?c7 ?_; (case c1 => first | omega | (simp; done) | (simp; omega)); (case c2 => ((try with_reducible apply blk_drew); (first | with_reducible assumption | (with_reducible refine heap_new' _ _ ?_; simp) | (with_reducible refine blk_alloc ?_ _; first | with_reducible assumption | (with_reducible refine heap_new' _ _ ?_; simp)) | (with_reducible refine blk_alloc ?_ _; with_reducible refine blk_alloc ?_ _; first | with_reducible assumption | (with_reducible refine heap_new' _ _ ?_; simp)) | (with_reducible refine blk_alloc ?_ _; with_reducible refine blk_alloc ?_ _; with_reducible refine blk_alloc ?_ _; first | with_reducible assumption | (with_reducible refine heap_new' _ _ ?_; simp))))); (case c3 => (repeat' (first | with_reducible assumption | with_reducible exact held2b (by assumption) | with_reducible exact Below.refl _ _ | with_reducible apply below_al | with_reducible apply below_drew))); (case c5 => unfold maxLen; omega); (case c6 => omega); (case c7 => first | omega | (simp; done) | (simp; omega)); intro g1 c1n w9 hown1 hgr1 B1; rw [Nat.zero_add]; simp only [Nat.zero_add, List.nil_append] at hown1; have HO1 := Lib.hid hown1; have HG1 := Lib.hid hgr1; have BW : Below wq.heap.size wq w9 := Below.trans (by (repeat' (first | with_reducible assumption | with_reducible exact held2b (by assumption) | with_reducible exact Below.refl _ _ | with_reducible apply below_al | with_reducible apply below_drew))) B1; have z9 := BW.size; clear hown1 hgr1 B1)
           | (refine step_app _ rfl (.tmp 26) (.tmp 28) 118 rfl wq.heap.size 140 i0 (.agg #[.int .i64 0, .int .i64 0]) 2 16 Try.underlying118 HH.out hz0 hz1 hz2 rfl (by decide) (.slice (some ⟨g1, 0, none⟩) k c1n) k (calls (xs.take k)) rfl ?c1 (by simp) ⟨_, 0, none⟩ 1 1 [.int .i64 x.c, .int .i64 x.p] rfl rfl (World.news_of_block (cs := #[.int .i64 x.c, .int .i64 x.p]) (t := 140) (fr := (0, 0)) ?c2) (by simp [Value.oneCell']) ?c5 ?c6 ?c7 ?_; (case c1 => first | exact HO1.out | exact row_keep HO1.out (λ b hb => Below.heap_alloc _ _ b hb)); (case c2 => first | exact heap_alloc_new _ _ | exact (HG1.out.block _ (by first | (simp; done) | (simp; omega)) (by first | (simp [Value.ownBlock]; done) | (simp [Value.ownBlock]; omega))).trans (by ((try with_reducible apply blk_drew); (first | with_reducible assumption | (with_reducible refine heap_new' _ _ ?_; simp) | (with_reducible refine blk_alloc ?_ _; first | with_reducible assumption | (with_reducible refine heap_new' _ _ ?_; simp)) | (with_reducible refine blk_alloc ?_ _; with_reducible refine blk_alloc ?_ _; first | with_reducible assumption | (with_reducible refine heap_new' _ _ ?_; simp)) | (with_reducible refine blk_alloc ?_ _; with_reducible refine blk_alloc ?_ _; with_reducible refine blk_alloc ?_ _; first | with_reducible assumption | (with_reducible refine heap_new' _ _ ?_; simp)))))); (case c5 => unfold maxLen; omega); (case c6 => omega); (case c7 => first | omega | (simp; done) | (simp; omega)); intro g2 c2n w10 hown2 hgr2 B2; have HO2 := Lib.hid hown2; have BW2 : Below wq.heap.size wq w10 := Below.trans (by first | exact BW | exact below_al BW _) B2; have z10 := BW2.size; clear hown2 hgr2 B2)
           | (refine step_apps _ rfl (.tmp 29) (.tmp 32) 118 rfl wq.heap.size 140 i0 (.agg #[.int .i64 0, .int .i64 0]) 2 16 Try.underlying118 HH.out hz0 hz1 hz2 rfl (by decide) g2 (k + 1) c2n (calls (xs.take k) ++ [.int .i64 x.c, .int .i64 x.p]) rfl HO2.out (if c = k then some ⟨g, 0, none⟩ else some ⟨g, k * 2, none⟩) (n - k) (c - k) _ _ (calls (xs.drop k)) rfl (HT2.out.below BW2) (calls_one _) ?c5 ?c6 ?c7 ?_; (case c5 => unfold maxLen; omega); (case c6 => omega); (case c7 => first | omega | (simp; done) | (simp; omega)); intro g3 c3n w11 hown3 hgr3 B3; have HO3 := Lib.hid hown3; have BW3 : Below wq.heap.size wq w11 := BW2.trans B3; have z11 := BW3.size; clear hown3 hgr3 B3))
       all_goals go_wp2_with fail
       all_goals go_ret
       all_goals
         have hzw := HBQ.out.size
         have eQ : (queuedF xs x).length = k + 1 + (n - k) := by
           rw [HQ.out, List.length_append, List.length_take, List.length_cons, List.length_drop, hl.out]
           omega
         refine ⟨_, rfl, g3, c3n, ?_, ?_, HBQ.out.trans (BW3.mono hzw)⟩
         . rw [eQ]; rfl
         . obtain ⟨h1, h2⟩ := HO3.out
           have e := eQ
           have e2 : calls (queuedF xs x) = calls (xs.take k) ++ [.int .i64 x.c, .int .i64 x.p] ++ calls (xs.drop k) := by rw [HQ.out, calls_app]; simp [calls, CallD.cells]
           rw [e, e2]
           exact ⟨h1, h2.imp id λ ⟨b, cap, cur, e1, e2, e3⟩ => ⟨b, cap, cur, e1, by omega, e3⟩⟩
   . have HQ := Lib.hid (queued_at (x := x) (k := k) (by rw [hl.out]; exact hk) HC.out (λ b hb => by rw [List.getElem?_eq_none (by rw [hl.out]; omega)] at hb; cases hb))
     have hnb : decide ((k : Int) < (n : Int)) = false := decide_eq_false (by omega)
     go_wp2_with fail
     go_quiet (fail)
     go_wp2_with fail
     obtain ⟨wq, hwq⟩ : ∃ y, y = wr.drewN nq := ⟨_, rfl⟩
     rw [<- hwq]
     replace hs : Slc wq lo hi 2 (some ⟨g, 0, none⟩) n c (calls xs) := by rw [hwq]; exact ⟨hs.len, hs.le, hs.cap, hs.at_⟩
     replace e0 : wq.cell? ⟨gb, 0, none⟩ = some (.int .i64 x.c) := by rw [hwq]; exact e0
     replace e1 : wq.cell? ⟨gb, 1, none⟩ = some (.int .i64 x.p) := by rw [hwq]; exact e1
     replace zg : gb < wq.heap.size := by rw [hwq]; exact zg
     have HBQ := Lib.hid (show Below w.heap.size w wq by rw [hwq]; exact ⟨HBW.out.os, HBW.out.tape, HBW.out.output, HBW.out.size, HBW.out.block⟩)
     have HZQ := Lib.hid (show wr.heap.size <= wq.heap.size by rw [hwq]; exact Nat.le_refl _)
     clear hwq
     have HN := Lib.hid (Nat.le_refl wq.heap.size)
     have HT1 := Lib.hid (calls_take xs k ▸ hs.takeS hk)
     have HT2 := Lib.hid (calls_drop xs k ▸ hs.dropI hk)
     have HCG := Lib.hid zg
     obtain ⟨hi0, hz0, hz1, hz2⟩ := HI.out
     have HH := Lib.hid hi0
     have hcp := hcap.out
     have HKK := Lib.hid (blk_cell_pair e0 e1)
     have k1 : (k : Int) <= (n : Int) := by omega
     have k2 : (n : Int) <= (c : Int) := by omega
     have k3 : (k : Int) <= (c : Int) := by omega
     clear hi0 hs h
     go_region_held3 (λ W => W.cell? ⟨gb, 0, none⟩ = some (.int .i64 x.c) /\ W.cell? ⟨gb, 1, none⟩ = some (.int .i64 x.p) /\ Below wq.heap.size wq W)
       ((refine hb2_to (by simpa using HCG.out) (by simpa using HCG.out) HKK.out.1 HKK.out.2 ?_; (repeat' (first | with_reducible assumption | with_reducible exact held2b (by assumption) | with_reducible exact Below.refl _ _ | with_reducible apply below_al | with_reducible apply below_drew)); done))
       (first
         | (refine step_apps _ rfl (.tmp 22) (.tmp 25) 118 rfl wq.heap.size 140 i0 (.agg #[.int .i64 0, .int .i64 0]) 2 16 Try.underlying118 HH.out hz0 hz1 hz2 rfl (by decide) _ 0 0 [] rfl (row_empty ?c1 ?c2) (some ⟨g, 0, none⟩) k c _ _ (calls (xs.take k)) rfl (HT1.out.below ?c3) (calls_one _) ?c5 ?c6 ?c7 ?_; (case c1 => first | omega | (simp; done) | (simp; omega)); (case c2 => ((try with_reducible apply blk_drew); (first | with_reducible assumption | (with_reducible refine heap_new' _ _ ?_; simp) | (with_reducible refine blk_alloc ?_ _; first | with_reducible assumption | (with_reducible refine heap_new' _ _ ?_; simp)) | (with_reducible refine blk_alloc ?_ _; with_reducible refine blk_alloc ?_ _; first | with_reducible assumption | (with_reducible refine heap_new' _ _ ?_; simp)) | (with_reducible refine blk_alloc ?_ _; with_reducible refine blk_alloc ?_ _; with_reducible refine blk_alloc ?_ _; first | with_reducible assumption | (with_reducible refine heap_new' _ _ ?_; simp))))); (case c3 => (repeat' (first | with_reducible assumption | with_reducible exact held2b (by assumption) | with_reducible exact Below.refl _ _ | with_reducible apply below_al | with_reducible apply below_drew))); (case c5 => unfold maxLen; omega); (case c6 => omega); (case c7 => first | omega | (simp; done) | (simp; omega)); intro g1 c1n w9 hown1 hgr1 B1; rw [Nat.zero_add]; simp only [Nat.zero_add, List.nil_append] at hown1; have HO1 := Lib.hid hown1; have HG1 := Lib.hid hgr1; have BW : Below wq.heap.size wq w9 := Below.trans (by (repeat' (first | with_reducible assumption | with_reducible exact held2b (by assumption) | with_reducible exact Below.refl _ _ | with_reducible apply below_al | with_reducible apply below_drew))) B1; have z9 := BW.size; clear hown1 hgr1 B1)
         | (refine step_app _ rfl (.tmp 26) (.tmp 28) 118 rfl wq.heap.size 140 i0 (.agg #[.int .i64 0, .int .i64 0]) 2 16 Try.underlying118 HH.out hz0 hz1 hz2 rfl (by decide) (.slice (some ⟨g1, 0, none⟩) k c1n) k (calls (xs.take k)) rfl ?c1 (by simp) ⟨_, 0, none⟩ 1 1 [.int .i64 x.c, .int .i64 x.p] rfl rfl (World.news_of_block (cs := #[.int .i64 x.c, .int .i64 x.p]) (t := 140) (fr := (0, 0)) ?c2) (by simp [Value.oneCell']) ?c5 ?c6 ?c7 ?_; (case c1 => first | exact HO1.out | exact row_keep HO1.out (λ b hb => Below.heap_alloc _ _ b hb)); (case c2 => first | exact heap_alloc_new _ _ | exact (HG1.out.block _ (by first | (simp; done) | (simp; omega)) (by first | (simp [Value.ownBlock]; done) | (simp [Value.ownBlock]; omega))).trans (by ((try with_reducible apply blk_drew); (first | with_reducible assumption | (with_reducible refine heap_new' _ _ ?_; simp) | (with_reducible refine blk_alloc ?_ _; first | with_reducible assumption | (with_reducible refine heap_new' _ _ ?_; simp)) | (with_reducible refine blk_alloc ?_ _; with_reducible refine blk_alloc ?_ _; first | with_reducible assumption | (with_reducible refine heap_new' _ _ ?_; simp)) | (with_reducible refine blk_alloc ?_ _; with_reducible refine blk_alloc ?_ _; with_reducible refine blk_alloc ?_ _; first | with_reducible assumption | (with_reducible refine heap_new' _ _ ?_; simp)))))); (case c5 => unfold maxLen; omega); (case c6 => omega); (case c7 => first | omega | (simp; done) | (simp; omega)); intro g2 c2n w10 hown2 hgr2 B2; have HO2 := Lib.hid hown2; have BW2 : Below wq.heap.size wq w10 := Below.trans (by first | exact BW | exact below_al BW _) B2; have z10 := BW2.size; clear hown2 hgr2 B2)
         | (refine step_apps _ rfl (.tmp 29) (.tmp 32) 118 rfl wq.heap.size 140 i0 (.agg #[.int .i64 0, .int .i64 0]) 2 16 Try.underlying118 HH.out hz0 hz1 hz2 rfl (by decide) g2 (k + 1) c2n (calls (xs.take k) ++ [.int .i64 x.c, .int .i64 x.p]) rfl HO2.out (if c = k then some ⟨g, 0, none⟩ else some ⟨g, k * 2, none⟩) (n - k) (c - k) _ _ (calls (xs.drop k)) rfl (HT2.out.below BW2) (calls_one _) ?c5 ?c6 ?c7 ?_; (case c5 => unfold maxLen; omega); (case c6 => omega); (case c7 => first | omega | (simp; done) | (simp; omega)); intro g3 c3n w11 hown3 hgr3 B3; have HO3 := Lib.hid hown3; have BW3 : Below wq.heap.size wq w11 := BW2.trans B3; have z11 := BW3.size; clear hown3 hgr3 B3))
     all_goals go_wp2_with fail
     all_goals go_ret
     all_goals
       have hzw := HBQ.out.size
       have eQ : (queuedF xs x).length = k + 1 + (n - k) := by
         rw [HQ.out, List.length_append, List.length_take, List.length_cons, List.length_drop, hl.out]
         omega
       refine ⟨_, rfl, g3, c3n, ?_, ?_, HBQ.out.trans (BW3.mono hzw)⟩
       . rw [eQ]; rfl
       . obtain ⟨h1, h2⟩ := HO3.out
         have e := eQ
         have e2 : calls (queuedF xs x) = calls (xs.take k) ++ [.int .i64 x.c, .int .i64 x.p] ++ calls (xs.drop k) := by rw [HQ.out, calls_app]; simp [calls, CallD.cells]
         rw [e, e2]
         exact ⟨h1, h2.imp id λ ⟨b, cap, cur, e1, e2, e3⟩ => ⟨b, cap, cur, e1, by omega, e3⟩⟩
end Go.Proofs.Ytjcpjijihajopaa
namespace Go.Proofs.Ytjcpjijihajopaa
open Go.RowKit
theorem modify_comp {α : Type} (l : List α) (i : Nat) (f g : α -> α) : (l.modify i f).modify i g = l.modify i (λ x => g (f x)) := by
 apply List.ext_getElem?
 intro j
 rw [List.getElem?_modify, List.getElem?_modify, List.getElem?_modify]
 by_cases e : i = j
 . simp [e, Function.comp_def]
 . simp [e]
theorem RoomOk.setR {w : World} {lo i j : Nat} {v : RoomV} {r : RoomD} {d : RecD} {u : Value} (f : RecD -> RecD) (h : RoomOk w lo v r) (hd : r.recs[i]? = some d) (hj : j < 7) (hs : ∀ k, k < 7 -> k ≠ j -> (f d).cells[k]? = d.cells[k]?) (hv : (f d).cells[j]? = some u) :
   RoomOk (w.setCell ⟨v.gR, i * 7 + j, none⟩ u) lo v { r with recs := r.recs.modify i f } /\ Turn v w (w.setCell ⟨v.gR, i * 7 + j, none⟩ u) := by
 obtain ⟨h1, hg⟩ := h.rc.stored (i * 7 + j) u
 rw [recs_modify hd hj hs hv] at h1
 have a := h.ap
 refine ⟨⟨?_, h.wt.kept hg (.inr (by simp [Value.ownBlock]; omega)), h.bk.kept hg (.inr (by simp [Value.ownBlock]; omega)), h.lg.kept hg (.inr (by simp [Value.ownBlock]; omega)), a⟩, ⟨hg.os, hg.tape, hg.output, hg.size, λ b hb h1 _ => hg.block b hb (λ e => h1 (by injection e))⟩⟩
 simp only [RoomV.sR, List.length_modify]
 exact h1
theorem RoomOk.recAt {w : World} {lo i : Nat} {v : RoomV} {r : RoomD} {d : RecD} (h : RoomOk w lo v r) (hd : r.recs[i]? = some d) :
   w.cell? ⟨v.gR, i * 7, none⟩ = some (.int .i64 d.c) /\ w.cell? ⟨v.gR, i * 7 + 1, none⟩ = some (.int .i64 d.l) /\ w.cell? ⟨v.gR, i * 7 + 2, none⟩ = some (.int .i64 d.o) /\ w.cell? ⟨v.gR, i * 7 + 3, none⟩ = some (.int .i64 d.f) /\ w.cell? ⟨v.gR, i * 7 + 4, none⟩ = some (.int .i64 d.h) /\ w.cell? ⟨v.gR, i * 7 + 5, none⟩ = some (.int .i64 d.t) /\ w.cell? ⟨v.gR, i * 7 + 6, none⟩ = some (.string d.e) := by
 have hi := (List.getElem?_eq_some_iff.1 hd).1
 have g : ∀ j, j < 7 -> w.cell? ⟨v.gR, i * 7 + j, none⟩ = d.cells[j]? := λ j hj => by
   rw [h.rc.cellAt (i * 7 + j) (by omega)]
   have := flat_get RecD.cells (s := 7) (λ _ => rfl) r.recs i j hj
   unfold recs
   rw [this, hd]; rfl
 exact ⟨g 0 (by decide), g 1 (by decide), g 2 (by decide), g 3 (by decide), g 4 (by decide), g 5 (by decide), g 6 (by decide)⟩
theorem Turn.blk {v : RoomV} {w w' : World} {b : Nat} {o : Obj} (h : Turn v w w') (hb : w.heap[b]? = some o) (h1 : b ≠ v.gR) (h2 : b ≠ v.gB) : w'.heap[b]? = some o := (h.block b (blk_lt hb) h1 h2).trans hb
theorem callAt_some {rs : List RecD} {i : Nat} {d : RecD} (h : rs[i]? = some d) : callAt rs i = d.c := by unfold callAt; rw [h]
theorem row_keep' {E s : Nat} {w w' : World} {base n g c : Nat} {xs : List Value} (h : w.ownsRow base E s (.slice (some ⟨g, 0, none⟩) n c) n xs) (hb : w'.heap[g]? = w.heap[g]?) : w'.ownsRow base E s (.slice (some ⟨g, 0, none⟩) n c) n xs := by
 obtain ⟨hl, h | ⟨b, cap, cur, e, h1, hg, h2⟩⟩ := h
 . cases h.1
 . injection e with e
   injection e with e
   injection e with e
   subst e
   exact ⟨hl, .inr ⟨g, cap, cur, by simp_all, h1, hb.trans hg, h2⟩⟩
theorem row_mono {w : World} {base base' : Nat} {e : TypeId} {size : Nat} {v : Value} {n : Nat} {xs : List Value} (h : w.ownsRow base e size v n xs) (hb : base' <= base) : w.ownsRow base' e size v n xs :=
 ⟨h.1, h.2.imp id λ ⟨g, cap, cur, h1, h2, h3⟩ => ⟨g, cap, cur, h1, Nat.le_trans hb h2, h3⟩⟩
theorem room_ends (v : RoomV) (r : RoomD) (i g cp : Nat) (e : ByteArray) : (roomA v r).setIfInBounds 5 (.slice (some ⟨g, 0, none⟩) (withoutF r.wait (callAt r.recs i)).length cp) = roomA { v with gW := g, cW := cp } (endsF r i e) := by
 have h : (endsF r i e).recs.length = r.recs.length := List.length_modify _ _ _
 simp only [roomA, RoomV.sR, h]
 rfl
def set8 (w : World) (b : Nat) (a0 a1 a2 a3 a4 a5 a6 a7 : Value) : World := (((((((w.setCell ⟨b, 0, none⟩ a0).setCell ⟨b, 1, none⟩ a1).setCell ⟨b, 2, none⟩ a2).setCell ⟨b, 3, none⟩ a3).setCell ⟨b, 4, none⟩ a4).setCell ⟨b, 5, none⟩ a5).setCell ⟨b, 6, none⟩ a6).setCell ⟨b, 7, none⟩ a7
theorem set8_blk {w : World} {b : Nat} {T : TypeId} {z0 z1 z2 z3 z4 z5 z6 z7 a0 a1 a2 a3 a4 a5 a6 a7 : Value} (h : w.heap[b]? = some (.cells #[z0, z1, z2, z3, z4, z5, z6, z7] T)) : (set8 w b a0 a1 a2 a3 a4 a5 a6 a7).heap[b]? = some (.cells #[a0, a1, a2, a3, a4, a5, a6, a7] T) := by
 unfold set8
 rw [blk_setCell (blk_setCell (blk_setCell (blk_setCell (blk_setCell (blk_setCell (blk_setCell (blk_setCell h a0) a1) a2) a3) a4) a5) a6) a7]
 simp only [List.setIfInBounds_toArray, List.set_cons_zero, List.set_cons_succ]
theorem set8_other {w : World} {b x : Nat} {a0 a1 a2 a3 a4 a5 a6 a7 : Value} (h : x ≠ b) : (set8 w b a0 a1 a2 a3 a4 a5 a6 a7).heap[x]? = w.heap[x]? := by
 unfold set8
 rw [Below.heap_setCell _ _ _ x h, Below.heap_setCell _ _ _ x h, Below.heap_setCell _ _ _ x h, Below.heap_setCell _ _ _ x h, Below.heap_setCell _ _ _ x h, Below.heap_setCell _ _ _ x h, Below.heap_setCell _ _ _ x h, Below.heap_setCell _ _ _ x h]
theorem set8_size (w : World) (b : Nat) (a0 a1 a2 a3 a4 a5 a6 a7 : Value) : (set8 w b a0 a1 a2 a3 a4 a5 a6 a7).heap.size = w.heap.size := by
 unfold set8
 simp only [World.size_setCell]
theorem set8_chg (w : World) (b : Nat) (a0 a1 a2 a3 a4 a5 a6 a7 : Value) : Chg b (b + 1) w (set8 w b a0 a1 a2 a3 a4 a5 a6 a7) :=
 ((((((((Chg.refl b (b + 1) w).setCell (p := ⟨b, 0, none⟩) (Nat.le_refl _) (Nat.lt_succ_self _) a0).setCell (p := ⟨b, 1, none⟩) (Nat.le_refl _) (Nat.lt_succ_self _) a1).setCell (p := ⟨b, 2, none⟩) (Nat.le_refl _) (Nat.lt_succ_self _) a2).setCell (p := ⟨b, 3, none⟩) (Nat.le_refl _) (Nat.lt_succ_self _) a3).setCell (p := ⟨b, 4, none⟩) (Nat.le_refl _) (Nat.lt_succ_self _) a4).setCell (p := ⟨b, 5, none⟩) (Nat.le_refl _) (Nat.lt_succ_self _) a5).setCell (p := ⟨b, 6, none⟩) (Nat.le_refl _) (Nat.lt_succ_self _) a6).setCell (p := ⟨b, 7, none⟩) (Nat.le_refl _) (Nat.lt_succ_self _) a7
theorem RoomOk.set8 {w : World} {lo b : Nat} {v : RoomV} {r : RoomD} {a0 a1 a2 a3 a4 a5 a6 a7 : Value} (h : RoomOk w lo v r) (hb : b ≠ v.gR /\ b ≠ v.gW /\ b ≠ v.gB /\ b ≠ v.gL) : RoomOk (set8 w b a0 a1 a2 a3 a4 a5 a6 a7) lo v r :=
 ⟨row_keep' h.rc (set8_other (Ne.symm hb.1)), row_keep' h.wt (set8_other (Ne.symm hb.2.1)), row_keep' h.bk (set8_other (Ne.symm hb.2.2.1)), row_keep' h.lg (set8_other (Ne.symm hb.2.2.2)), h.ap⟩
theorem Turn.set8 {w0 w : World} {b : Nat} {v : RoomV} {a0 a1 a2 a3 a4 a5 a6 a7 : Value} (h : Turn v w0 w) (hb : w0.heap.size <= b) : Turn v w0 (set8 w b a0 a1 a2 a3 a4 a5 a6 a7) :=
 have c := set8_chg w b a0 a1 a2 a3 a4 a5 a6 a7
 ⟨c.os.trans h.os, c.tape.trans h.tape, c.output.trans h.output, Nat.le_trans h.size c.size, λ x hx h1 h2 => (set8_other (by omega)).trans (h.block x hx h1 h2)⟩
abbrev roomZ : Obj := .cells #[.int .i64 0, .int .i64 0, .int .i64 0, .int .i64 0, .slice none 0 0, .slice none 0 0, .slice none 0 0, .slice none 0 0] 121
set_option maxHeartbeats 8000000 in
set_option maxRecDepth 20000 in
theorem l6Ends_any (lo i : Nat) (v : RoomV) (r : RoomD) (d : RecD) (e : ByteArray) (w : World) (h : RoomOk w lo v r) (hd : r.recs[i]? = some d) (hn : r.recs.length <= 100000) (hnw : r.wait.length <= 100000) (hlo : lo <= w.heap.size) :
   Calls Try.prog 107 #[.agg (roomA v r), .int .i64 (i : Int), .string e] w λ x w' => ∃ g c, x = .returned (.agg (roomA { v with gW := g, cW := c } (endsF r i e))) /\ RoomOk w' lo { v with gW := g, cW := c } (endsF r i e) /\ Turn v w w' /\ w.heap.size <= g := by
 obtain ⟨gb, hgb⟩ : ∃ g, g = w.heap.size := ⟨_, rfl⟩
 have hl := h.lts
 have hi := (List.getElem?_eq_some_iff.1 hd).1
 obtain ⟨O, hO⟩ : ∃ O : Obj, O = .cells (roomA v r) 121 := ⟨_, rfl⟩
 obtain ⟨Z, hZ⟩ : ∃ Z : Obj, Z = roomZ := ⟨_, rfl⟩
 have hk0 : ((w.alloc O).alloc Z).heap[gb]? = some (.cells (roomA v r) 121) := by rw [hO, hgb]; exact blk_alloc (heap_alloc_new _ _) _
 have hk1 : ((w.alloc O).alloc Z).heap[gb + 1]? = some roomZ := by rw [<- hZ]; exact heap_new' _ _ (by rw [hgb]; simp)
 have hr1 := (h.alloc O).alloc Z
 have T1 : Turn v w ((w.alloc O).alloc Z) := Turn.of_below v (below_al (below_al (Below.refl _ _) _) _)
 have HK0 := Lib.hid hk0
 have HK1 := Lib.hid hk1
 have HR1 := Lib.hid hr1
 have HT1 := Lib.hid T1
 have HO := Lib.hid hO
 have HZ := Lib.hid (show Z = .cells #[.int .i64 0, .int .i64 0, .int .i64 0, .int .i64 0, .slice none 0 0, .slice none 0 0, .slice none 0 0, .slice none 0 0] 121 from hZ)
 have HGB := Lib.hid hgb
 have HD := Lib.hid hd
 clear hO hZ hgb hk0 hk1 hr1 T1 hd h
 have i0 : (0 : Int) <= (i : Int) := by omega
 have i1 : (i : Int) < (r.recs.length : Int) := by omega
 go_enter Try.func107, Try.ntmps107
 go_upto_region 1 with fail
 rw [<- HO.out, <- HZ.out, <- HGB.out]
 obtain ⟨W1, hW1⟩ : ∃ y, y = (w.alloc O).alloc Z := ⟨_, rfl⟩
 have hz1 : W1.heap.size = gb + 2 := by rw [hW1, HGB.out]; simp
 rw [<- hW1] at HK0 HK1 HR1 HT1 ⊢
 have HZ1 := Lib.hid hz1
 have hgR : gb ≠ v.gR := by have := HGB.out; omega
 have hgB : gb ≠ v.gB := by have := HGB.out; omega
 have hgR1 : gb + 1 ≠ v.gR := by have := HGB.out; omega
 have hgB1 : gb + 1 ≠ v.gB := by have := HGB.out; omega
 clear hW1 hz1
 have k := blk_cell HK0.out
 obtain ⟨c0, c1, c2, c3, c4, c5, c6⟩ := HR1.out.recAt HD.out
 have fz := λ j => HR1.out.rc.frozenAt j
 have k3 := k 3
 have k4 := k 4
 have S1 := HR1.out.setR (λ d => { d with t := r.clk }) HD.out (j := 5) (by decide) (by intro k hk hne; have hk' : k = 0 \/ k = 1 \/ k = 2 \/ k = 3 \/ k = 4 \/ k = 6 := (by omega); rcases hk' with rfl | rfl | rfl | rfl | rfl | rfl <;> rfl) rfl
 have HS1 := Lib.hid S1
 clear S1 k
 go_upto_region 2 with fail
 obtain ⟨W2, hW2⟩ : ∃ y, y = W1.setCell ⟨v.gR, i * 7 + 5, none⟩ (.int .i64 r.clk) := ⟨_, rfl⟩
 rw [<- hW2] at HS1 ⊢
 have hd2 : (r.recs.modify i λ d => { d with t := r.clk })[i]? = some { d with t := r.clk } := by rw [List.getElem?_modify]; simp [HD.out]
 have HD2 := Lib.hid hd2
 have HK02 := Lib.hid (HS1.out.2.blk HK0.out hgR hgB)
 have HK12 := Lib.hid (HS1.out.2.blk HK1.out hgR1 hgB1)
 clear hW2 c0 c1 c2 c3 c4 c5 c6 fz k3 k4 hd2
 have k4 := blk_cell HK02.out 4
 obtain ⟨c0, c1, c2, c3, c4, c5, c6⟩ := HS1.out.1.recAt HD2.out
 have fz := λ j => HS1.out.1.rc.frozenAt j
 have S2 := HS1.out.1.setR (λ d => { d with e := e }) HD2.out (j := 6) (by decide) (by intro k hk hne; have hk' : k = 0 \/ k = 1 \/ k = 2 \/ k = 3 \/ k = 4 \/ k = 5 := (by omega); rcases hk' with rfl | rfl | rfl | rfl | rfl | rfl <;> rfl) rfl
 rw [modify_comp] at S2
 have HS2 := Lib.hid S2
 clear S2
 go_upto_region 3 with fail
 obtain ⟨W3, hW3⟩ : ∃ y, y = W2.setCell ⟨v.gR, i * 7 + 6, none⟩ (.string e) := ⟨_, rfl⟩
 rw [<- hW3] at HS2 ⊢
 have hd3 : (r.recs.modify i λ d => { d with t := r.clk, e := e })[i]? = some { d with t := r.clk, e := e } := by rw [List.getElem?_modify]; simp [HD.out]
 have HD3 := Lib.hid hd3
 have HT3 := Lib.hid (HT1.out.same (HS1.out.2.same HS2.out.2))
 have hk03 := HS2.out.2.blk HK02.out hgR hgB
 have HK13 := Lib.hid (HS2.out.2.blk HK12.out hgR1 hgB1)
 have HR3 := Lib.hid (show RoomOk W3 lo v { r with recs := endRec r i e } from HS2.out.1)
 have hz3 : gb + 2 <= W3.heap.size := by have := HT3.out.size; have := HZ1.out; have := HS1.out.2.size; have := HS2.out.2.size; omega
 clear hW3 c0 c1 c2 c3 c4 c5 c6 fz k4 hd3
 have k4 := blk_cell hk03 4
 have k5 := blk_cell hk03 5
 have fz := blk_frozen' hk03
 obtain ⟨c0, -, -, -, -, -, -⟩ := HS2.out.1.recAt HD3.out
 have HK03 := Lib.hid hk03
 have hsW := HR3.out.slcW
 have HSW := Lib.hid hsW
 clear hk03 hsW
 go_cut [] from 20 to 29 (λ wx => ∃ g c, wx.heap[gb]? = some (roomO { v with gW := g, cW := c } (endsF r i e)) /\ wx.heap[gb + 1]? = some roomZ /\ RoomOk wx lo { v with gW := g, cW := c } (endsF r i e) /\ Turn v w wx /\ w.heap.size <= g /\ gb + 1 < g)
 case first =>
   go_region_with (go_at_call 106; refine (l6Without_any lo W3.heap.size r.wait.length v.cW (some ⟨v.gW, 0, none⟩) r.wait d.c W3.drew (HSW.out.keep (Nat.le_refl _) (λ _ _ _ _ => rfl)) hnw).mono ?_; rintro x w4 ⟨_, rfl, g, cp, rfl, hown, b4⟩; have k0 := (blk_below b4 (blk_drew HK03.out)).1; have k5 := blk_cell k0 5; have fz := blk_frozen' k0; have z4 := blk_lt k0; have HO4 := Lib.hid hown; clear hown)
   all_goals
     go_wp2_with fail
     go_meet
     have hca := callAt_some HD.out
     have hb4 := HT3.out.size
     have hg : W3.heap.size <= g := (HO4.out.lt g rfl).1
     have hke : ∀ b, b < W3.heap.size -> b ≠ gb -> (w4.setCell ⟨gb, 5, none⟩ (.slice (some ⟨g, 0, none⟩) (withoutF r.wait d.c).length cp)).heap[b]? = W3.heap[b]? := λ b hb hne => (Below.heap_setCell w4 _ _ b hne).trans (b4.block b hb)
     have l3 := HR3.out.lts
     have hgb := HGB.out
     refine ⟨g, cp, ?_, (hke _ (blk_lt HK13.out) (by omega)).trans HK13.out, ?_, ⟨b4.os.trans HT3.out.os, b4.tape.trans HT3.out.tape, b4.output.trans HT3.out.output, ?_, λ b hb h1 h2 => (hke b (by omega) (by omega)).trans (HT3.out.block b hb h1 h2)⟩, by omega, by omega⟩
     . rw [blk_setCell k0, <- hca]
       rw [room_ends v r i g cp e]
     . have a := HR3.out.ap
       have hk : ∀ b, b < w.heap.size -> W3.heap.size <= W3.heap.size := λ _ _ => Nat.le_refl _
       have row : (w4.setCell ⟨gb, 5, none⟩ (.slice (some ⟨g, 0, none⟩) (withoutF r.wait d.c).length cp)).ownsRow W3.heap.size 140 2 (.slice (some ⟨g, 0, none⟩) (withoutF r.wait d.c).length cp) (withoutF r.wait d.c).length (calls (withoutF r.wait d.c)) := row_keep' HO4.out (Below.heap_setCell w4 _ _ g (by show g ≠ gb; omega))
       have keepRow : ∀ {E s n : Nat} {A : Nat} {c : Nat} {xs : List Value}, A < gb -> W3.ownsRow lo E s (.slice (some ⟨A, 0, none⟩) n c) n xs -> (w4.setCell ⟨gb, 5, none⟩ (.slice (some ⟨g, 0, none⟩) (withoutF r.wait d.c).length cp)).ownsRow lo E s (.slice (some ⟨A, 0, none⟩) n c) n xs := λ {E s n A c xs} hA h => row_keep' h (hke A (h.lt A rfl).2 (by omega))
       have l0 := hl
       refine ⟨keepRow (by show v.gR < gb; omega) HR3.out.rc, ?_, keepRow (by show v.gB < gb; omega) HR3.out.bk, keepRow (by show v.gL < gb; omega) HR3.out.lg, by simp only at *; omega⟩
       have := row_mono row (base' := lo) (by omega)
       rw [<- hca] at this ⊢
       exact this
     . rw [World.size_setCell]; have := b4.size; omega
 case rest =>
   obtain ⟨g, c, kb, kr, hR, hT, hg, hgap'⟩ := hcut
   have hgap : g < gb \/ gb + 1 < g := .inr hgap'
   have k := blk_cell kb
   have k0 := k 0
   have k1 := k 1
   have k2 := k 2
   have k3 := k 3
   have k4 := k 4
   have k5 := k 5
   have k6 := k 6
   have k7 := k 7
   have q := blk_cell kr
   have q0 := q 0
   have q1 := q 1
   have q2 := q 2
   have q3 := q 3
   have q4 := q 4
   have q5 := q 5
   have q6 := q 6
   have q7 := q 7
   have qf := blk_frozen' kr
   have HR := Lib.hid hR
   have HT := Lib.hid hT
   have HG := Lib.hid hg
   have HKR := Lib.hid kr
   clear hR hT hg kb kr k q
   go_wp2
   have er := blk_cell (set8_blk (a0 := .int .i64 (endsF r i e).o.ln) (a1 := .int .i64 (endsF r i e).o.op) (a2 := .int .i64 (endsF r i e).o.pt) (a3 := .int .i64 (endsF r i e).clk) (a4 := .slice (some ⟨v.gR, 0, none⟩) (endsF r i e).recs.length v.cR) (a5 := .slice (some ⟨g, 0, none⟩) (endsF r i e).wait.length c) (a6 := .slice (some ⟨v.gB, 0, none⟩) (endsF r i e).back.length v.cB) (a7 := .slice (some ⟨v.gL, 0, none⟩) (endsF r i e).log.length v.cL) HKR.out)
   have l := HR.out.lts
   have hgb := HGB.out
   have hgg := HG.out
   have hl' := hl
   have a := HR.out.ap
   refine bodyPost_ret (v := .agg (roomA { v with gW := g, cW := c } (endsF r i e))) ?_ rfl ⟨g, c, rfl, HR.out.set8 ?_, HT.out.set8 (by omega), hgg⟩
   . unfold set8 at er
     simp [results, Try.results107, go_sem, er]
   . have hgz : g < gb \/ gb + 1 < g := hgap
     simp only
     omega
end Go.Proofs.Ytjcpjijihajopaa
namespace Go.Proofs.Ytjcpjijihajopaa
open Go.RowKit
structure RoomAt (w0 w : World) (lo gb k : Nat) (v0 v : RoomV) (r : RoomD) : Prop where
 ok : RoomOk w lo v r
 turn : Turn v0 w0 w
 moved : Moved gb v0 v
 base : gb = w0.heap.size
 blk : w.heap[gb]? = some (.cells (roomA v r) 121)
 size : gb + k <= w.heap.size
 kpos : 0 < k
 aR : v.gR < gb \/ gb + k <= v.gR
 aW : v.gW < gb \/ gb + k <= v.gW
 aB : v.gB < gb \/ gb + k <= v.gB
 aL : v.gL < gb \/ gb + k <= v.gL
 lob : lo <= gb
section
variable {w0 w w' : World} {lo gb k : Nat} {v0 v : RoomV} {r : RoomD}
theorem RoomAt.keep (h : RoomAt w0 w lo gb k v0 v r) (b : Below w.heap.size w w') : RoomAt w0 w' lo gb k v0 v r :=
 ⟨h.ok.below b, h.turn.same (Turn.of_below v0 b), h.moved, h.base, (b.block _ (blk_lt h.blk)).trans h.blk, Nat.le_trans h.size b.size, h.kpos, h.aR, h.aW, h.aB, h.aL, h.lob⟩
theorem RoomAt.alloc (h : RoomAt w0 w lo gb k v0 v r) (o : Obj) : RoomAt w0 (w.alloc o) lo gb k v0 v r := h.keep (below_al (Below.refl _ _) o)
theorem RoomAt.drew (h : RoomAt w0 w lo gb k v0 v r) : RoomAt w0 w.drew lo gb k v0 v r := h.keep ⟨rfl, rfl, rfl, Nat.le_refl _, λ _ _ => rfl⟩
theorem room_R (v : RoomV) (r : RoomD) (g c : Nat) (xs : List RecD) : (roomA v r).setIfInBounds 4 (.slice (some ⟨g, 0, none⟩) xs.length c) = roomA { v with gR := g, cR := c } { r with recs := xs } := rfl
theorem room_W (v : RoomV) (r : RoomD) (g c : Nat) (xs : List CallD) : (roomA v r).setIfInBounds 5 (.slice (some ⟨g, 0, none⟩) xs.length c) = roomA { v with gW := g, cW := c } { r with wait := xs } := rfl
theorem room_B (v : RoomV) (r : RoomD) (g c : Nat) (xs : List CallD) : (roomA v r).setIfInBounds 6 (.slice (some ⟨g, 0, none⟩) xs.length c) = roomA { v with gB := g, cB := c } { r with back := xs } := rfl
theorem room_L (v : RoomV) (r : RoomD) (g c : Nat) (xs : List (List UInt8)) : (roomA v r).setIfInBounds 7 (.slice (some ⟨g, 0, none⟩) xs.length c) = roomA { v with gL := g, cL := c } { r with log := xs } := rfl
theorem blk_grown6 {N g : Nat} {o : Obj} (hb : w.grownBy w' (some g)) (hN : w.heap[N]? = some o) (hne : N ≠ g) : w'.heap[N]? = some o /\ N < w'.heap.size :=
 ⟨(hb.block N (blk_lt hN) (by simp; exact hne)).trans hN, Nat.lt_of_lt_of_le (blk_lt hN) hb.size⟩
theorem grown_store {row : Nat} {b i : Nat} {u : Value} (hg : w.grownBy w' (some row)) {x : Nat} (hx : x < w.heap.size) (h1 : x ≠ row) (h2 : x ≠ b) : (w'.setCell ⟨b, i, none⟩ u).heap[x]? = w.heap[x]? :=
 (Below.heap_setCell w' _ _ x h2).trans (hg.block x hx (by simp; exact h1))
theorem RoomOk.setCell {b i : Nat} {u : Value} (h : RoomOk w lo v r) (hb : b ≠ v.gR /\ b ≠ v.gW /\ b ≠ v.gB /\ b ≠ v.gL) : RoomOk (w.setCell ⟨b, i, none⟩ u) lo v r :=
 ⟨row_keep' h.rc (Below.heap_setCell w _ _ _ (Ne.symm hb.1)), row_keep' h.wt (Below.heap_setCell w _ _ _ (Ne.symm hb.2.1)), row_keep' h.bk (Below.heap_setCell w _ _ _ (Ne.symm hb.2.2.1)), row_keep' h.lg (Below.heap_setCell w _ _ _ (Ne.symm hb.2.2.2)), h.ap⟩
theorem RoomAt.appB {m g c : Nat} {x : CallD} (h : RoomAt w0 w lo gb k v0 v r) (hg : w.grownBy w' (some v.gB)) (ho : w'.ownsRow lo 140 2 (.slice (some ⟨g, 0, none⟩) m c) m (calls r.back ++ x.cells)) (hm : m = r.back.length + 1) (hw : g = v.gB \/ g = w.heap.size) :
   RoomAt w0 (w'.setCell ⟨gb, 6, none⟩ (.slice (some ⟨g, 0, none⟩) m c)) lo gb k v0 { v with gB := g, cB := c } { r with back := r.back ++ [x] } := by
 have hk := h.ok.appB hg ho hm (by omega)
 have sz := h.size
 have kp := h.kpos
 have aR := h.aR; have aW := h.aW; have aB := h.aB; have aL := h.aL
 have l := h.ok.lts
 have hs := hg.size
 have hba := h.base
 have kb := (blk_grown6 hg h.blk (by omega)).1
 have hgn : g ≠ gb := by omega
 refine ⟨hk.setCell (by refine ⟨?_, ?_, ?_, ?_⟩ <;> (simp only; omega)), ?_, ⟨h.moved.r, h.moved.w, ?_, h.moved.l⟩, h.base, ?_, ?_, kp, aR, aW, ?_, aL, h.lob⟩
 . have t := h.turn
   have mb := h.moved.b
   refine ⟨hg.os.trans t.os, hg.tape.trans t.tape, hg.output.trans t.output, ?_, λ b hb h1 h2 => ?_⟩
   . rw [World.size_setCell]; have := t.size; omega
   . exact (grown_store hg (by have := t.size; omega) (by omega) (by omega)).trans (t.block b hb h1 h2)
 . have := h.moved.b
   simp only; omega
 . rw [blk_setCell kb]
   have e := room_B v r g c (r.back ++ [x])
   rw [hm]
   simp only [List.length_append, List.length_cons, List.length_nil] at e
   exact congrArg (λ a => some (Obj.cells a 121)) e
 . rw [World.size_setCell]; omega
 . simp only; omega
theorem RoomAt.appR {m g c : Nat} {x : RecD} (h : RoomAt w0 w lo gb k v0 v r) (hg : w.grownBy w' (some v.gR)) (ho : w'.ownsRow lo 50 7 (.slice (some ⟨g, 0, none⟩) m c) m (recs r.recs ++ x.cells)) (hm : m = r.recs.length + 1) (hw : g = v.gR \/ g = w.heap.size) :
   RoomAt w0 (w'.setCell ⟨gb, 4, none⟩ (.slice (some ⟨g, 0, none⟩) m c)) lo gb k v0 { v with gR := g, cR := c } { r with recs := r.recs ++ [x] } := by
 have hk := h.ok.appR hg ho hm (by omega)
 have sz := h.size
 have kp := h.kpos
 have aR := h.aR; have aW := h.aW; have aB := h.aB; have aL := h.aL
 have l := h.ok.lts
 have hs := hg.size
 have hba := h.base
 have kb := (blk_grown6 hg h.blk (by omega)).1
 have hgn : g ≠ gb := by omega
 refine ⟨hk.setCell (by refine ⟨?_, ?_, ?_, ?_⟩ <;> (simp only; omega)), ?_, ⟨?_, h.moved.w, h.moved.b, h.moved.l⟩, h.base, ?_, ?_, kp, ?_, aW, aB, aL, h.lob⟩
 . have t := h.turn
   have mb := h.moved.r
   refine ⟨hg.os.trans t.os, hg.tape.trans t.tape, hg.output.trans t.output, ?_, λ b hb h1 h2 => ?_⟩
   . rw [World.size_setCell]; have := t.size; omega
   . exact (grown_store hg (by have := t.size; omega) (by omega) (by omega)).trans (t.block b hb h1 h2)
 . have := h.moved.r
   simp only; omega
 . rw [blk_setCell kb]
   have e := room_R v r g c (r.recs ++ [x])
   rw [hm]
   simp only [List.length_append, List.length_cons, List.length_nil] at e
   exact congrArg (λ a => some (Obj.cells a 121)) e
 . rw [World.size_setCell]; omega
 . simp only; omega
theorem RoomAt.setW {g c n : Nat} {xs : List CallD} (h : RoomAt w0 w lo gb k v0 v r) (b : Below n w w') (ho : w'.ownsRow n 140 2 (.slice (some ⟨g, 0, none⟩) xs.length c) xs.length (calls xs)) (hn : n = w.heap.size) :
   RoomAt w0 (w'.setCell ⟨gb, 5, none⟩ (.slice (some ⟨g, 0, none⟩) xs.length c)) lo gb k v0 { v with gW := g, cW := c } { r with wait := xs } := by
 subst hn
 have hg : w.heap.size <= g := (ho.lt g rfl).1
 have sz := h.size
 have l := h.ok.lts
 have hba := h.base
 have lob := h.lob
 have hk := h.ok.newW (w' := w') (λ x hx => b.block x hx) (row_mono ho (by omega)) rfl hg
 have kp := h.kpos
 have aR := h.aR; have aW := h.aW; have aB := h.aB; have aL := h.aL
 have hs := b.size
 have kb := (blk_below b h.blk).1
 refine ⟨hk.setCell (by refine ⟨?_, ?_, ?_, ?_⟩ <;> (simp only; omega)), ?_, ⟨h.moved.r, .inr (by simp only; omega), h.moved.b, h.moved.l⟩, h.base, ?_, ?_, kp, aR, .inr (by simp only; omega), aB, aL, h.lob⟩
 . have t := h.turn
   refine ⟨b.os.trans t.os, b.tape.trans t.tape, b.output.trans t.output, ?_, λ y hy h1 h2 => ?_⟩
   . rw [World.size_setCell]; have := t.size; omega
   . exact ((Below.heap_setCell w' _ _ y (by show y ≠ gb; omega)).trans (b.block y (by have := t.size; omega))).trans (t.block y hy h1 h2)
 . rw [blk_setCell kb]
   rw [room_W v r g c xs]
 . rw [World.size_setCell]; omega
theorem RoomAt.setB {g c n : Nat} {xs : List CallD} (h : RoomAt w0 w lo gb k v0 v r) (b : Below n w w') (ho : w'.ownsRow n 140 2 (.slice (some ⟨g, 0, none⟩) xs.length c) xs.length (calls xs)) (hn : n = w.heap.size) :
   RoomAt w0 (w'.setCell ⟨gb, 6, none⟩ (.slice (some ⟨g, 0, none⟩) xs.length c)) lo gb k v0 { v with gB := g, cB := c } { r with back := xs } := by
 subst hn
 have hg : w.heap.size <= g := (ho.lt g rfl).1
 have sz := h.size
 have l := h.ok.lts
 have hba := h.base
 have lob := h.lob
 have hk := h.ok.newB (w' := w') (λ x hx => b.block x hx) (row_mono ho (by omega)) rfl hg
 have kp := h.kpos
 have aR := h.aR; have aW := h.aW; have aB := h.aB; have aL := h.aL
 have hs := b.size
 have kb := (blk_below b h.blk).1
 refine ⟨hk.setCell (by refine ⟨?_, ?_, ?_, ?_⟩ <;> (simp only; omega)), ?_, ⟨h.moved.r, h.moved.w, .inr (by simp only; omega), h.moved.l⟩, h.base, ?_, ?_, kp, aR, aW, .inr (by simp only; omega), aL, h.lob⟩
 . have t := h.turn
   refine ⟨b.os.trans t.os, b.tape.trans t.tape, b.output.trans t.output, ?_, λ y hy h1 h2 => ?_⟩
   . rw [World.size_setCell]; have := t.size; omega
   . exact ((Below.heap_setCell w' _ _ y (by show y ≠ gb; omega)).trans (b.block y (by have := t.size; omega))).trans (t.block y hy h1 h2)
 . rw [blk_setCell kb]
   rw [room_B v r g c xs]
 . rw [World.size_setCell]; omega
theorem RoomAt.setR {i j : Nat} {d : RecD} {u : Value} (f : RecD -> RecD) (h : RoomAt w0 w lo gb k v0 v r) (hd : r.recs[i]? = some d) (hj : j < 7) (hs : ∀ k, k < 7 -> k ≠ j -> (f d).cells[k]? = d.cells[k]?) (hv : (f d).cells[j]? = some u) :
   RoomAt w0 (w.setCell ⟨v.gR, i * 7 + j, none⟩ u) lo gb k v0 v { r with recs := r.recs.modify i f } := by
 obtain ⟨h1, h2⟩ := h.ok.setR f hd hj hs hv
 have l := h.ok.lts
 have hba := h.base
 have mr := h.moved.r
 have kp := h.kpos
 have aR := h.aR
 have sz := h.size
 refine ⟨h1, ?_, h.moved, h.base, ?_, by rw [World.size_setCell]; exact h.size, h.kpos, h.aR, h.aW, h.aB, h.aL, h.lob⟩
 . have t := h.turn
   refine ⟨t.os, t.tape, t.output, by rw [World.size_setCell]; exact t.size, λ y hy e1 e2 => ?_⟩
   exact (Below.heap_setCell w _ _ y (by show y ≠ v.gR; omega)).trans (t.block y hy e1 e2)
 . have e : (w.setCell ⟨v.gR, i * 7 + j, none⟩ u).heap[gb]? = w.heap[gb]? := Below.heap_setCell w _ _ gb (by show gb ≠ v.gR; omega)
   rw [e, h.blk]
   simp only [roomA, RoomV.sR, List.length_modify]
theorem RoomAt.turned {n : Nat} {v' : RoomV} {r' : RoomD} (h : RoomAt w0 w lo gb k v0 v r) (ho : RoomOk w' lo v' r') (t : Turn v w w') (m : Moved n v v') (hn : n = w.heap.size) :
   RoomOk w' lo v' r' /\ Turn v0 w0 w' /\ Moved gb v0 v' /\ w'.heap[gb]? = some (.cells (roomA v r) 121) := by
 have hba := h.base
 have sz := h.size
 have kp := h.kpos
 have aR := h.aR; have aB := h.aB
 exact ⟨ho, h.turn.trans t h.moved (by omega), h.moved.trans m (by omega), t.blk h.blk (by omega) (by omega)⟩
theorem RoomAt.done {b : Nat} {a0 a1 a2 a3 a4 a5 a6 a7 : Value} (h : RoomAt w0 w lo gb k v0 v r) (hb : gb <= b /\ b < gb + k) : RoomOk (set8 w b a0 a1 a2 a3 a4 a5 a6 a7) lo v r /\ Turn v0 w0 (set8 w b a0 a1 a2 a3 a4 a5 a6 a7) /\ Moved w0.heap.size v0 v := by
 have aR := h.aR; have aW := h.aW; have aB := h.aB; have aL := h.aL
 have hba := h.base
 exact ⟨h.ok.set8 (by omega), h.turn.set8 (by omega), hba ▸ h.moved⟩
theorem cel3_drew {a1 a2 a3 : Addr} {v1 v2 v3 : Value} (h : w.cell? a1 = some v1 /\ w.cell? a2 = some v2 /\ w.cell? a3 = some v3) : w.drew.cell? a1 = some v1 /\ w.drew.cell? a2 = some v2 /\ w.drew.cell? a3 = some v3 := h
theorem cel3_set {a1 a2 a3 p : Addr} {v1 v2 v3 u : Value} (h : w.cell? a1 = some v1 /\ w.cell? a2 = some v2 /\ w.cell? a3 = some v3) (n1 : p ≠ a1) (n2 : p ≠ a2) (n3 : p ≠ a3) : (w.setCell p u).cell? a1 = some v1 /\ (w.setCell p u).cell? a2 = some v2 /\ (w.setCell p u).cell? a3 = some v3 :=
 ⟨(World.cell?_setCell_other w p a1 u n1).trans h.1, (World.cell?_setCell_other w p a2 u n2).trans h.2.1, (World.cell?_setCell_other w p a3 u n3).trans h.2.2⟩
theorem cel3_blk {a1 a2 a3 : Addr} {v1 v2 v3 : Value} (h : w.cell? a1 = some v1 /\ w.cell? a2 = some v2 /\ w.cell? a3 = some v3) (k1 : w'.heap[a1.block]? = w.heap[a1.block]?) (k2 : w'.heap[a2.block]? = w.heap[a2.block]?) (k3 : w'.heap[a3.block]? = w.heap[a3.block]?) : w'.cell? a1 = some v1 /\ w'.cell? a2 = some v2 /\ w'.cell? a3 = some v3 :=
 ⟨(World.cell?_of_block k1).trans h.1, (World.cell?_of_block k2).trans h.2.1, (World.cell?_of_block k3).trans h.2.2⟩
theorem cell_alloc {a : Addr} {v : Value} (h : w.cell? a = some v) (o : Obj) : (w.alloc o).cell? a = some v := (World.cell?_alloc_some w a o (by rw [h]; rfl)).trans h
end
end Go.Proofs.Ytjcpjijihajopaa
namespace Go.Proofs.Ytjcpjijihajopaa
open Go.RowKit
theorem dec_big {u : Nat} (h : 9 < u) : Lib.decDigits u = Lib.decDigits (u / 10) ++ [UInt8.ofNat (48 + u % 10)] := by
 rw [Lib.decDigits, dif_neg (by omega)]
set_option maxHeartbeats 1000000 in
set_option maxRecDepth 20000 in
theorem l11Dec_any (k : Nat) (hk : k <= 100000000) (w : World) :
   Calls Try.prog 104 #[.int .i64 k] w λ e w' => e = .returned (.string ⟨(Lib.itoa k).toArray⟩) /\ Below w.heap.size w w' := by
 have hI := Lib.hid (Lib.itoa_nonneg k)
 go_enter Try.func104, Try.ntmps104
 go_wp2
 go_loopw [0, 3] (λ a s wr => ∃ (u : Nat) (l : List UInt8), a = .int .i64 u /\ s = .string ⟨l.toArray⟩ /\ u <= 100000000 /\ Lib.decDigits u ++ l = Lib.decDigits k /\ Below w.heap.size w wr) (λ a _ _ => (intOf a).toNat)
 case atStart => exact ⟨k, [], rfl, rfl, hk, List.append_nil _, Below.refl _ _⟩
 case round =>
   obtain ⟨u, l, rfl, rfl, hu, hl, B⟩ := hrel
   have HL := Lib.hid hl
   clear hl
   have hll : l.length <= 20 := by have := congrArg List.length HL.out; rw [List.length_append] at this; have := dec_len (k := k) (by omega); omega
   by_cases hlt : 9 < u
   . have hcv := cv1 wr (48 + u % 10) (by omega)
     rw [show ((48 + u % 10 : Nat) : Int) = 48 + (u : Int) % 10 by omega] at hcv
     have HD := Lib.hid (dec_big hlt)
     go_wp2
     go_roundw
     case rel => exact ⟨u / 10, UInt8.ofNat (48 + u % 10) :: l, by first | rfl | (congr 1; omega), by rw [bytes_app]; simp, by omega, by rw [<- HL.out, HD.out]; simp, below_al B _⟩
     case measure => simp [intOf]; omega
   . have hcv := cv1 wr (48 + u) (by omega)
     rw [show ((48 + u : Nat) : Int) = 48 + (u : Int) by omega] at hcv
     have HT := Lib.hid (show (⟨[UInt8.ofNat (48 + u)].toArray⟩ : ByteArray) ++ ⟨l.toArray⟩ = ⟨(Lib.itoa k).toArray⟩ by rw [bytes_app, hI.out, <- HL.out, Lib.decDigits_one (by omega)]; simp)
     go_wp2
     go_ret
     exact ⟨congrArg (λ x => Ending.returned (Value.string x)) (by rw [<- HT.out]; simp), below_al B _⟩
end Go.Proofs.Ytjcpjijihajopaa
namespace Go.Mt
open Go.Conc Go.Tt
theorem isDst_lt {ops : Array Oper} {n : Nat} (h2 : (ops.all λ o => match o.dst with | some d => decide (d < n) | none => true) = true) : ∀ s, isDst ops s = true -> s < n := by
 intro s hs
 unfold isDst at hs
 rw [Array.any_eq_true] at hs
 obtain ⟨i, hi, e⟩ := hs
 have h3 := Array.all_eq_true.1 h2 i hi
 have e2 : ops[i].dst = some s := by simpa using e
 rw [e2] at h3
 simpa using h3
theorem evT {Tf : Array Value} {V : Nat -> Value} (hT : TfV Tf V) {s : Nat} {v : Value} (hv : V s = v) : (Go.Act.mk Tf []).eval (.tmp s) = v := (show Tf.getD s undef = v from (hT s).trans hv)
section
variable {ops : Array Oper} {Tf : Array Value} {V : Nat -> Value} {o og : Oper} {j d : Nat} {b c : Bool}
theorem wanted_t (hT : TfV Tf V) (h : o.guard = some (j, b)) (hj : ops[j]? = some og) (hd : og.dst = some d) (hV : V d = .bool b) : Region.wanted o (yielded ops Tf) = true :=
 (wanted_if hT h hj hd hV).trans (by cases b <;> rfl)
end
section
variable {p : Program} {ρ : Operand -> Value} {o : Oper} {w : World}
theorem exec_mv {x : Operand} {v : Value} (ho : o.op = .move x \/ o.op = .assign x) (hx : ρ x = v) : (execOp ρ o).run p w = .ok (.value v) w := by
 rcases ho with ho | ho <;> (unfold execOp; rw [ho, <- hx]; rfl)
theorem exec_pk {c a b : Operand} {t : Bool} {v : Value} (ho : o.op = .pick c a b) (hc : ρ c = .bool t) (hv : (if t then ρ a else ρ b) = v) : (execOp ρ o).run p w = .ok (.value v) w := by
 unfold execOp
 rw [ho, <- hv]
 cases t <;> simp [go_sem, hc]
theorem exec_pkT {c a b : Operand} {v : Value} (ho : o.op = .pick c a b) (hc : ρ c = .bool true) (hv : ρ a = v) : (execOp ρ o).run p w = .ok (.value v) w := exec_pk ho hc hv
theorem exec_app {s x : Operand} {t : TypeId} {a b v : Value} {w' : World} (ho : o.op = .call ⟨.builtin .append, #[s, x], #[t, t]⟩) (hs : ρ s = a) (hx : ρ x = b) (hr : (Builtin.append_ #[t, t] o.type #[a, b]).run p w = .ok v w') : (execOp ρ o).run p w = .ok (.value v) w' := by
 unfold execOp
 simp only [ho, resolve, invoke, builtin, Sem.run_bind, Sem.run_pure, Result.andThen_ok, List.map_toArray, List.map_cons, List.map_nil, hs, hx, hr]
section
variable {t t2 : TypeId} {a b : Operand} {x y z : Int}
theorem exec_add (ho : o.op = .binOp .add t a b t2) (ha : ρ a = .int .i64 x) (hb : ρ b = .int .i64 y) (hz : IntKind.i64.wrap (x + y) = z) : (execOp ρ o).run p w = .ok (.value (.int .i64 z)) w := by
 unfold execOp
 rw [ho]
 simp [go_sem, ha, hb, <- hz]
theorem exec_eql {r : Bool} (ho : o.op = .binOp .eql t a b t2) (ha : ρ a = .int .i64 x) (hb : ρ b = .int .i64 y) (hz : (x == y) = r) : (execOp ρ o).run p w = .ok (.value (.bool r)) w := by
 unfold execOp
 rw [ho]
 simp [go_sem, ha, hb, <- hz]
end
end
def AllL (Q : Nat -> Oper -> Prop) : Nat -> List Oper -> Prop
 | _, [] => True
 | i, o :: l => Q i o /\ AllL Q (i + 1) l
theorem allL_get {Q : Nat -> Oper -> Prop} : ∀ (l : List Oper) (k : Nat), AllL Q k l -> ∀ (i : Nat) (o : Oper), l[i]? = some o -> Q (k + i) o
 | [], k, h, i, o, e => by simp at e
 | x :: l, k, h, 0, o, e => by simp at e; subst e; exact h.1
 | x :: l, k, h, i + 1, o, e => by
   have := allL_get l (k + 1) h.2 i o (by simpa using e)
   rw [show k + (i + 1) = k + 1 + i by omega]; exact this
theorem allL_ops {Q : Nat -> Oper -> Prop} {ops : Array Oper} {l : List Oper} (hl : ops.toList = l) (h : AllL Q 0 l) : ∀ (i : Nat) (o : Oper), ops[i]? = some o -> Q i o := λ i o e => by
 have := allL_get l 0 h i o (by rw [<- hl, Array.getElem?_toList]; exact e)
 rwa [Nat.zero_add] at this
end Go.Mt
namespace Go.Mt
open Go.Conc Go.Tt
def fillL (vals : Nat -> Value) : List (Option Tmp) -> Nat -> List Value -> List Value
 | [], _, t => t
 | none :: l, i, t => fillL vals l (i + 1) t
 | some d :: l, i, t => fillL vals l (i + 1) (t.set d (vals i))
theorem fillT_L (ops : Array Oper) (vals : Nat -> Value) (t0 : List Value) : fillT ops vals t0.toArray = (fillL vals (ops.toList.map (·.dst)) 0 t0).toArray := by
 have key : ∀ (l : List Oper) (k : Nat) (t : List Value), (∀ i, l[i]? = ops[k + i]?) ->
     (List.range' k l.length).foldl (λ t i => match (ops[i]?).bind (·.dst) with | some d => t.setIfInBounds d (vals i) | none => t) t.toArray = (fillL vals (l.map (·.dst)) k t).toArray := by
   intro l
   induction l with
   | nil => intro k t _; rfl
   | cons o l ih =>
     intro k t h
     have h0 := h 0
     simp at h0
     rw [List.length_cons, List.range'_succ, List.foldl_cons, <- h0]
     simp only [Option.bind_some, List.map_cons]
     have h1 : ∀ i, l[i]? = ops[k + 1 + i]? := λ i => by have := h (i + 1); simp at this; rw [this]; congr 1; omega
     cases hd : o.dst with
     | none => exact ih (k + 1) t h1
     | some d =>
       simp only [List.setIfInBounds_toArray]
       exact ih (k + 1) _ h1
 have := key ops.toList 0 t0 (λ i => by simp)
 unfold fillT
 rw [List.range_eq_range', <- Array.length_toList]
 exact this
end Go.Mt
namespace Go.Mt
open Go.Conc Go.Tt
def waitsFor (o : Oper) (j : Nat) : Bool := o.after.any λ e => Region.binds .any e && e.on == j
def chainOk (ops : Array Oper) : List Nat -> Bool
 | a :: b :: l => (match ops[b]? with | some o => waitsFor o a | none => false) && chainOk ops (b :: l)
 | [a] => decide (a < ops.size)
 | [] => true
def waitsT (ops : Array Oper) : Nat -> Oper -> Nat -> Bool
 | 0, o, j => waitsFor o j
 | n + 1, o, j => waitsFor o j || o.after.any λ e => Region.binds .any e && (match ops[e.on]? with | some o' => waitsT ops n o' j | none => false)
def mayAt (ops : Array Oper) (ws : List Nat) (i k : Nat) : Bool :=
 (ws.take k).all (λ j => match ops[j]? with | some o => !waitsT ops 5 o i | none => true) && (ws.drop k).all (λ j => match ops[i]? with | some o => !waitsFor o j | none => true)
inductive OpW (P : Program) (ops : Array Oper) (ws : List Nat) (Wd : Nat -> World) (Tf : Array Value) (i : Nat) (o : Oper) (v : Value) : Prop
 | no (hn : i ∉ ws) (h : Region.wanted o (yielded ops Tf) = false) (hv : v = undef)
 | val (hn : i ∉ ws) (h : Region.wanted o (yielded ops Tf) = true) (hx : ∀ k, k <= ws.length -> mayAt ops ws i k = true -> (execOp (Go.Act.mk Tf []).eval o).run P (Wd k) = .ok (.value v) (Wd k))
 | act (k : Nat) (hk : ws[k]? = some i) (h : Region.wanted o (yielded ops Tf) = true) (hx : (execOp (Go.Act.mk Tf []).eval o).run P (Wd k) = .ok (.value v) (Wd (k + 1)))
 | skp (k : Nat) (hk : ws[k]? = some i) (h : Region.wanted o (yielded ops Tf) = true) (hv : v = undef) (hx : (execOp (Go.Act.mk Tf []).eval o).run P (Wd k) = .ok .skip (Wd (k + 1)))
section
variable {P : Program} {ops : Array Oper} {ws : List Nat} {Wd : Nat -> World} {Q : Exit -> Go.Act -> World -> Prop} {t0 Tf : Array Value} {vals : Nat -> Value}
structure Stg (ops : Array Oper) (ws : List Nat) (listed : Array Bool) (k : Nat) : Prop where
 closed : ∀ (i : Nat) (o : Oper), ops[i]? = some o -> listed.getD i false = true -> ∀ j, waitsFor o j = true -> listed.getD j false = true
 le : k <= ws.length
 pre : ∀ (n i : Nat), ws[n]? = some i -> (listed.getD i false = true ↔ n < k)
theorem Stg.closedT {listed : Array Bool} {k : Nat} (h : Stg ops ws listed k) : ∀ (n : Nat) (i : Nat) (o : Oper), ops[i]? = some o -> listed.getD i false = true -> ∀ j, waitsT ops n o j = true -> listed.getD j false = true
 | 0, i, o, hi, hl, j, hj => h.closed i o hi hl j hj
 | n + 1, i, o, hi, hl, j, hj => by
   simp only [waitsT, Bool.or_eq_true] at hj
   rcases hj with hj | hj
   . exact h.closed i o hi hl j hj
   . rw [Array.any_eq_true] at hj
     obtain ⟨x, hx, h3⟩ := hj
     simp only [Bool.and_eq_true] at h3
     obtain ⟨h4, h5⟩ := h3
     split at h5
     . next o' ho' =>
       refine h.closedT n _ o' ho' (h.closed i o hi hl _ ?_) j h5
       unfold waitsFor
       rw [Array.any_eq_true]
       exact ⟨x, hx, by simp [h4]⟩
     . cases h5
theorem chain_step : ∀ {ws : List Nat}, chainOk ops ws = true -> ∀ (n a b : Nat), ws[n]? = some a -> ws[n + 1]? = some b -> ∃ o, ops[b]? = some o /\ waitsFor o a = true
 | [], _, n, a, b, h, _ => by simp at h
 | [x], _, n, a, b, h, h' => by simp at h'
 | x :: y :: l, hc, 0, a, b, h, h' => by
   simp at h h'
   subst h h'
   simp only [chainOk, Bool.and_eq_true] at hc
   have := hc.1
   split at this
   . next o e => exact ⟨o, e, this⟩
   . cases this
 | x :: y :: l, hc, n + 1, a, b, h, h' => by
   simp only [chainOk, Bool.and_eq_true] at hc
   exact chain_step hc.2 n a b (by simpa using h) (by simpa using h')
theorem getD_tf {l : Array Bool} {i : Nat} (h : l.getD i true = false) : l.getD i false = false := by
 rw [Array.getD_eq_getD_getElem?] at h ⊢
 cases e : l[i]? with
 | none => rfl
 | some x => rw [e] at h; exact h
theorem Stg.keep {listed : Array Bool} {k i : Nat} {o : Oper} (h : Stg ops ws listed k) (hi : ops[i]? = some o) (hn : i ∉ ws) (hd : ∀ j, waitsFor o j = true -> listed.getD j false = true) : Stg ops ws (listed.setIfInBounds i true) k := by
 have mono : ∀ j, listed.getD j false = true -> (listed.setIfInBounds i true).getD j false = true := λ j hj => by
   by_cases e : j = i
   . subst e
     rw [Array.getD_eq_getD_getElem?] at hj ⊢
     cases e2 : listed[j]? with
     | none => rw [e2] at hj; cases hj
     | some x => have : j < listed.size := (Array.getElem?_eq_some_iff.1 e2).1; simp [this]
   . rw [getD_set_ne false (Ne.symm e)]; exact hj
 refine ⟨λ a oa ha hl j hj => ?_, h.le, λ n a ha => ?_⟩
 . by_cases e : a = i
   . subst e
     rw [hi] at ha; obtain rfl := Option.some.inj ha
     exact mono j (hd j hj)
   . rw [getD_set_ne false (Ne.symm e)] at hl
     exact mono j (h.closed a oa ha hl j hj)
 . have e : a ≠ i := λ e => hn (e ▸ List.mem_of_getElem? ha)
   rw [getD_set_ne false (Ne.symm e)]
   exact h.pre n a ha
theorem Stg.next {listed : Array Bool} {k n i : Nat} {o : Oper} (hnd : ws.Nodup) (hc : chainOk ops ws = true) (h : Stg ops ws listed k) (hi : ops[i]? = some o) (hz : i < listed.size) (hn : ws[n]? = some i) (hu : listed.getD i false = false) (hd : ∀ j, waitsFor o j = true -> listed.getD j false = true) :
   n = k /\ Stg ops ws (listed.setIfInBounds i true) (k + 1) := by
 have hnl : n < ws.length := (List.getElem?_eq_some_iff.1 hn).1
 have hk : n = k := by
   have h1 : ¬ n < k := λ x => by have := (h.pre n i hn).2 x; rw [hu] at this; cases this
   rcases Nat.lt_or_ge k n with x | x
   . exfalso
     obtain ⟨m, rfl⟩ : ∃ m, n = m + 1 := ⟨n - 1, by omega⟩
     obtain ⟨a, ha⟩ : ∃ a, ws[m]? = some a := ⟨ws[m], List.getElem?_eq_getElem (by omega)⟩
     obtain ⟨o', ho', hw⟩ := chain_step hc m a i ha hn
     rw [hi] at ho'; obtain rfl := Option.some.inj ho'
     have := (h.pre m a ha).1 (hd a hw)
     omega
   . omega
 subst hk
 have mono : ∀ j, listed.getD j false = true -> (listed.setIfInBounds i true).getD j false = true := λ j hj => by
   by_cases e : j = i
   . subst e; simp [hz]
   . rw [getD_set_ne false (Ne.symm e)]; exact hj
 refine ⟨rfl, λ a oa ha hl j hj => ?_, by omega, λ m a ha => ?_⟩
 . by_cases e : a = i
   . subst e
     rw [hi] at ha; obtain rfl := Option.some.inj ha
     exact mono j (hd j hj)
   . rw [getD_set_ne false (Ne.symm e)] at hl
     exact mono j (h.closed a oa ha hl j hj)
 . by_cases e : a = i
   . subst e
     have hm : m = n := by
       have h1 : m < ws.length := (List.getElem?_eq_some_iff.1 ha).1
       have e1 := (List.getElem?_eq_some_iff.1 ha).2
       have e2 := (List.getElem?_eq_some_iff.1 hn).2
       exact (List.getElem_inj hnd).1 (e1.trans e2.symm)
     subst hm
     simp [hz]
   . have hm : m ≠ n := λ x => e (by subst x; rw [hn] at ha; exact (Option.some.inj ha).symm)
     rw [getD_set_ne false (Ne.symm e), h.pre m a ha]
     omega
theorem eval_defers (t : Array Value) (d : List Deferred) : (Go.Act.mk t d).eval = (Go.Act.mk t []).eval := by funext x; cases x <;> rfl
theorem chain_lt (K : OrdOk ops) : ∀ {ws : List Nat}, chainOk ops ws = true -> ∀ (n i : Nat), ws[n]? = some i -> i < ops.size
 | [], _, n, i, hi => by simp at hi
 | [a], hc, 0, i, hi => by simp at hi; subst hi; simpa [chainOk] using hc
 | [a], hc, n + 1, i, hi => by simp at hi
 | a :: b :: l, hc, 0, i, hi => by
   simp at hi; subst hi
   obtain ⟨o, h1, h2⟩ := chain_step hc 0 a b rfl rfl
   unfold waitsFor at h2
   rw [Array.any_eq_true] at h2
   obtain ⟨x, hx, h3⟩ := h2
   simp only [Bool.and_eq_true, beq_iff_eq] at h3
   have := K.bk b o h1 _ (Array.getElem_mem hx) h3.1
   have hb := (Array.getElem?_eq_some_iff.1 h1).1
   omega
 | a :: b :: l, hc, n + 1, i, hi => by
   simp only [chainOk, Bool.and_eq_true] at hc
   exact chain_lt K hc.2 n i (by simpa using hi)
theorem drawnGoD (K : OrdOk ops) (hnd : ws.Nodup) (hc : chainOk ops ws = true) (hT : Mid ops vals t0 (Array.replicate ops.size true) Tf) {d : List Deferred}
   (hop : ∀ (i : Nat) (o : Oper), ops[i]? = some o -> OpW P ops ws Wd Tf i o (vals i)) (hk : Q .normal ⟨Tf, d⟩ (Wd ws.length)) :
   ∀ (fuel : Nat) (listed : Array Bool) (t : Array Value) (k : Nat), listed.size = ops.size -> ((List.range ops.size).filter λ i => !listed.getD i false).length <= fuel -> Mid ops vals t0 listed t -> Stg ops ws listed k ->
     wpAny P .any ops Q fuel listed ⟨t, d⟩ (Wd k) := by
 have inR := chain_lt K hc
 have fin : ∀ (listed : Array Bool) (t : Array Value) (k : Nat), listed.size = ops.size -> (∀ i, i < ops.size -> listed.getD i false = true) -> Mid ops vals t0 listed t -> Stg ops ws listed k -> Q .normal ⟨t, d⟩ (Wd k) := by
   intro listed t k hz hall hm hst
   have e : listed = Array.replicate ops.size true := by
     apply Array.ext_getElem?
     intro j
     by_cases hj : j < ops.size
     . have := hall j hj
       have hjl : j < listed.size := by omega
       simp [hjl] at this
       simp [hj, hjl, this]
     . rw [Array.getElem?_eq_none (by omega), Array.getElem?_eq_none (by simp; omega)]
   subst e
   have e2 := hm.unique hT
   subst e2
   have e3 : k = ws.length := by
     rcases Nat.lt_or_ge k ws.length with x | x
     . have h1 : ws[k]? = some ws[k] := List.getElem?_eq_getElem x
       have := (hst.pre k _ h1).1 (hall _ (inR k _ h1))
       omega
     . have := hst.le; omega
   rw [e3]; exact hk
 intro fuel
 induction fuel with
 | zero =>
   intro listed t k hz hcnt hm hst
   have hall : ∀ i, i < ops.size -> listed.getD i false = true := λ i hi => by
     cases hl : listed.getD i false with
     | true => rfl
     | false =>
       have : i ∈ (List.range ops.size).filter λ i => !listed.getD i false := List.mem_filter.2 ⟨List.mem_range.2 hi, by rw [hl]; rfl⟩
       have := List.length_pos_of_mem this
       omega
   refine ⟨?_, fin listed t k hz hall hm hst⟩
   apply List.eq_nil_iff_forall_not_mem.2
   intro i hi
   obtain ⟨hu, o, ho, _⟩ := mem_ready.1 hi
   have := hall i (Array.getElem?_eq_some_iff.1 ho).1
   rw [getD_tf hu] at this; cases this
 | succ fuel ih =>
   intro listed t k hz hcnt hm hst
   refine ⟨λ hr => fin listed t k hz (first_ready K hz hr) hm hst, λ i hi => ?_⟩
   obtain ⟨hu, o, ho, hdep⟩ := mem_ready.1 hi
   have hu' := getD_tf hu
   have hsee := hm.sees K hT ho hdep
   have hm' := hm.step K ho hz hu
   have hil : i < ops.size := (Array.getElem?_eq_some_iff.1 ho).1
   have hw : ∀ j, waitsFor o j = true -> listed.getD j false = true := λ j hj => by
     unfold waitsFor at hj
     rw [Array.any_eq_true] at hj
     obtain ⟨x, hx, h3⟩ := hj
     simp only [Bool.and_eq_true, beq_iff_eq] at h3
     have := hdep _ (Array.getElem_mem hx) h3.1
     rwa [h3.2] at this
   have hcnt' : ((List.range ops.size).filter λ j => !(listed.setIfInBounds i true).getD j false).length <= fuel := by
     have hlt : ((List.range ops.size).filter λ j => !(listed.setIfInBounds i true).getD j false).length < ((List.range ops.size).filter λ j => !listed.getD j false).length := by
       have e : ((List.range ops.size).filter λ j => !(listed.setIfInBounds i true).getD j false) = ((List.range ops.size).filter λ j => !listed.getD j false).filter (λ j => j != i) := by
         rw [List.filter_filter]
         apply List.filter_congr
         intro j hj
         by_cases e : j = i
         . subst e
           have : j < listed.size := by omega
           simp [this]
         . rw [getD_set_ne false (Ne.symm e)]
           simp [e]
       rw [e]
       refine List.length_filter_lt_length_iff_exists.2 ⟨i, List.mem_filter.2 ⟨List.mem_range.2 hil, ?_⟩, by simp⟩
       rw [hu']; rfl
     omega
   have put_eq : ∀ v, (Go.Act.put ⟨t, d⟩ o.dst v) = ⟨(match o.dst with | some s => t.setIfInBounds s v | none => t), d⟩ := λ v => by
     unfold Go.Act.put
     cases o.dst <;> rfl
   have goon : ∀ k', Stg ops ws (listed.setIfInBounds i true) k' -> wpAny P .any ops Q fuel (listed.setIfInBounds i true) (Go.Act.put ⟨t, d⟩ o.dst (vals i)) (Wd k') := λ k' hst' => by
     rw [put_eq]
     exact ih _ _ k' (by simp [hz]) hcnt' hm' hst'
   have hev : (Go.Act.mk t d).eval = (Go.Act.mk t []).eval := eval_defers t d
   unfold wpOp
   simp only [ho]
   rcases hop i o ho with ⟨hn, h1, h2⟩ | ⟨hn, h1, h2⟩ | ⟨n, hn, h1, h2⟩ | ⟨n, hn, h1, hv, h2⟩
   . rw [if_neg (by rw [(wanted_agree hsee).trans h1]; simp), <- h2]
     exact goon k (hst.keep ho hn hw)
   . rw [if_pos ((wanted_agree hsee).trans h1)]
     refine .inl ?_
     have hmay : mayAt ops ws i k = true := by
       unfold mayAt
       rw [Bool.and_eq_true, List.all_eq_true, List.all_eq_true]
       refine ⟨λ j hj => ?_, λ j hj => ?_⟩
       . obtain ⟨m, hm2⟩ := List.getElem?_of_mem hj
         rw [List.getElem?_take] at hm2
         split at hm2
         . next hmk =>
           split
           . next oj hoj =>
             cases hq : waitsT ops 5 oj i with
             | false => rfl
             | true =>
               have := hst.closedT 5 j oj hoj ((hst.pre m j hm2).2 hmk) i hq
               rw [hu'] at this; cases this
           . rfl
         . cases hm2
       . obtain ⟨m, hm2⟩ := List.getElem?_of_mem hj
         rw [List.getElem?_drop] at hm2
         simp only [ho]
         cases hq : waitsFor o j with
         | false => rfl
         | true =>
           have := (hst.pre (k + m) j hm2).1 (hw j hq)
           omega
     show o.upon P ⟨t, d⟩ _ Q ((execOp (Go.Act.mk t d).eval o).run P (Wd k))
     rw [hev, exec_agree (K.sel i o ho) hsee, h2 k hst.le hmay]
     exact goon k (hst.keep ho hn hw)
   . rw [if_pos ((wanted_agree hsee).trans h1)]
     refine .inl ?_
     obtain ⟨rfl, hst'⟩ := hst.next hnd hc ho (by omega) hn hu' hw
     show o.upon P ⟨t, d⟩ _ Q ((execOp (Go.Act.mk t d).eval o).run P (Wd n))
     rw [hev, exec_agree (K.sel i o ho) hsee, h2]
     exact goon _ hst'
   . rw [if_pos ((wanted_agree hsee).trans h1)]
     refine .inl ?_
     obtain ⟨rfl, hst'⟩ := hst.next hnd hc ho (by omega) hn hu' hw
     show o.upon P ⟨t, d⟩ _ Q ((execOp (Go.Act.mk t d).eval o).run P (Wd n))
     rw [hev, exec_agree (K.sel i o ho) hsee, h2]
     have := goon _ hst'
     rw [hv] at this
     exact this
theorem wp_drawnD {id : Nat} {w : World} {d : List Deferred} (hm : P.follows .mixedOrders = true) (hok : ordOk ops = true) (hnd : ws.Nodup) (hc : chainOk ops ws = true) (h0 : Wd 0 = { w with drawn := w.drawn + 1 }) (hT : fillT ops vals t0 = Tf)
   (hop : ∀ (i : Nat) (o : Oper), ops[i]? = some o -> OpW P ops ws Wd Tf i o (vals i)) (hk : Q .normal ⟨Tf, d⟩ (Wd ws.length)) : (Code.region id ops true).wp P Q ⟨t0, d⟩ w := by
 refine wp_region_any hm ?_
 have K := ordOk_ok hok
 subst hT
 rw [<- h0]
 refine drawnGoD K hnd hc (fill_mid K) hop hk ops.size _ t0 0 (by simp) (Nat.le_trans (List.length_filter_le _ _) (by simp)) (Mid.start _ λ i => by by_cases hi : i < ops.size <;> simp [hi]) ⟨λ i o _ hl => ?_, Nat.zero_le _, λ n i hn => ?_⟩
 . exfalso
   by_cases hi : i < ops.size <;> simp [hi] at hl
 . constructor
   . intro hl
     exfalso
     by_cases hi : i < ops.size <;> simp [hi] at hl
   . intro x; omega
theorem wp_drawnDV {id : Nat} {w : World} {d : List Deferred} (hm : P.follows .mixedOrders = true) (hok : ordOk ops = true) (hnd : ws.Nodup) (hc : chainOk ops ws = true) (h0 : Wd 0 = { w with drawn := w.drawn + 1 }) (hsz : ∀ s, isDst ops s = true -> s < t0.size)
   (h : ∀ V : Nat -> Value, (∀ (i : Nat) (o : Oper) (d : Tmp), ops[i]? = some o -> o.dst = some d -> V d = vals i) -> (∀ s, isDst ops s = false -> V s = t0.getD s undef) ->
     ∀ Tf, TfV Tf V -> ∀ (i : Nat) (o : Oper), ops[i]? = some o -> OpW P ops ws Wd Tf i o (valV V o)) (hk : Q .normal ⟨fillT ops vals t0, d⟩ (Wd ws.length)) : (Code.region id ops true).wp P Q ⟨t0, d⟩ w := by
 have K := ordOk_ok hok
 have M := fill_mid (vals := vals) (t0 := t0) K
 let Tf := fillT ops vals t0
 have hV1 : ∀ (i : Nat) (o : Oper) (d : Tmp), ops[i]? = some o -> o.dst = some d -> Tf.getD d undef = vals i := λ i o d h1 h2 => by
   have hil : i < ops.size := (Array.getElem?_eq_some_iff.1 h1).1
   rw [Array.getD_eq_getD_getElem?, M.got i o d h1 h2 (hsz d (isDst_of h1 h2)) (by simp [hil])]
   rfl
 have hV2 : ∀ s, isDst ops s = false -> Tf.getD s undef = t0.getD s undef := λ s hs => by
   rw [Array.getD_eq_getD_getElem?, M.old s (λ i o h1 _ h2 => by rw [isDst_of h1 h2] at hs; cases hs), Array.getD_eq_getD_getElem?]
 have hop := h (λ s => Tf.getD s undef) hV1 hV2 Tf (λ s => rfl)
 let vals' : Nat -> Value := λ i => match ops[i]? with | some o => valV (λ s => Tf.getD s undef) o | none => undef
 have e : fillT ops vals' t0 = fillT ops vals t0 := by
   refine (fill_mid (vals := vals') K).unique ⟨M.size, λ i o d h1 h2 h3 h4 => ?_, M.old⟩
   rw [M.got i o d h1 h2 h3 h4]
   show some (vals i) = some (match ops[i]? with | some o => valV (λ s => Tf.getD s undef) o | none => undef)
   rw [h1]
   simp only [valV, h2]
   rw [hV1 i o d h1 h2]
 refine wp_drawnD hm hok hnd hc h0 e (λ i o h1 => ?_) hk
 have e2 : vals' i = valV (λ s => Tf.getD s undef) o := by
   show (match ops[i]? with | some o => valV (λ s => Tf.getD s undef) o | none => undef) = _
   rw [h1]
 rw [e2]
 exact hop i o h1
end
end Go.Mt
namespace Go.Proofs.Ytjcpjijihajopaa
open Go.RowKit Go.Mt Go.Conc Go.Tt Go.Maps
noncomputable def bodyRG : Go.Code := (Try.f95.body).getD .skip
noncomputable def rRG7 : Go.Code := match bodyRG with | .seq _ (.seq _ (.seq _ (.seq (a) _))) => a | _ => .skip
noncomputable def opsRG7 : Array Oper := match rRG7 with | .region _ ops _ => ops | _ => #[]
abbrev oRG7_0 : Oper := { dst := some 36, op := Go.Op.fieldAddr 121 (Go.Operand.tmp 2) 2, type := 0, pos := "l6_office.go:151", after := #[], guard := none }
theorem opsRG7_0 : opsRG7[0]? = some oRG7_0 := rfl
abbrev oRG7_1 : Oper := { dst := some 37, op := Go.Op.load 25 (Go.Operand.tmp 36), type := 25, pos := "l6_office.go:151", after := #[{ on := 0, ground := Go.Ground.data }], guard := none }
theorem opsRG7_1 : opsRG7[1]? = some oRG7_1 := rfl
abbrev oRG7_2 : Oper := { dst := some 38, op := Go.Op.fieldAddr 140 (Go.Operand.tmp 3) 0, type := 0, pos := "l6_office.go:151", after := #[], guard := none }
theorem opsRG7_2 : opsRG7[2]? = some oRG7_2 := rfl
abbrev oRG7_3 : Oper := { dst := some 39, op := Go.Op.load 3 (Go.Operand.tmp 38), type := 3, pos := "l6_office.go:151", after := #[{ on := 2, ground := Go.Ground.data }], guard := none }
theorem opsRG7_3 : opsRG7[3]? = some oRG7_3 := rfl
abbrev oRG7_4 : Oper := { dst := some 40, op := Go.Op.move (Go.Operand.tmp 6), type := 73, pos := "l6_office.go:151", after := #[], guard := none }
theorem opsRG7_4 : opsRG7[4]? = some oRG7_4 := rfl
abbrev oRG7_5 : Oper := { dst := some 41, op := Go.Op.indexAddr 73 (Go.Operand.tmp 40) (Go.Operand.const (Go.Value.int Go.IntKind.i64 0)), type := 0, pos := "l6_office.go:151", after := #[{ on := 4, ground := Go.Ground.data }], guard := none }
theorem opsRG7_5 : opsRG7[5]? = some oRG7_5 := rfl
abbrev oRG7_6 : Oper := { dst := some 42, op := Go.Op.load 3 (Go.Operand.tmp 41), type := 3, pos := "l6_office.go:151", after := #[{ on := 5, ground := Go.Ground.data }], guard := none }
theorem opsRG7_6 : opsRG7[6]? = some oRG7_6 := rfl
abbrev oRG7_7 : Oper := { dst := some 43, op := Go.Op.fieldAddr 121 (Go.Operand.tmp 2) 1, type := 0, pos := "l6_office.go:151", after := #[], guard := none }
theorem opsRG7_7 : opsRG7[7]? = some oRG7_7 := rfl
abbrev oRG7_8 : Oper := { dst := some 44, op := Go.Op.load 3 (Go.Operand.tmp 43), type := 3, pos := "l6_office.go:151", after := #[{ on := 7, ground := Go.Ground.data }], guard := none }
theorem opsRG7_8 : opsRG7[8]? = some oRG7_8 := rfl
abbrev oRG7_9 : Oper := { dst := some 45, op := Go.Op.build 50 #[(0, Go.Operand.tmp 39), (1, Go.Operand.tmp 42), (3, Go.Operand.tmp 44), (4, Go.Operand.const (Go.Value.int Go.IntKind.i64 (-1))), (5, Go.Operand.const (Go.Value.int Go.IntKind.i64 (-1))), (6, Go.Operand.const (Go.Value.string { data := #[111, 112, 101, 110] }))], type := 50, pos := "l6_office.go:151", after := #[{ on := 3, ground := Go.Ground.data }, { on := 6, ground := Go.Ground.data }, { on := 8, ground := Go.Ground.data }], guard := none }
theorem opsRG7_9 : opsRG7[9]? = some oRG7_9 := rfl
abbrev oRG7_10 : Oper := { dst := some 46, op := Go.Op.buildSlice 25 1 #[(0, Go.Operand.tmp 45)], type := 25, pos := "l6_office.go:151", after := #[{ on := 9, ground := Go.Ground.data }], guard := none }
theorem opsRG7_10 : opsRG7[10]? = some oRG7_10 := rfl
abbrev oRG7_11 : Oper := { dst := some 47, op := Go.Op.call { callee := Go.Callee.builtin Go.Builtin.append, args := #[Go.Operand.tmp 37, Go.Operand.tmp 46], argTypes := #[25, 25] }, type := 25, pos := "l6_office.go:151", after := #[{ on := 1, ground := Go.Ground.data }, { on := 10, ground := Go.Ground.data }], guard := none }
theorem opsRG7_11 : opsRG7[11]? = some oRG7_11 := rfl
abbrev oRG7_12 : Oper := { dst := some 48, op := Go.Op.fieldAddr 121 (Go.Operand.tmp 2) 2, type := 0, pos := "l6_office.go:151", after := #[{ on := 0, ground := Go.Ground.phase }, { on := 1, ground := Go.Ground.phase }, { on := 2, ground := Go.Ground.phase }, { on := 3, ground := Go.Ground.phase }, { on := 4, ground := Go.Ground.phase }, { on := 5, ground := Go.Ground.phase }, { on := 6, ground := Go.Ground.phase }, { on := 7, ground := Go.Ground.phase }, { on := 8, ground := Go.Ground.phase }, { on := 9, ground := Go.Ground.phase }, { on := 10, ground := Go.Ground.phase }, { on := 11, ground := Go.Ground.phase }], guard := none }
theorem opsRG7_12 : opsRG7[12]? = some oRG7_12 := rfl
abbrev oRG7_13 : Oper := { dst := none, op := Go.Op.store 25 (Go.Operand.tmp 48) (Go.Operand.tmp 47), type := 0, pos := "l6_office.go:151", after := #[{ on := 12, ground := Go.Ground.data }, { on := 11, ground := Go.Ground.data }, { on := 11, ground := Go.Ground.chain }, { on := 0, ground := Go.Ground.phase }, { on := 1, ground := Go.Ground.phase }, { on := 2, ground := Go.Ground.phase }, { on := 3, ground := Go.Ground.phase }, { on := 4, ground := Go.Ground.phase }, { on := 5, ground := Go.Ground.phase }, { on := 6, ground := Go.Ground.phase }, { on := 7, ground := Go.Ground.phase }, { on := 8, ground := Go.Ground.phase }, { on := 9, ground := Go.Ground.phase }, { on := 10, ground := Go.Ground.phase }, { on := 11, ground := Go.Ground.phase }], guard := none }
structure DRG7 (V : Nat -> Value) (w w3 : World) (gb gf gR nR cR g1 c1 nf cf : Nat) (cc l clk : Int) : Prop where
 v2 : V 2 = .pointer (some ⟨gb, 0, none⟩)
 v3 : V 3 = .pointer (some ⟨gb + 1, 0, none⟩)
 v6 : V 6 = .slice (some ⟨gf, 0, none⟩) nf cf
 v36 : V 36 = .pointer (some ⟨gb, 4, none⟩)
 v37 : V 37 = .slice (some ⟨gR, 0, none⟩) nR cR
 v38 : V 38 = .pointer (some ⟨gb + 1, 0, none⟩)
 v39 : V 39 = .int .i64 (cc)
 v40 : V 40 = .slice (some ⟨gf, 0, none⟩) nf cf
 v41 : V 41 = .pointer (some ⟨gf, 0, none⟩)
 v42 : V 42 = .int .i64 (l)
 v43 : V 43 = .pointer (some ⟨gb, 3, none⟩)
 v44 : V 44 = .int .i64 (clk)
 v45 : V 45 = .agg #[.int .i64 cc, .int .i64 l, .int .i64 0, .int .i64 clk, .int .i64 (-1), .int .i64 (-1), .string openB]
 v46 : V 46 = .slice (some ⟨w.heap.size, 0, none⟩) 1 1
 v47 : V 47 = .slice (some ⟨g1, 0, none⟩) (nR + 1) c1
 v48 : V 48 = .pointer (some ⟨gb, 4, none⟩)
 h3 : w.cell? ⟨gb, 3, none⟩ = some (.int .i64 clk)
 h4 : w.cell? ⟨gb, 4, none⟩ = some (.slice (some ⟨gR, 0, none⟩) nR cR)
 hq : w.cell? ⟨gb + 1, 0, none⟩ = some (.int .i64 cc)
 hf : w.cell? ⟨gf, 0, none⟩ = some (.int .i64 l)
 hnf : 0 < nf
 hap : (Builtin.append_ #[25, 25] 25 #[.slice (some ⟨gR, 0, none⟩) nR cR, .slice (some ⟨w.heap.size, 0, none⟩) 1 1]).run Try.prog ((w.alloc (.cells #[.int .i64 cc, .int .i64 l, .int .i64 0, .int .i64 clk, .int .i64 (-1), .int .i64 (-1), .string openB] 50)).drew) = .ok (.slice (some ⟨g1, 0, none⟩) (nR + 1) c1) w3
 hst : w3.cell? ⟨gb, 4, none⟩ = some (.slice (some ⟨gR, 0, none⟩) nR cR)
 hfz : w3.frozen? ⟨gb, 4, none⟩ = false
def WRG7 (w w3 : World) (gb gf gR nR cR g1 c1 nf cf : Nat) (cc l clk : Int) : Nat -> World
 | 0 => w.drew
 | 1 => (w.alloc (.cells #[.int .i64 cc, .int .i64 l, .int .i64 0, .int .i64 clk, .int .i64 (-1), .int .i64 (-1), .string openB] 50)).drew
 | 2 => w3
 | _ => w3.setCell ⟨gb, 4, none⟩ (.slice (some ⟨g1, 0, none⟩) (nR + 1) c1)
section
variable {V : Nat -> Value} {Tf : Array Value} {w w3 : World} {gb gf gR nR cR g1 c1 nf cf : Nat} {cc l clk : Int}
theorem dRG7_0 (E : DRG7 V w w3 gb gf gR nR cR g1 c1 nf cf cc l clk) (hT : TfV Tf V) : OpW Try.prog opsRG7 [10, 11, 13] (WRG7 w w3 gb gf gR nR cR g1 c1 nf cf cc l clk) Tf 0 oRG7_0 (V 36) := by
 have e2 := E.v2;
 refine .val (by decide) (wanted_no rfl) λ kk hkk hm => ?_
 rw [E.v36]; unfold execOp; go_simp
theorem dRG7_1 (E : DRG7 V w w3 gb gf gR nR cR g1 c1 nf cf cc l clk) (hT : TfV Tf V) : OpW Try.prog opsRG7 [10, 11, 13] (WRG7 w w3 gb gf gR nR cR g1 c1 nf cf cc l clk) Tf 1 oRG7_1 (V 37) := by
 have e36 := E.v36;
 refine .val (by decide) (wanted_no rfl) λ kk hkk hm => ?_
 rw [E.v37]; rcases kk with _ | _ | _ | _ | kk
 . show (execOp _ _).run _ (w.drew) = Result.ok _ (w.drew); have hh : w.drew.cell? _ = _ := E.h4; unfold execOp; go_simp
 . show (execOp _ _).run _ ((w.alloc (.cells #[.int .i64 cc, .int .i64 l, .int .i64 0, .int .i64 clk, .int .i64 (-1), .int .i64 (-1), .string openB] 50)).drew) = Result.ok _ ((w.alloc (.cells #[.int .i64 cc, .int .i64 l, .int .i64 0, .int .i64 clk, .int .i64 (-1), .int .i64 (-1), .string openB] 50)).drew); have hh := cell_alloc E.h4 (.cells #[.int .i64 cc, .int .i64 l, .int .i64 0, .int .i64 clk, .int .i64 (-1), .int .i64 (-1), .string openB] 50); unfold execOp; go_simp
 . exact absurd hm (by decide +kernel)
 . exact absurd hm (by decide +kernel)
 . simp at hkk
theorem dRG7_2 (E : DRG7 V w w3 gb gf gR nR cR g1 c1 nf cf cc l clk) (hT : TfV Tf V) : OpW Try.prog opsRG7 [10, 11, 13] (WRG7 w w3 gb gf gR nR cR g1 c1 nf cf cc l clk) Tf 2 oRG7_2 (V 38) := by
 have e3 := E.v3;
 refine .val (by decide) (wanted_no rfl) λ kk hkk hm => ?_
 rw [E.v38]; unfold execOp; go_simp
theorem dRG7_3 (E : DRG7 V w w3 gb gf gR nR cR g1 c1 nf cf cc l clk) (hT : TfV Tf V) : OpW Try.prog opsRG7 [10, 11, 13] (WRG7 w w3 gb gf gR nR cR g1 c1 nf cf cc l clk) Tf 3 oRG7_3 (V 39) := by
 have e38 := E.v38;
 refine .val (by decide) (wanted_no rfl) λ kk hkk hm => ?_
 rw [E.v39]; rcases kk with _ | _ | _ | _ | kk
 . show (execOp _ _).run _ (w.drew) = Result.ok _ (w.drew); have hh : w.drew.cell? _ = _ := E.hq; unfold execOp; go_simp
 . exact absurd hm (by decide +kernel)
 . exact absurd hm (by decide +kernel)
 . exact absurd hm (by decide +kernel)
 . simp at hkk
theorem dRG7_4 (E : DRG7 V w w3 gb gf gR nR cR g1 c1 nf cf cc l clk) (hT : TfV Tf V) : OpW Try.prog opsRG7 [10, 11, 13] (WRG7 w w3 gb gf gR nR cR g1 c1 nf cf cc l clk) Tf 4 oRG7_4 (V 40) := by
 have e6 := E.v6;
 refine .val (by decide) (wanted_no rfl) λ kk hkk hm => ?_
 rw [E.v40]; unfold execOp; go_simp
theorem dRG7_5 (E : DRG7 V w w3 gb gf gR nR cR g1 c1 nf cf cc l clk) (hT : TfV Tf V) : OpW Try.prog opsRG7 [10, 11, 13] (WRG7 w w3 gb gf gR nR cR g1 c1 nf cf cc l clk) Tf 5 oRG7_5 (V 41) := by
 have e40 := E.v40;
 refine .val (by decide) (wanted_no rfl) λ kk hkk hm => ?_
 rw [E.v41]; have hne : nf ≠ 0 := by have := E.hnf; omega
 unfold execOp; go_simp
theorem dRG7_6 (E : DRG7 V w w3 gb gf gR nR cR g1 c1 nf cf cc l clk) (hT : TfV Tf V) : OpW Try.prog opsRG7 [10, 11, 13] (WRG7 w w3 gb gf gR nR cR g1 c1 nf cf cc l clk) Tf 6 oRG7_6 (V 42) := by
 have e41 := E.v41;
 refine .val (by decide) (wanted_no rfl) λ kk hkk hm => ?_
 rw [E.v42]; rcases kk with _ | _ | _ | _ | kk
 . show (execOp _ _).run _ (w.drew) = Result.ok _ (w.drew); have hh : w.drew.cell? _ = _ := E.hf; unfold execOp; go_simp
 . exact absurd hm (by decide +kernel)
 . exact absurd hm (by decide +kernel)
 . exact absurd hm (by decide +kernel)
 . simp at hkk
theorem dRG7_7 (E : DRG7 V w w3 gb gf gR nR cR g1 c1 nf cf cc l clk) (hT : TfV Tf V) : OpW Try.prog opsRG7 [10, 11, 13] (WRG7 w w3 gb gf gR nR cR g1 c1 nf cf cc l clk) Tf 7 oRG7_7 (V 43) := by
 have e2 := E.v2;
 refine .val (by decide) (wanted_no rfl) λ kk hkk hm => ?_
 rw [E.v43]; unfold execOp; go_simp
theorem dRG7_8 (E : DRG7 V w w3 gb gf gR nR cR g1 c1 nf cf cc l clk) (hT : TfV Tf V) : OpW Try.prog opsRG7 [10, 11, 13] (WRG7 w w3 gb gf gR nR cR g1 c1 nf cf cc l clk) Tf 8 oRG7_8 (V 44) := by
 have e43 := E.v43;
 refine .val (by decide) (wanted_no rfl) λ kk hkk hm => ?_
 rw [E.v44]; rcases kk with _ | _ | _ | _ | kk
 . show (execOp _ _).run _ (w.drew) = Result.ok _ (w.drew); have hh : w.drew.cell? _ = _ := E.h3; unfold execOp; go_simp
 . exact absurd hm (by decide +kernel)
 . exact absurd hm (by decide +kernel)
 . exact absurd hm (by decide +kernel)
 . simp at hkk
theorem dRG7_9 (E : DRG7 V w w3 gb gf gR nR cR g1 c1 nf cf cc l clk) (hT : TfV Tf V) : OpW Try.prog opsRG7 [10, 11, 13] (WRG7 w w3 gb gf gR nR cR g1 c1 nf cf cc l clk) Tf 9 oRG7_9 (V 45) := by
 have e39 := E.v39; have e42 := E.v42; have e44 := E.v44;
 refine .val (by decide) (wanted_no rfl) λ kk hkk hm => ?_
 rw [E.v45]; unfold execOp; go_simp; rfl
theorem dRG7_10 (E : DRG7 V w w3 gb gf gR nR cR g1 c1 nf cf cc l clk) (hT : TfV Tf V) : OpW Try.prog opsRG7 [10, 11, 13] (WRG7 w w3 gb gf gR nR cR g1 c1 nf cf cc l clk) Tf 10 oRG7_10 (V 46) := by
 have e45 := E.v45;
 refine .act 0 rfl (wanted_no rfl) ?_
 rw [E.v46]; show (execOp _ _).run _ (w.drew) = Result.ok _ ((w.alloc (.cells #[.int .i64 cc, .int .i64 l, .int .i64 0, .int .i64 clk, .int .i64 (-1), .int .i64 (-1), .string openB] 50)).drew); unfold execOp; go_simp
theorem dRG7_11 (E : DRG7 V w w3 gb gf gR nR cR g1 c1 nf cf cc l clk) (hT : TfV Tf V) : OpW Try.prog opsRG7 [10, 11, 13] (WRG7 w w3 gb gf gR nR cR g1 c1 nf cf cc l clk) Tf 11 oRG7_11 (V 47) := by
 have e37 := E.v37; have e46 := E.v46;
 refine .act 1 rfl (wanted_no rfl) ?_
 rw [E.v47]; exact exec_app rfl (evT hT E.v37) (evT hT E.v46) E.hap
theorem dRG7_12 (E : DRG7 V w w3 gb gf gR nR cR g1 c1 nf cf cc l clk) (hT : TfV Tf V) : OpW Try.prog opsRG7 [10, 11, 13] (WRG7 w w3 gb gf gR nR cR g1 c1 nf cf cc l clk) Tf 12 oRG7_12 (V 48) := by
 have e2 := E.v2;
 refine .val (by decide) (wanted_no rfl) λ kk hkk hm => ?_
 rw [E.v48]; unfold execOp; go_simp
theorem dRG7_13 (E : DRG7 V w w3 gb gf gR nR cR g1 c1 nf cf cc l clk) (hT : TfV Tf V) : OpW Try.prog opsRG7 [10, 11, 13] (WRG7 w w3 gb gf gR nR cR g1 c1 nf cf cc l clk) Tf 13 oRG7_13 (undef) := by
 have e47 := E.v47; have e48 := E.v48;
 refine .skp 2 rfl (wanted_no rfl) rfl ?_
 have hs := E.hst; have hf := E.hfz; show (execOp _ _).run _ (w3) = Result.ok _ (w3.setCell ⟨gb, 4, none⟩ (.slice (some ⟨g1, 0, none⟩) (nR + 1) c1)); unfold execOp; go_simp
theorem opsRG7_list : opsRG7.toList = [oRG7_0, oRG7_1, oRG7_2, oRG7_3, oRG7_4, oRG7_5, oRG7_6, oRG7_7, oRG7_8, oRG7_9, oRG7_10, oRG7_11, oRG7_12, oRG7_13] := rfl
theorem dRG7_all (E : DRG7 V w w3 gb gf gR nR cR g1 c1 nf cf cc l clk) (hT : TfV Tf V) : ∀ (i : Nat) (o : Oper), opsRG7[i]? = some o -> OpW Try.prog opsRG7 [10, 11, 13] (WRG7 w w3 gb gf gR nR cR g1 c1 nf cf cc l clk) Tf i o (valV V o) :=
 allL_ops opsRG7_list ⟨dRG7_0 E hT, dRG7_1 E hT, dRG7_2 E hT, dRG7_3 E hT, dRG7_4 E hT, dRG7_5 E hT, dRG7_6 E hT, dRG7_7 E hT, dRG7_8 E hT, dRG7_9 E hT, dRG7_10 E hT, dRG7_11 E hT, dRG7_12 E hT, dRG7_13 E hT, trivial⟩
end
theorem opsRG7_ok : ordOk opsRG7 = true := by kernel_rfl
theorem opsRG7_ch : chainOk opsRG7 [10, 11, 13] = true := by kernel_rfl
theorem opsRG7_dst : opsRG7.toList.map (·.dst) = [some 36, some 37, some 38, some 39, some 40, some 41, some 42, some 43, some 44, some 45, some 46, some 47, some 48, none] := by rw [opsRG7_list]; rfl
def fRG7 (w w3 : World) (gb gf gR nR cR g1 c1 nf cf : Nat) (cc l clk : Int) (i : Nat) : Value := ([.pointer (some ⟨gb, 4, none⟩), .slice (some ⟨gR, 0, none⟩) nR cR, .pointer (some ⟨gb + 1, 0, none⟩), .int .i64 (cc), .slice (some ⟨gf, 0, none⟩) nf cf, .pointer (some ⟨gf, 0, none⟩), .int .i64 (l), .pointer (some ⟨gb, 3, none⟩), .int .i64 (clk), .agg #[.int .i64 cc, .int .i64 l, .int .i64 0, .int .i64 clk, .int .i64 (-1), .int .i64 (-1), .string openB], .slice (some ⟨w.heap.size, 0, none⟩) 1 1, .slice (some ⟨g1, 0, none⟩) (nR + 1) c1, .pointer (some ⟨gb, 4, none⟩), undef] : List Value).getD i undef
theorem wp_RG7 {Q : Exit -> Go.Act -> World -> Prop} {d : List Deferred} {t0 : Array Value} (w w3 : World) (gb gf gR nR cR g1 c1 nf cf : Nat) (cc l clk : Int) (hz : t0.size = 60) (t2 : t0.getD 2 undef = .pointer (some ⟨gb, 0, none⟩)) (t3 : t0.getD 3 undef = .pointer (some ⟨gb + 1, 0, none⟩)) (t6 : t0.getD 6 undef = .slice (some ⟨gf, 0, none⟩) nf cf) (h3 : w.cell? ⟨gb, 3, none⟩ = some (.int .i64 clk)) (h4 : w.cell? ⟨gb, 4, none⟩ = some (.slice (some ⟨gR, 0, none⟩) nR cR)) (hq : w.cell? ⟨gb + 1, 0, none⟩ = some (.int .i64 cc)) (hf : w.cell? ⟨gf, 0, none⟩ = some (.int .i64 l)) (hnf : 0 < nf) (hap : (Builtin.append_ #[25, 25] 25 #[.slice (some ⟨gR, 0, none⟩) nR cR, .slice (some ⟨w.heap.size, 0, none⟩) 1 1]).run Try.prog ((w.alloc (.cells #[.int .i64 cc, .int .i64 l, .int .i64 0, .int .i64 clk, .int .i64 (-1), .int .i64 (-1), .string openB] 50)).drew) = .ok (.slice (some ⟨g1, 0, none⟩) (nR + 1) c1) w3) (hst : w3.cell? ⟨gb, 4, none⟩ = some (.slice (some ⟨gR, 0, none⟩) nR cR)) (hfz : w3.frozen? ⟨gb, 4, none⟩ = false) (h0 : WRG7 w w3 gb gf gR nR cR g1 c1 nf cf cc l clk 0 = w.drew) (hk : Q .normal ⟨fillT opsRG7 (fRG7 w w3 gb gf gR nR cR g1 c1 nf cf cc l clk) t0, d⟩ (w3.setCell ⟨gb, 4, none⟩ (.slice (some ⟨g1, 0, none⟩) (nR + 1) c1))) :
   (Go.Code.region 7 opsRG7 true).wp Try.prog Q ⟨t0, d⟩ w := by
 refine wp_drawnDV (ws := [10, 11, 13]) (Wd := WRG7 w w3 gb gf gR nR cR g1 c1 nf cf cc l clk) (vals := fRG7 w w3 gb gf gR nR cR g1 c1 nf cf cc l clk) Try.checked.mixed opsRG7_ok (by decide) opsRG7_ch h0 (by rw [hz]; exact isDst_lt (by kernel_rfl)) (λ V hU hV => ?_) hk
 have E : DRG7 V w w3 gb gf gR nR cR g1 c1 nf cf cc l clk := ⟨(hV 2 (by kernel_rfl)).trans t2, (hV 3 (by kernel_rfl)).trans t3, (hV 6 (by kernel_rfl)).trans t6, hU 0 _ 36 opsRG7_0 rfl, hU 1 _ 37 opsRG7_1 rfl, hU 2 _ 38 opsRG7_2 rfl, hU 3 _ 39 opsRG7_3 rfl, hU 4 _ 40 opsRG7_4 rfl, hU 5 _ 41 opsRG7_5 rfl, hU 6 _ 42 opsRG7_6 rfl, hU 7 _ 43 opsRG7_7 rfl, hU 8 _ 44 opsRG7_8 rfl, hU 9 _ 45 opsRG7_9 rfl, hU 10 _ 46 opsRG7_10 rfl, hU 11 _ 47 opsRG7_11 rfl, hU 12 _ 48 opsRG7_12 rfl, h3, h4, hq, hf, hnf, hap, hst, hfz⟩
 exact λ Tf hT i o e => dRG7_all E hT i o e
noncomputable def bodyRU : Go.Code := (Try.f97.body).getD .skip
noncomputable def rRU10 : Go.Code := match bodyRU with | .seq _ (.seq _ (.seq _ (.seq _ (.seq _ (.seq (a) _))))) => a | _ => .skip
noncomputable def opsRU10 : Array Oper := match rRU10 with | .region _ ops _ => ops | _ => #[]
abbrev oRU10_0 : Oper := { dst := some 38, op := Go.Op.fieldAddr 121 (Go.Operand.tmp 2) 2, type := 0, pos := "l6_office.go:185", after := #[], guard := none }
theorem opsRU10_0 : opsRU10[0]? = some oRU10_0 := rfl
abbrev oRU10_1 : Oper := { dst := some 39, op := Go.Op.load 25 (Go.Operand.tmp 38), type := 25, pos := "l6_office.go:185", after := #[{ on := 0, ground := Go.Ground.data }], guard := none }
theorem opsRU10_1 : opsRU10[1]? = some oRU10_1 := rfl
abbrev oRU10_2 : Oper := { dst := some 40, op := Go.Op.fieldAddr 140 (Go.Operand.tmp 7) 0, type := 0, pos := "l6_office.go:185", after := #[], guard := none }
theorem opsRU10_2 : opsRU10[2]? = some oRU10_2 := rfl
abbrev oRU10_3 : Oper := { dst := some 41, op := Go.Op.load 3 (Go.Operand.tmp 40), type := 3, pos := "l6_office.go:185", after := #[{ on := 2, ground := Go.Ground.data }], guard := none }
theorem opsRU10_3 : opsRU10[3]? = some oRU10_3 := rfl
abbrev oRU10_4 : Oper := { dst := some 42, op := Go.Op.move (Go.Operand.tmp 6), type := 73, pos := "l6_office.go:185", after := #[], guard := none }
theorem opsRU10_4 : opsRU10[4]? = some oRU10_4 := rfl
abbrev oRU10_5 : Oper := { dst := some 43, op := Go.Op.indexAddr 73 (Go.Operand.tmp 42) (Go.Operand.const (Go.Value.int Go.IntKind.i64 0)), type := 0, pos := "l6_office.go:185", after := #[{ on := 4, ground := Go.Ground.data }], guard := none }
theorem opsRU10_5 : opsRU10[5]? = some oRU10_5 := rfl
abbrev oRU10_6 : Oper := { dst := some 44, op := Go.Op.load 3 (Go.Operand.tmp 43), type := 3, pos := "l6_office.go:185", after := #[{ on := 5, ground := Go.Ground.data }], guard := none }
theorem opsRU10_6 : opsRU10[6]? = some oRU10_6 := rfl
abbrev oRU10_7 : Oper := { dst := some 45, op := Go.Op.move (Go.Operand.tmp 1), type := 3, pos := "l6_office.go:185", after := #[], guard := none }
theorem opsRU10_7 : opsRU10[7]? = some oRU10_7 := rfl
abbrev oRU10_8 : Oper := { dst := some 46, op := Go.Op.fieldAddr 121 (Go.Operand.tmp 2) 1, type := 0, pos := "l6_office.go:185", after := #[], guard := none }
theorem opsRU10_8 : opsRU10[8]? = some oRU10_8 := rfl
abbrev oRU10_9 : Oper := { dst := some 47, op := Go.Op.load 3 (Go.Operand.tmp 46), type := 3, pos := "l6_office.go:185", after := #[{ on := 8, ground := Go.Ground.data }], guard := none }
theorem opsRU10_9 : opsRU10[9]? = some oRU10_9 := rfl
abbrev oRU10_10 : Oper := { dst := some 48, op := Go.Op.fieldAddr 121 (Go.Operand.tmp 2) 1, type := 0, pos := "l6_office.go:185", after := #[], guard := none }
theorem opsRU10_10 : opsRU10[10]? = some oRU10_10 := rfl
abbrev oRU10_11 : Oper := { dst := some 49, op := Go.Op.load 3 (Go.Operand.tmp 48), type := 3, pos := "l6_office.go:185", after := #[{ on := 10, ground := Go.Ground.data }], guard := none }
theorem opsRU10_11 : opsRU10[11]? = some oRU10_11 := rfl
abbrev oRU10_12 : Oper := { dst := some 50, op := Go.Op.build 50 #[(0, Go.Operand.tmp 41), (1, Go.Operand.tmp 44), (2, Go.Operand.tmp 45), (3, Go.Operand.tmp 47), (4, Go.Operand.tmp 49), (5, Go.Operand.const (Go.Value.int Go.IntKind.i64 (-1))), (6, Go.Operand.const (Go.Value.string { data := #[111, 112, 101, 110] }))], type := 50, pos := "l6_office.go:185", after := #[{ on := 3, ground := Go.Ground.data }, { on := 6, ground := Go.Ground.data }, { on := 7, ground := Go.Ground.data }, { on := 9, ground := Go.Ground.data }, { on := 11, ground := Go.Ground.data }], guard := none }
theorem opsRU10_12 : opsRU10[12]? = some oRU10_12 := rfl
abbrev oRU10_13 : Oper := { dst := some 51, op := Go.Op.buildSlice 25 1 #[(0, Go.Operand.tmp 50)], type := 25, pos := "l6_office.go:185", after := #[{ on := 12, ground := Go.Ground.data }], guard := none }
theorem opsRU10_13 : opsRU10[13]? = some oRU10_13 := rfl
abbrev oRU10_14 : Oper := { dst := some 52, op := Go.Op.call { callee := Go.Callee.builtin Go.Builtin.append, args := #[Go.Operand.tmp 39, Go.Operand.tmp 51], argTypes := #[25, 25] }, type := 25, pos := "l6_office.go:185", after := #[{ on := 1, ground := Go.Ground.data }, { on := 13, ground := Go.Ground.data }], guard := none }
theorem opsRU10_14 : opsRU10[14]? = some oRU10_14 := rfl
abbrev oRU10_15 : Oper := { dst := some 53, op := Go.Op.fieldAddr 121 (Go.Operand.tmp 2) 2, type := 0, pos := "l6_office.go:185", after := #[{ on := 0, ground := Go.Ground.phase }, { on := 1, ground := Go.Ground.phase }, { on := 2, ground := Go.Ground.phase }, { on := 3, ground := Go.Ground.phase }, { on := 4, ground := Go.Ground.phase }, { on := 5, ground := Go.Ground.phase }, { on := 6, ground := Go.Ground.phase }, { on := 7, ground := Go.Ground.phase }, { on := 8, ground := Go.Ground.phase }, { on := 9, ground := Go.Ground.phase }, { on := 10, ground := Go.Ground.phase }, { on := 11, ground := Go.Ground.phase }, { on := 12, ground := Go.Ground.phase }, { on := 13, ground := Go.Ground.phase }, { on := 14, ground := Go.Ground.phase }], guard := none }
theorem opsRU10_15 : opsRU10[15]? = some oRU10_15 := rfl
abbrev oRU10_16 : Oper := { dst := none, op := Go.Op.store 25 (Go.Operand.tmp 53) (Go.Operand.tmp 52), type := 0, pos := "l6_office.go:185", after := #[{ on := 15, ground := Go.Ground.data }, { on := 14, ground := Go.Ground.data }, { on := 14, ground := Go.Ground.chain }, { on := 0, ground := Go.Ground.phase }, { on := 1, ground := Go.Ground.phase }, { on := 2, ground := Go.Ground.phase }, { on := 3, ground := Go.Ground.phase }, { on := 4, ground := Go.Ground.phase }, { on := 5, ground := Go.Ground.phase }, { on := 6, ground := Go.Ground.phase }, { on := 7, ground := Go.Ground.phase }, { on := 8, ground := Go.Ground.phase }, { on := 9, ground := Go.Ground.phase }, { on := 10, ground := Go.Ground.phase }, { on := 11, ground := Go.Ground.phase }, { on := 12, ground := Go.Ground.phase }, { on := 13, ground := Go.Ground.phase }, { on := 14, ground := Go.Ground.phase }], guard := none }
structure DRU10 (V : Nat -> Value) (w w3 : World) (gb gc gf gR nR cR g1 c1 nf cf : Nat) (cc l op clk : Int) : Prop where
 v1 : V 1 = .int .i64 (op)
 v2 : V 2 = .pointer (some ⟨gb, 0, none⟩)
 v6 : V 6 = .slice (some ⟨gf, 0, none⟩) nf cf
 v7 : V 7 = .pointer (some ⟨gc, 0, none⟩)
 v38 : V 38 = .pointer (some ⟨gb, 4, none⟩)
 v39 : V 39 = .slice (some ⟨gR, 0, none⟩) nR cR
 v40 : V 40 = .pointer (some ⟨gc, 0, none⟩)
 v41 : V 41 = .int .i64 (cc)
 v42 : V 42 = .slice (some ⟨gf, 0, none⟩) nf cf
 v43 : V 43 = .pointer (some ⟨gf, 0, none⟩)
 v44 : V 44 = .int .i64 (l)
 v45 : V 45 = .int .i64 (op)
 v46 : V 46 = .pointer (some ⟨gb, 3, none⟩)
 v47 : V 47 = .int .i64 (clk)
 v48 : V 48 = .pointer (some ⟨gb, 3, none⟩)
 v49 : V 49 = .int .i64 (clk)
 v50 : V 50 = .agg #[.int .i64 cc, .int .i64 l, .int .i64 op, .int .i64 clk, .int .i64 clk, .int .i64 (-1), .string openB]
 v51 : V 51 = .slice (some ⟨w.heap.size, 0, none⟩) 1 1
 v52 : V 52 = .slice (some ⟨g1, 0, none⟩) (nR + 1) c1
 v53 : V 53 = .pointer (some ⟨gb, 4, none⟩)
 h3 : w.cell? ⟨gb, 3, none⟩ = some (.int .i64 clk)
 h4 : w.cell? ⟨gb, 4, none⟩ = some (.slice (some ⟨gR, 0, none⟩) nR cR)
 hq : w.cell? ⟨gc, 0, none⟩ = some (.int .i64 cc)
 hf : w.cell? ⟨gf, 0, none⟩ = some (.int .i64 l)
 hnf : 0 < nf
 hap : (Builtin.append_ #[25, 25] 25 #[.slice (some ⟨gR, 0, none⟩) nR cR, .slice (some ⟨w.heap.size, 0, none⟩) 1 1]).run Try.prog ((w.alloc (.cells #[.int .i64 cc, .int .i64 l, .int .i64 op, .int .i64 clk, .int .i64 clk, .int .i64 (-1), .string openB] 50)).drew) = .ok (.slice (some ⟨g1, 0, none⟩) (nR + 1) c1) w3
 hst : w3.cell? ⟨gb, 4, none⟩ = some (.slice (some ⟨gR, 0, none⟩) nR cR)
 hfz : w3.frozen? ⟨gb, 4, none⟩ = false
def WRU10 (w w3 : World) (gb gc gf gR nR cR g1 c1 nf cf : Nat) (cc l op clk : Int) : Nat -> World
 | 0 => w.drew
 | 1 => (w.alloc (.cells #[.int .i64 cc, .int .i64 l, .int .i64 op, .int .i64 clk, .int .i64 clk, .int .i64 (-1), .string openB] 50)).drew
 | 2 => w3
 | _ => w3.setCell ⟨gb, 4, none⟩ (.slice (some ⟨g1, 0, none⟩) (nR + 1) c1)
section
variable {V : Nat -> Value} {Tf : Array Value} {w w3 : World} {gb gc gf gR nR cR g1 c1 nf cf : Nat} {cc l op clk : Int}
theorem dRU10_0 (E : DRU10 V w w3 gb gc gf gR nR cR g1 c1 nf cf cc l op clk) (hT : TfV Tf V) : OpW Try.prog opsRU10 [13, 14, 16] (WRU10 w w3 gb gc gf gR nR cR g1 c1 nf cf cc l op clk) Tf 0 oRU10_0 (V 38) := by
 have e2 := E.v2;
 refine .val (by decide) (wanted_no rfl) λ kk hkk hm => ?_
 rw [E.v38]; unfold execOp; go_simp
theorem dRU10_1 (E : DRU10 V w w3 gb gc gf gR nR cR g1 c1 nf cf cc l op clk) (hT : TfV Tf V) : OpW Try.prog opsRU10 [13, 14, 16] (WRU10 w w3 gb gc gf gR nR cR g1 c1 nf cf cc l op clk) Tf 1 oRU10_1 (V 39) := by
 have e38 := E.v38;
 refine .val (by decide) (wanted_no rfl) λ kk hkk hm => ?_
 rw [E.v39]; rcases kk with _ | _ | _ | _ | kk
 . show (execOp _ _).run _ (w.drew) = Result.ok _ (w.drew); have hh : w.drew.cell? _ = _ := E.h4; unfold execOp; go_simp
 . show (execOp _ _).run _ ((w.alloc (.cells #[.int .i64 cc, .int .i64 l, .int .i64 op, .int .i64 clk, .int .i64 clk, .int .i64 (-1), .string openB] 50)).drew) = Result.ok _ ((w.alloc (.cells #[.int .i64 cc, .int .i64 l, .int .i64 op, .int .i64 clk, .int .i64 clk, .int .i64 (-1), .string openB] 50)).drew); have hh := cell_alloc E.h4 (.cells #[.int .i64 cc, .int .i64 l, .int .i64 op, .int .i64 clk, .int .i64 clk, .int .i64 (-1), .string openB] 50); unfold execOp; go_simp
 . exact absurd hm (by decide +kernel)
 . exact absurd hm (by decide +kernel)
 . simp at hkk
theorem dRU10_2 (E : DRU10 V w w3 gb gc gf gR nR cR g1 c1 nf cf cc l op clk) (hT : TfV Tf V) : OpW Try.prog opsRU10 [13, 14, 16] (WRU10 w w3 gb gc gf gR nR cR g1 c1 nf cf cc l op clk) Tf 2 oRU10_2 (V 40) := by
 have e7 := E.v7;
 refine .val (by decide) (wanted_no rfl) λ kk hkk hm => ?_
 rw [E.v40]; unfold execOp; go_simp
theorem dRU10_3 (E : DRU10 V w w3 gb gc gf gR nR cR g1 c1 nf cf cc l op clk) (hT : TfV Tf V) : OpW Try.prog opsRU10 [13, 14, 16] (WRU10 w w3 gb gc gf gR nR cR g1 c1 nf cf cc l op clk) Tf 3 oRU10_3 (V 41) := by
 have e40 := E.v40;
 refine .val (by decide) (wanted_no rfl) λ kk hkk hm => ?_
 rw [E.v41]; rcases kk with _ | _ | _ | _ | kk
 . show (execOp _ _).run _ (w.drew) = Result.ok _ (w.drew); have hh : w.drew.cell? _ = _ := E.hq; unfold execOp; go_simp
 . exact absurd hm (by decide +kernel)
 . exact absurd hm (by decide +kernel)
 . exact absurd hm (by decide +kernel)
 . simp at hkk
theorem dRU10_4 (E : DRU10 V w w3 gb gc gf gR nR cR g1 c1 nf cf cc l op clk) (hT : TfV Tf V) : OpW Try.prog opsRU10 [13, 14, 16] (WRU10 w w3 gb gc gf gR nR cR g1 c1 nf cf cc l op clk) Tf 4 oRU10_4 (V 42) := by
 have e6 := E.v6;
 refine .val (by decide) (wanted_no rfl) λ kk hkk hm => ?_
 rw [E.v42]; unfold execOp; go_simp
theorem dRU10_5 (E : DRU10 V w w3 gb gc gf gR nR cR g1 c1 nf cf cc l op clk) (hT : TfV Tf V) : OpW Try.prog opsRU10 [13, 14, 16] (WRU10 w w3 gb gc gf gR nR cR g1 c1 nf cf cc l op clk) Tf 5 oRU10_5 (V 43) := by
 have e42 := E.v42;
 refine .val (by decide) (wanted_no rfl) λ kk hkk hm => ?_
 rw [E.v43]; have hne : nf ≠ 0 := by have := E.hnf; omega
 unfold execOp; go_simp
theorem dRU10_6 (E : DRU10 V w w3 gb gc gf gR nR cR g1 c1 nf cf cc l op clk) (hT : TfV Tf V) : OpW Try.prog opsRU10 [13, 14, 16] (WRU10 w w3 gb gc gf gR nR cR g1 c1 nf cf cc l op clk) Tf 6 oRU10_6 (V 44) := by
 have e43 := E.v43;
 refine .val (by decide) (wanted_no rfl) λ kk hkk hm => ?_
 rw [E.v44]; rcases kk with _ | _ | _ | _ | kk
 . show (execOp _ _).run _ (w.drew) = Result.ok _ (w.drew); have hh : w.drew.cell? _ = _ := E.hf; unfold execOp; go_simp
 . exact absurd hm (by decide +kernel)
 . exact absurd hm (by decide +kernel)
 . exact absurd hm (by decide +kernel)
 . simp at hkk
theorem dRU10_7 (E : DRU10 V w w3 gb gc gf gR nR cR g1 c1 nf cf cc l op clk) (hT : TfV Tf V) : OpW Try.prog opsRU10 [13, 14, 16] (WRU10 w w3 gb gc gf gR nR cR g1 c1 nf cf cc l op clk) Tf 7 oRU10_7 (V 45) := by
 have e1 := E.v1;
 refine .val (by decide) (wanted_no rfl) λ kk hkk hm => ?_
 rw [E.v45]; unfold execOp; go_simp
theorem dRU10_8 (E : DRU10 V w w3 gb gc gf gR nR cR g1 c1 nf cf cc l op clk) (hT : TfV Tf V) : OpW Try.prog opsRU10 [13, 14, 16] (WRU10 w w3 gb gc gf gR nR cR g1 c1 nf cf cc l op clk) Tf 8 oRU10_8 (V 46) := by
 have e2 := E.v2;
 refine .val (by decide) (wanted_no rfl) λ kk hkk hm => ?_
 rw [E.v46]; unfold execOp; go_simp
theorem dRU10_9 (E : DRU10 V w w3 gb gc gf gR nR cR g1 c1 nf cf cc l op clk) (hT : TfV Tf V) : OpW Try.prog opsRU10 [13, 14, 16] (WRU10 w w3 gb gc gf gR nR cR g1 c1 nf cf cc l op clk) Tf 9 oRU10_9 (V 47) := by
 have e46 := E.v46;
 refine .val (by decide) (wanted_no rfl) λ kk hkk hm => ?_
 rw [E.v47]; rcases kk with _ | _ | _ | _ | kk
 . show (execOp _ _).run _ (w.drew) = Result.ok _ (w.drew); have hh : w.drew.cell? _ = _ := E.h3; unfold execOp; go_simp
 . exact absurd hm (by decide +kernel)
 . exact absurd hm (by decide +kernel)
 . exact absurd hm (by decide +kernel)
 . simp at hkk
theorem dRU10_10 (E : DRU10 V w w3 gb gc gf gR nR cR g1 c1 nf cf cc l op clk) (hT : TfV Tf V) : OpW Try.prog opsRU10 [13, 14, 16] (WRU10 w w3 gb gc gf gR nR cR g1 c1 nf cf cc l op clk) Tf 10 oRU10_10 (V 48) := by
 have e2 := E.v2;
 refine .val (by decide) (wanted_no rfl) λ kk hkk hm => ?_
 rw [E.v48]; unfold execOp; go_simp
theorem dRU10_11 (E : DRU10 V w w3 gb gc gf gR nR cR g1 c1 nf cf cc l op clk) (hT : TfV Tf V) : OpW Try.prog opsRU10 [13, 14, 16] (WRU10 w w3 gb gc gf gR nR cR g1 c1 nf cf cc l op clk) Tf 11 oRU10_11 (V 49) := by
 have e48 := E.v48;
 refine .val (by decide) (wanted_no rfl) λ kk hkk hm => ?_
 rw [E.v49]; rcases kk with _ | _ | _ | _ | kk
 . show (execOp _ _).run _ (w.drew) = Result.ok _ (w.drew); have hh : w.drew.cell? _ = _ := E.h3; unfold execOp; go_simp
 . exact absurd hm (by decide +kernel)
 . exact absurd hm (by decide +kernel)
 . exact absurd hm (by decide +kernel)
 . simp at hkk
theorem dRU10_12 (E : DRU10 V w w3 gb gc gf gR nR cR g1 c1 nf cf cc l op clk) (hT : TfV Tf V) : OpW Try.prog opsRU10 [13, 14, 16] (WRU10 w w3 gb gc gf gR nR cR g1 c1 nf cf cc l op clk) Tf 12 oRU10_12 (V 50) := by
 have e41 := E.v41; have e44 := E.v44; have e45 := E.v45; have e47 := E.v47; have e49 := E.v49;
 refine .val (by decide) (wanted_no rfl) λ kk hkk hm => ?_
 rw [E.v50]; unfold execOp; go_simp; rfl
theorem dRU10_13 (E : DRU10 V w w3 gb gc gf gR nR cR g1 c1 nf cf cc l op clk) (hT : TfV Tf V) : OpW Try.prog opsRU10 [13, 14, 16] (WRU10 w w3 gb gc gf gR nR cR g1 c1 nf cf cc l op clk) Tf 13 oRU10_13 (V 51) := by
 have e50 := E.v50;
 refine .act 0 rfl (wanted_no rfl) ?_
 rw [E.v51]; show (execOp _ _).run _ (w.drew) = Result.ok _ ((w.alloc (.cells #[.int .i64 cc, .int .i64 l, .int .i64 op, .int .i64 clk, .int .i64 clk, .int .i64 (-1), .string openB] 50)).drew); unfold execOp; go_simp
theorem dRU10_14 (E : DRU10 V w w3 gb gc gf gR nR cR g1 c1 nf cf cc l op clk) (hT : TfV Tf V) : OpW Try.prog opsRU10 [13, 14, 16] (WRU10 w w3 gb gc gf gR nR cR g1 c1 nf cf cc l op clk) Tf 14 oRU10_14 (V 52) := by
 have e39 := E.v39; have e51 := E.v51;
 refine .act 1 rfl (wanted_no rfl) ?_
 rw [E.v52]; exact exec_app rfl (evT hT E.v39) (evT hT E.v51) E.hap
theorem dRU10_15 (E : DRU10 V w w3 gb gc gf gR nR cR g1 c1 nf cf cc l op clk) (hT : TfV Tf V) : OpW Try.prog opsRU10 [13, 14, 16] (WRU10 w w3 gb gc gf gR nR cR g1 c1 nf cf cc l op clk) Tf 15 oRU10_15 (V 53) := by
 have e2 := E.v2;
 refine .val (by decide) (wanted_no rfl) λ kk hkk hm => ?_
 rw [E.v53]; unfold execOp; go_simp
theorem dRU10_16 (E : DRU10 V w w3 gb gc gf gR nR cR g1 c1 nf cf cc l op clk) (hT : TfV Tf V) : OpW Try.prog opsRU10 [13, 14, 16] (WRU10 w w3 gb gc gf gR nR cR g1 c1 nf cf cc l op clk) Tf 16 oRU10_16 (undef) := by
 have e52 := E.v52; have e53 := E.v53;
 refine .skp 2 rfl (wanted_no rfl) rfl ?_
 have hs := E.hst; have hf := E.hfz; show (execOp _ _).run _ (w3) = Result.ok _ (w3.setCell ⟨gb, 4, none⟩ (.slice (some ⟨g1, 0, none⟩) (nR + 1) c1)); unfold execOp; go_simp
theorem opsRU10_list : opsRU10.toList = [oRU10_0, oRU10_1, oRU10_2, oRU10_3, oRU10_4, oRU10_5, oRU10_6, oRU10_7, oRU10_8, oRU10_9, oRU10_10, oRU10_11, oRU10_12, oRU10_13, oRU10_14, oRU10_15, oRU10_16] := rfl
theorem dRU10_all (E : DRU10 V w w3 gb gc gf gR nR cR g1 c1 nf cf cc l op clk) (hT : TfV Tf V) : ∀ (i : Nat) (o : Oper), opsRU10[i]? = some o -> OpW Try.prog opsRU10 [13, 14, 16] (WRU10 w w3 gb gc gf gR nR cR g1 c1 nf cf cc l op clk) Tf i o (valV V o) :=
 allL_ops opsRU10_list ⟨dRU10_0 E hT, dRU10_1 E hT, dRU10_2 E hT, dRU10_3 E hT, dRU10_4 E hT, dRU10_5 E hT, dRU10_6 E hT, dRU10_7 E hT, dRU10_8 E hT, dRU10_9 E hT, dRU10_10 E hT, dRU10_11 E hT, dRU10_12 E hT, dRU10_13 E hT, dRU10_14 E hT, dRU10_15 E hT, dRU10_16 E hT, trivial⟩
end
theorem opsRU10_ok : ordOk opsRU10 = true := by kernel_rfl
theorem opsRU10_ch : chainOk opsRU10 [13, 14, 16] = true := by kernel_rfl
theorem opsRU10_dst : opsRU10.toList.map (·.dst) = [some 38, some 39, some 40, some 41, some 42, some 43, some 44, some 45, some 46, some 47, some 48, some 49, some 50, some 51, some 52, some 53, none] := by rw [opsRU10_list]; rfl
def fRU10 (w w3 : World) (gb gc gf gR nR cR g1 c1 nf cf : Nat) (cc l op clk : Int) (i : Nat) : Value := ([.pointer (some ⟨gb, 4, none⟩), .slice (some ⟨gR, 0, none⟩) nR cR, .pointer (some ⟨gc, 0, none⟩), .int .i64 (cc), .slice (some ⟨gf, 0, none⟩) nf cf, .pointer (some ⟨gf, 0, none⟩), .int .i64 (l), .int .i64 (op), .pointer (some ⟨gb, 3, none⟩), .int .i64 (clk), .pointer (some ⟨gb, 3, none⟩), .int .i64 (clk), .agg #[.int .i64 cc, .int .i64 l, .int .i64 op, .int .i64 clk, .int .i64 clk, .int .i64 (-1), .string openB], .slice (some ⟨w.heap.size, 0, none⟩) 1 1, .slice (some ⟨g1, 0, none⟩) (nR + 1) c1, .pointer (some ⟨gb, 4, none⟩), undef] : List Value).getD i undef
theorem wp_RU10 {Q : Exit -> Go.Act -> World -> Prop} {d : List Deferred} {t0 : Array Value} (w w3 : World) (gb gc gf gR nR cR g1 c1 nf cf : Nat) (cc l op clk : Int) (hz : t0.size = 59) (t1 : t0.getD 1 undef = .int .i64 (op)) (t2 : t0.getD 2 undef = .pointer (some ⟨gb, 0, none⟩)) (t6 : t0.getD 6 undef = .slice (some ⟨gf, 0, none⟩) nf cf) (t7 : t0.getD 7 undef = .pointer (some ⟨gc, 0, none⟩)) (h3 : w.cell? ⟨gb, 3, none⟩ = some (.int .i64 clk)) (h4 : w.cell? ⟨gb, 4, none⟩ = some (.slice (some ⟨gR, 0, none⟩) nR cR)) (hq : w.cell? ⟨gc, 0, none⟩ = some (.int .i64 cc)) (hf : w.cell? ⟨gf, 0, none⟩ = some (.int .i64 l)) (hnf : 0 < nf) (hap : (Builtin.append_ #[25, 25] 25 #[.slice (some ⟨gR, 0, none⟩) nR cR, .slice (some ⟨w.heap.size, 0, none⟩) 1 1]).run Try.prog ((w.alloc (.cells #[.int .i64 cc, .int .i64 l, .int .i64 op, .int .i64 clk, .int .i64 clk, .int .i64 (-1), .string openB] 50)).drew) = .ok (.slice (some ⟨g1, 0, none⟩) (nR + 1) c1) w3) (hst : w3.cell? ⟨gb, 4, none⟩ = some (.slice (some ⟨gR, 0, none⟩) nR cR)) (hfz : w3.frozen? ⟨gb, 4, none⟩ = false) (h0 : WRU10 w w3 gb gc gf gR nR cR g1 c1 nf cf cc l op clk 0 = w.drew) (hk : Q .normal ⟨fillT opsRU10 (fRU10 w w3 gb gc gf gR nR cR g1 c1 nf cf cc l op clk) t0, d⟩ (w3.setCell ⟨gb, 4, none⟩ (.slice (some ⟨g1, 0, none⟩) (nR + 1) c1))) :
   (Go.Code.region 10 opsRU10 true).wp Try.prog Q ⟨t0, d⟩ w := by
 refine wp_drawnDV (ws := [13, 14, 16]) (Wd := WRU10 w w3 gb gc gf gR nR cR g1 c1 nf cf cc l op clk) (vals := fRU10 w w3 gb gc gf gR nR cR g1 c1 nf cf cc l op clk) Try.checked.mixed opsRU10_ok (by decide) opsRU10_ch h0 (by rw [hz]; exact isDst_lt (by kernel_rfl)) (λ V hU hV => ?_) hk
 have E : DRU10 V w w3 gb gc gf gR nR cR g1 c1 nf cf cc l op clk := ⟨(hV 1 (by kernel_rfl)).trans t1, (hV 2 (by kernel_rfl)).trans t2, (hV 6 (by kernel_rfl)).trans t6, (hV 7 (by kernel_rfl)).trans t7, hU 0 _ 38 opsRU10_0 rfl, hU 1 _ 39 opsRU10_1 rfl, hU 2 _ 40 opsRU10_2 rfl, hU 3 _ 41 opsRU10_3 rfl, hU 4 _ 42 opsRU10_4 rfl, hU 5 _ 43 opsRU10_5 rfl, hU 6 _ 44 opsRU10_6 rfl, hU 7 _ 45 opsRU10_7 rfl, hU 8 _ 46 opsRU10_8 rfl, hU 9 _ 47 opsRU10_9 rfl, hU 10 _ 48 opsRU10_10 rfl, hU 11 _ 49 opsRU10_11 rfl, hU 12 _ 50 opsRU10_12 rfl, hU 13 _ 51 opsRU10_13 rfl, hU 14 _ 52 opsRU10_14 rfl, hU 15 _ 53 opsRU10_15 rfl, h3, h4, hq, hf, hnf, hap, hst, hfz⟩
 exact λ Tf hT i o e => dRU10_all E hT i o e
noncomputable def bodyWT : Go.Code := (Try.f99.body).getD .skip
noncomputable def rWT10 : Go.Code := match bodyWT with | .seq _ (.seq _ (.seq _ (.seq _ (.seq (.seq _ (.block _ (.loop (.seq _ (.seq (.block _ (.seq _ (.seq _ (.cond _ (.seq _ (.seq (a) _)) _)))) _))))) _)))) => a | _ => .skip
noncomputable def opsWT10 : Array Oper := match rWT10 with | .region _ ops _ => ops | _ => #[]
abbrev oWT10_0 : Oper := { dst := some 51, op := Go.Op.fieldAddr 121 (Go.Operand.tmp 2) 4, type := 0, pos := "l6_office.go:213", after := #[], guard := none }
theorem opsWT10_0 : opsWT10[0]? = some oWT10_0 := rfl
abbrev oWT10_1 : Oper := { dst := some 52, op := Go.Op.load 118 (Go.Operand.tmp 51), type := 118, pos := "l6_office.go:213", after := #[{ on := 0, ground := Go.Ground.data }], guard := none }
theorem opsWT10_1 : opsWT10[1]? = some oWT10_1 := rfl
abbrev oWT10_2 : Oper := { dst := some 53, op := Go.Op.move (Go.Operand.tmp 7), type := 118, pos := "l6_office.go:213", after := #[], guard := none }
theorem opsWT10_2 : opsWT10[2]? = some oWT10_2 := rfl
abbrev oWT10_3 : Oper := { dst := some 54, op := Go.Op.move (Go.Operand.tmp 8), type := 3, pos := "l6_office.go:213", after := #[], guard := none }
theorem opsWT10_3 : opsWT10[3]? = some oWT10_3 := rfl
abbrev oWT10_4 : Oper := { dst := some 55, op := Go.Op.indexAddr 118 (Go.Operand.tmp 53) (Go.Operand.tmp 54), type := 0, pos := "l6_office.go:213", after := #[{ on := 2, ground := Go.Ground.data }, { on := 3, ground := Go.Ground.data }], guard := none }
theorem opsWT10_4 : opsWT10[4]? = some oWT10_4 := rfl
abbrev oWT10_5 : Oper := { dst := some 56, op := Go.Op.load 140 (Go.Operand.tmp 55), type := 140, pos := "l6_office.go:213", after := #[{ on := 4, ground := Go.Ground.data }], guard := none }
theorem opsWT10_5 : opsWT10[5]? = some oWT10_5 := rfl
abbrev oWT10_6 : Oper := { dst := some 57, op := Go.Op.buildSlice 118 1 #[(0, Go.Operand.tmp 56)], type := 118, pos := "l6_office.go:213", after := #[{ on := 5, ground := Go.Ground.data }], guard := none }
theorem opsWT10_6 : opsWT10[6]? = some oWT10_6 := rfl
abbrev oWT10_7 : Oper := { dst := some 58, op := Go.Op.call { callee := Go.Callee.builtin Go.Builtin.append, args := #[Go.Operand.tmp 52, Go.Operand.tmp 57], argTypes := #[118, 118] }, type := 118, pos := "l6_office.go:213", after := #[{ on := 1, ground := Go.Ground.data }, { on := 6, ground := Go.Ground.data }], guard := none }
theorem opsWT10_7 : opsWT10[7]? = some oWT10_7 := rfl
abbrev oWT10_8 : Oper := { dst := some 59, op := Go.Op.fieldAddr 121 (Go.Operand.tmp 2) 4, type := 0, pos := "l6_office.go:213", after := #[{ on := 0, ground := Go.Ground.phase }, { on := 1, ground := Go.Ground.phase }, { on := 2, ground := Go.Ground.phase }, { on := 3, ground := Go.Ground.phase }, { on := 4, ground := Go.Ground.phase }, { on := 5, ground := Go.Ground.phase }, { on := 6, ground := Go.Ground.phase }, { on := 7, ground := Go.Ground.phase }], guard := none }
theorem opsWT10_8 : opsWT10[8]? = some oWT10_8 := rfl
abbrev oWT10_9 : Oper := { dst := none, op := Go.Op.store 118 (Go.Operand.tmp 59) (Go.Operand.tmp 58), type := 0, pos := "l6_office.go:213", after := #[{ on := 8, ground := Go.Ground.data }, { on := 7, ground := Go.Ground.data }, { on := 7, ground := Go.Ground.chain }, { on := 0, ground := Go.Ground.phase }, { on := 1, ground := Go.Ground.phase }, { on := 2, ground := Go.Ground.phase }, { on := 3, ground := Go.Ground.phase }, { on := 4, ground := Go.Ground.phase }, { on := 5, ground := Go.Ground.phase }, { on := 6, ground := Go.Ground.phase }, { on := 7, ground := Go.Ground.phase }], guard := none }
structure DWT10 (V : Nat -> Value) (w w3 : World) (gb gW nW cW gB nB cB g1 c1 k : Nat) (xc xp : Int) : Prop where
 v2 : V 2 = .pointer (some ⟨gb, 0, none⟩)
 v7 : V 7 = .slice (some ⟨gW, 0, none⟩) nW cW
 v8 : V 8 = .int .i64 (k : Int)
 v51 : V 51 = .pointer (some ⟨gb, 6, none⟩)
 v52 : V 52 = .slice (some ⟨gB, 0, none⟩) nB cB
 v53 : V 53 = .slice (some ⟨gW, 0, none⟩) nW cW
 v54 : V 54 = .int .i64 (k : Int)
 v55 : V 55 = .pointer (some ⟨gW, k * 2, none⟩)
 v56 : V 56 = .agg #[.int .i64 xc, .int .i64 xp]
 v57 : V 57 = .slice (some ⟨w.heap.size, 0, none⟩) 1 1
 v58 : V 58 = .slice (some ⟨g1, 0, none⟩) (nB + 1) c1
 v59 : V 59 = .pointer (some ⟨gb, 6, none⟩)
 h6 : w.cell? ⟨gb, 6, none⟩ = some (.slice (some ⟨gB, 0, none⟩) nB cB)
 hx0 : w.cell? ⟨gW, k * 2, none⟩ = some (.int .i64 xc)
 hx1 : w.cell? ⟨gW, k * 2 + 1, none⟩ = some (.int .i64 xp)
 hkn : k < nW
 hap : (Builtin.append_ #[118, 118] 118 #[.slice (some ⟨gB, 0, none⟩) nB cB, .slice (some ⟨w.heap.size, 0, none⟩) 1 1]).run Try.prog ((w.alloc (.cells #[.int .i64 xc, .int .i64 xp] 140)).drew) = .ok (.slice (some ⟨g1, 0, none⟩) (nB + 1) c1) w3
 hst : w3.cell? ⟨gb, 6, none⟩ = some (.slice (some ⟨gB, 0, none⟩) nB cB)
 hfz : w3.frozen? ⟨gb, 6, none⟩ = false
def WWT10 (w w3 : World) (gb gW nW cW gB nB cB g1 c1 k : Nat) (xc xp : Int) : Nat -> World
 | 0 => w.drew
 | 1 => (w.alloc (.cells #[.int .i64 xc, .int .i64 xp] 140)).drew
 | 2 => w3
 | _ => w3.setCell ⟨gb, 6, none⟩ (.slice (some ⟨g1, 0, none⟩) (nB + 1) c1)
section
variable {V : Nat -> Value} {Tf : Array Value} {w w3 : World} {gb gW nW cW gB nB cB g1 c1 k : Nat} {xc xp : Int}
theorem dWT10_0 (E : DWT10 V w w3 gb gW nW cW gB nB cB g1 c1 k xc xp) (hT : TfV Tf V) : OpW Try.prog opsWT10 [6, 7, 9] (WWT10 w w3 gb gW nW cW gB nB cB g1 c1 k xc xp) Tf 0 oWT10_0 (V 51) := by
 have e2 := E.v2;
 refine .val (by decide) (wanted_no rfl) λ kk hkk hm => ?_
 rw [E.v51]; unfold execOp; go_simp
theorem dWT10_1 (E : DWT10 V w w3 gb gW nW cW gB nB cB g1 c1 k xc xp) (hT : TfV Tf V) : OpW Try.prog opsWT10 [6, 7, 9] (WWT10 w w3 gb gW nW cW gB nB cB g1 c1 k xc xp) Tf 1 oWT10_1 (V 52) := by
 have e51 := E.v51;
 refine .val (by decide) (wanted_no rfl) λ kk hkk hm => ?_
 rw [E.v52]; rcases kk with _ | _ | _ | _ | kk
 . show (execOp _ _).run _ (w.drew) = Result.ok _ (w.drew); have hh : w.drew.cell? _ = _ := E.h6; unfold execOp; go_simp
 . show (execOp _ _).run _ ((w.alloc (.cells #[.int .i64 xc, .int .i64 xp] 140)).drew) = Result.ok _ ((w.alloc (.cells #[.int .i64 xc, .int .i64 xp] 140)).drew); have hh := cell_alloc E.h6 (.cells #[.int .i64 xc, .int .i64 xp] 140); unfold execOp; go_simp
 . exact absurd hm (by decide +kernel)
 . exact absurd hm (by decide +kernel)
 . simp at hkk
theorem dWT10_2 (E : DWT10 V w w3 gb gW nW cW gB nB cB g1 c1 k xc xp) (hT : TfV Tf V) : OpW Try.prog opsWT10 [6, 7, 9] (WWT10 w w3 gb gW nW cW gB nB cB g1 c1 k xc xp) Tf 2 oWT10_2 (V 53) := by
 have e7 := E.v7;
 refine .val (by decide) (wanted_no rfl) λ kk hkk hm => ?_
 rw [E.v53]; unfold execOp; go_simp
theorem dWT10_3 (E : DWT10 V w w3 gb gW nW cW gB nB cB g1 c1 k xc xp) (hT : TfV Tf V) : OpW Try.prog opsWT10 [6, 7, 9] (WWT10 w w3 gb gW nW cW gB nB cB g1 c1 k xc xp) Tf 3 oWT10_3 (V 54) := by
 have e8 := E.v8;
 refine .val (by decide) (wanted_no rfl) λ kk hkk hm => ?_
 rw [E.v54]; unfold execOp; go_simp
theorem dWT10_4 (E : DWT10 V w w3 gb gW nW cW gB nB cB g1 c1 k xc xp) (hT : TfV Tf V) : OpW Try.prog opsWT10 [6, 7, 9] (WWT10 w w3 gb gW nW cW gB nB cB g1 c1 k xc xp) Tf 4 oWT10_4 (V 55) := by
 have e53 := E.v53; have e54 := E.v54;
 refine .val (by decide) (wanted_no rfl) λ kk hkk hm => ?_
 rw [E.v55]; have i0 : (0 : Int) <= (k : Int) := by omega
 have i1 : (k : Int) < (nW : Int) := by have := E.hkn; omega
 unfold execOp; go_simp
theorem dWT10_5 (E : DWT10 V w w3 gb gW nW cW gB nB cB g1 c1 k xc xp) (hT : TfV Tf V) : OpW Try.prog opsWT10 [6, 7, 9] (WWT10 w w3 gb gW nW cW gB nB cB g1 c1 k xc xp) Tf 5 oWT10_5 (V 56) := by
 have e55 := E.v55;
 refine .val (by decide) (wanted_no rfl) λ kk hkk hm => ?_
 rw [E.v56]; rcases kk with _ | _ | _ | _ | kk
 . show (execOp _ _).run _ (w.drew) = Result.ok _ (w.drew); have hh : w.drew.cell? _ = _ := E.hx0; have hh2 : w.drew.cell? _ = _ := E.hx1; unfold execOp; go_simp
 . exact absurd hm (by decide +kernel)
 . exact absurd hm (by decide +kernel)
 . exact absurd hm (by decide +kernel)
 . simp at hkk
theorem dWT10_6 (E : DWT10 V w w3 gb gW nW cW gB nB cB g1 c1 k xc xp) (hT : TfV Tf V) : OpW Try.prog opsWT10 [6, 7, 9] (WWT10 w w3 gb gW nW cW gB nB cB g1 c1 k xc xp) Tf 6 oWT10_6 (V 57) := by
 have e56 := E.v56;
 refine .act 0 rfl (wanted_no rfl) ?_
 rw [E.v57]; show (execOp _ _).run _ (w.drew) = Result.ok _ ((w.alloc (.cells #[.int .i64 xc, .int .i64 xp] 140)).drew); unfold execOp; go_simp
theorem dWT10_7 (E : DWT10 V w w3 gb gW nW cW gB nB cB g1 c1 k xc xp) (hT : TfV Tf V) : OpW Try.prog opsWT10 [6, 7, 9] (WWT10 w w3 gb gW nW cW gB nB cB g1 c1 k xc xp) Tf 7 oWT10_7 (V 58) := by
 have e52 := E.v52; have e57 := E.v57;
 refine .act 1 rfl (wanted_no rfl) ?_
 rw [E.v58]; exact exec_app rfl (evT hT E.v52) (evT hT E.v57) E.hap
theorem dWT10_8 (E : DWT10 V w w3 gb gW nW cW gB nB cB g1 c1 k xc xp) (hT : TfV Tf V) : OpW Try.prog opsWT10 [6, 7, 9] (WWT10 w w3 gb gW nW cW gB nB cB g1 c1 k xc xp) Tf 8 oWT10_8 (V 59) := by
 have e2 := E.v2;
 refine .val (by decide) (wanted_no rfl) λ kk hkk hm => ?_
 rw [E.v59]; unfold execOp; go_simp
theorem dWT10_9 (E : DWT10 V w w3 gb gW nW cW gB nB cB g1 c1 k xc xp) (hT : TfV Tf V) : OpW Try.prog opsWT10 [6, 7, 9] (WWT10 w w3 gb gW nW cW gB nB cB g1 c1 k xc xp) Tf 9 oWT10_9 (undef) := by
 have e58 := E.v58; have e59 := E.v59;
 refine .skp 2 rfl (wanted_no rfl) rfl ?_
 have hs := E.hst; have hf := E.hfz; show (execOp _ _).run _ (w3) = Result.ok _ (w3.setCell ⟨gb, 6, none⟩ (.slice (some ⟨g1, 0, none⟩) (nB + 1) c1)); unfold execOp; go_simp
theorem opsWT10_list : opsWT10.toList = [oWT10_0, oWT10_1, oWT10_2, oWT10_3, oWT10_4, oWT10_5, oWT10_6, oWT10_7, oWT10_8, oWT10_9] := rfl
theorem dWT10_all (E : DWT10 V w w3 gb gW nW cW gB nB cB g1 c1 k xc xp) (hT : TfV Tf V) : ∀ (i : Nat) (o : Oper), opsWT10[i]? = some o -> OpW Try.prog opsWT10 [6, 7, 9] (WWT10 w w3 gb gW nW cW gB nB cB g1 c1 k xc xp) Tf i o (valV V o) :=
 allL_ops opsWT10_list ⟨dWT10_0 E hT, dWT10_1 E hT, dWT10_2 E hT, dWT10_3 E hT, dWT10_4 E hT, dWT10_5 E hT, dWT10_6 E hT, dWT10_7 E hT, dWT10_8 E hT, dWT10_9 E hT, trivial⟩
end
theorem opsWT10_ok : ordOk opsWT10 = true := by kernel_rfl
theorem opsWT10_ch : chainOk opsWT10 [6, 7, 9] = true := by kernel_rfl
theorem opsWT10_dst : opsWT10.toList.map (·.dst) = [some 51, some 52, some 53, some 54, some 55, some 56, some 57, some 58, some 59, none] := by rw [opsWT10_list]; rfl
def fWT10 (w w3 : World) (gb gW nW cW gB nB cB g1 c1 k : Nat) (xc xp : Int) (i : Nat) : Value := ([.pointer (some ⟨gb, 6, none⟩), .slice (some ⟨gB, 0, none⟩) nB cB, .slice (some ⟨gW, 0, none⟩) nW cW, .int .i64 (k : Int), .pointer (some ⟨gW, k * 2, none⟩), .agg #[.int .i64 xc, .int .i64 xp], .slice (some ⟨w.heap.size, 0, none⟩) 1 1, .slice (some ⟨g1, 0, none⟩) (nB + 1) c1, .pointer (some ⟨gb, 6, none⟩), undef] : List Value).getD i undef
theorem wp_WT10 {Q : Exit -> Go.Act -> World -> Prop} {d : List Deferred} {t0 : Array Value} (w w3 : World) (gb gW nW cW gB nB cB g1 c1 k : Nat) (xc xp : Int) (hz : t0.size = 71) (t2 : t0.getD 2 undef = .pointer (some ⟨gb, 0, none⟩)) (t7 : t0.getD 7 undef = .slice (some ⟨gW, 0, none⟩) nW cW) (t8 : t0.getD 8 undef = .int .i64 (k : Int)) (h6 : w.cell? ⟨gb, 6, none⟩ = some (.slice (some ⟨gB, 0, none⟩) nB cB)) (hx0 : w.cell? ⟨gW, k * 2, none⟩ = some (.int .i64 xc)) (hx1 : w.cell? ⟨gW, k * 2 + 1, none⟩ = some (.int .i64 xp)) (hkn : k < nW) (hap : (Builtin.append_ #[118, 118] 118 #[.slice (some ⟨gB, 0, none⟩) nB cB, .slice (some ⟨w.heap.size, 0, none⟩) 1 1]).run Try.prog ((w.alloc (.cells #[.int .i64 xc, .int .i64 xp] 140)).drew) = .ok (.slice (some ⟨g1, 0, none⟩) (nB + 1) c1) w3) (hst : w3.cell? ⟨gb, 6, none⟩ = some (.slice (some ⟨gB, 0, none⟩) nB cB)) (hfz : w3.frozen? ⟨gb, 6, none⟩ = false) (h0 : WWT10 w w3 gb gW nW cW gB nB cB g1 c1 k xc xp 0 = w.drew) (hk : Q .normal ⟨fillT opsWT10 (fWT10 w w3 gb gW nW cW gB nB cB g1 c1 k xc xp) t0, d⟩ (w3.setCell ⟨gb, 6, none⟩ (.slice (some ⟨g1, 0, none⟩) (nB + 1) c1))) :
   (Go.Code.region 10 opsWT10 true).wp Try.prog Q ⟨t0, d⟩ w := by
 refine wp_drawnDV (ws := [6, 7, 9]) (Wd := WWT10 w w3 gb gW nW cW gB nB cB g1 c1 k xc xp) (vals := fWT10 w w3 gb gW nW cW gB nB cB g1 c1 k xc xp) Try.checked.mixed opsWT10_ok (by decide) opsWT10_ch h0 (by rw [hz]; exact isDst_lt (by kernel_rfl)) (λ V hU hV => ?_) hk
 have E : DWT10 V w w3 gb gW nW cW gB nB cB g1 c1 k xc xp := ⟨(hV 2 (by kernel_rfl)).trans t2, (hV 7 (by kernel_rfl)).trans t7, (hV 8 (by kernel_rfl)).trans t8, hU 0 _ 51 opsWT10_0 rfl, hU 1 _ 52 opsWT10_1 rfl, hU 2 _ 53 opsWT10_2 rfl, hU 3 _ 54 opsWT10_3 rfl, hU 4 _ 55 opsWT10_4 rfl, hU 5 _ 56 opsWT10_5 rfl, hU 6 _ 57 opsWT10_6 rfl, hU 7 _ 58 opsWT10_7 rfl, hU 8 _ 59 opsWT10_8 rfl, h6, hx0, hx1, hkn, hap, hst, hfz⟩
 exact λ Tf hT i o e => dWT10_all E hT i o e
end Go.Proofs.Ytjcpjijihajopaa
