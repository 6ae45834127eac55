/-
 Part 11 of what stands behind the last text.
-/
import Derived.Test.YtjcpjijihajopaaFBillPq10
set_option linter.unusedSectionVars false
set_option linter.unusedSimpArgs false
set_option linter.unusedVariables false
namespace Go.Proofs.Ytjcpjijihajopaa
open Go.RowKit
def StepSays (lo : Nat) (v : RoomV) (w : World) (bt : RoomD × List UInt8) (x : Ending) (w' : World) : Prop :=
 ∃ v', x = .returned (.tuple #[.agg (roomA v' bt.1), .string ⟨bt.2.toArray⟩]) /\ RoomOk w' lo v' bt.1 /\ Turn v w w' /\ Moved w.heap.size v v'
structure RoomSmall (r : RoomD) : Prop where
 off : offB r.o = true
 nr : r.recs.length <= 1000
 nw : r.wait.length <= 1000
 nb : r.back.length <= 5000
 nl : r.log.length <= 1000
 clk : 0 <= r.clk /\ r.clk <= 100000
abbrev callO (c : CallD) : Obj := .cells #[.int .i64 c.c, .int .i64 c.p] 140
theorem posI_some {o : Option Nat} {i : Nat} (h : o = some i) : posI o = (i : Int) := by rw [h]; rfl
theorem posI_none {o : Option Nat} (h : o = none) : posI o = -1 := by rw [h]; rfl
theorem freeF_mem {o : OffD} {rs : List RecD} {l : Int} (h : l ∈ freeF o rs) : 1 <= l /\ l <= o.ln := by
 unfold freeF freeTo at h
 rw [List.mem_filter, List.mem_map] at h
 obtain ⟨⟨i, hi, rfl⟩, _⟩ := h
 rw [List.mem_range] at hi
 omega
theorem rings_known {b : RoomD} {c : CallD} (h : (openAt b.recs c.c).isSome = true \/ (findC6 b.back c.c).isSome = true) : ringsF b c = (b, [107, 110, 111, 119, 110]) := by
 unfold ringsF
 rw [if_pos (by rcases h with h | h <;> simp [h])]
set_option maxHeartbeats 8000000 in
set_option maxRecDepth 20000 in
theorem l6Rings_any (lo : Nat) (v : RoomV) (r : RoomD) (c : CallD) (w : World) (h : RoomOk w lo v r) (hs : RoomSmall r) (hlo : lo <= w.heap.size) :
   Calls Try.prog 95 #[.agg (roomA v r), .agg #[.int .i64 c.c, .int .i64 c.p]] w (StepSays lo v w (ringsF r c)) := by
 obtain ⟨gb, hgb⟩ : ∃ g, g = w.heap.size := ⟨_, rfl⟩
 have hl := h.lts
 obtain ⟨O, hO⟩ : ∃ O : Obj, O = .cells (roomA v r) 121 := ⟨_, rfl⟩
 obtain ⟨C, hC⟩ : ∃ C : Obj, C = .cells #[.int .i64 c.c, .int .i64 c.p] 140 := ⟨_, rfl⟩
 obtain ⟨Z, hZ⟩ : ∃ Z : Obj, Z = roomZ := ⟨_, rfl⟩
 have hk0 : (((w.alloc O).alloc C).alloc Z).heap[gb]? = some (roomO v r) := by rw [hO, hgb]; exact blk_alloc (blk_alloc (heap_alloc_new _ _) _) _
 have hk1 : (((w.alloc O).alloc C).alloc Z).heap[gb + 1]? = some (callO c) := by rw [hC, hgb]; exact blk_alloc (heap_new' _ _ (by simp)) _
 have hk2 : (((w.alloc O).alloc C).alloc Z).heap[gb + 2]? = some roomZ := by rw [<- hZ]; exact heap_new' _ _ (by rw [hgb]; simp)
 have HR1 := Lib.hid (((h.alloc O).alloc C).alloc Z)
 have HT1 := Lib.hid (Turn.of_below v (below_al (below_al (below_al (Below.refl w.heap.size w) O) C) Z))
 have HZ1 := Lib.hid (show (((w.alloc O).alloc C).alloc Z).heap.size = gb + 3 by rw [hgb]; simp)
 have HK0 := Lib.hid hk0
 have HK1 := Lib.hid hk1
 have HK2 := Lib.hid hk2
 have HO := Lib.hid hO
 have HC := Lib.hid hC
 have HZ := Lib.hid (show Z = .cells #[.int .i64 0, .int .i64 0, .int .i64 0, .int .i64 0, .slice none 0 0, .slice none 0 0, .slice none 0 0, .slice none 0 0] 121 from hZ)
 have HGB := Lib.hid hgb
 have HL := Lib.hid hl
 clear hO hC hZ hgb hk0 hk1 hk2 h hl
 go_enter Try.func95, Try.ntmps95
 go_upto_region 1 with fail
 rw [<- HO.out, <- HC.out, <- HZ.out, <- HGB.out]
 obtain ⟨W1, hW1⟩ : ∃ y, y = ((w.alloc O).alloc C).alloc Z := ⟨_, rfl⟩
 rw [<- hW1] at HK0 HK1 HK2 HR1 HT1 HZ1 ⊢
 clear hW1
 have k := blk_cell HK0.out
 have k0 := k 0
 have k1 := k 1
 have k2 := k 2
 have k3 := k 3
 have k4 := k 4
 have k5 := k 5
 have k6 := k 6
 have k7 := k 7
 clear k
 have hn1 := hs.nr
 go_upto_region 2 with (go_at_call 100; refine (l6Free_any lo v r W1 HR1.out (by omega) hs.off).mono ?_; rintro x w2 ⟨_, rfl, gf, cf, rfl, hown, b2⟩; have HOF := Lib.hid hown; have HB2 := Lib.hid b2; clear hown b2)
 have HR2 := Lib.hid (HR1.out.below HB2.out)
 have HT2 := Lib.hid (HT1.out.same (Turn.of_below v HB2.out))
 have hkr := (blk_below HB2.out HK0.out).1
 have hkc := (blk_below HB2.out HK1.out).1
 have HKR := Lib.hid (blk_below HB2.out HK2.out).1
 have HKB := Lib.hid hkr
 have HKC := Lib.hid hkc
 have HZ2 := Lib.hid (show gb + 3 <= w2.heap.size by have := HB2.out.size; have := HZ1.out; omega)
 have HGF := Lib.hid (HOF.out.lt gf rfl)
 clear k0 k1 k2 k3 k4 k5 k6 k7
 have k := blk_cell hkr
 have k0 := k 0
 have k1 := k 1
 have k2 := k 2
 have k3 := k 3
 have k4 := k 4
 have k5 := k 5
 have k6 := k 6
 have k7 := k 7
 have q := blk_cell hkc
 have q0 := q 0
 have q1 := q 1
 have r0 := blk_frozen' HKR.out
 have z := blk_cell HKR.out
 have z0 := z 0
 have z1 := z 1
 have z2 := z 2
 have z3 := z 3
 have z4 := z 4
 have z5 := z 5
 have z6 := z 6
 have z7 := z 7
 have HSR := Lib.hid HR2.out.slcR
 have HSB := Lib.hid HR2.out.slcB
 have hnb := hs.nb
 clear k q z hkr hkc
 rcases hop : openAt r.recs c.c with _ | i
 . have HOP := Lib.hid (posI_none hop)
   rcases hfi : findC6 r.back c.c with _ | j
   . have HFI := Lib.hid (posI_none hfi)
     have HRA := Lib.hid (show RoomAt w w2 lo gb 3 v v r from ⟨HR2.out, HT2.out, Moved.refl _ _, HGB.out, HKB.out, HZ2.out, by omega, by have := HL.out; have := HGB.out; omega, by have := HL.out; have := HGB.out; omega, by have := HL.out; have := HGB.out; omega, by have := HL.out; have := HGB.out; omega, by rw [HGB.out]; exact hlo⟩)
     rcases hfr : freeF r.o r.recs with _ | ⟨l, fs⟩
     . have HKN := Lib.hid (show ringsF r c = ({ r with back := r.back ++ [c] }, [98, 117, 115, 121]) by unfold ringsF; rw [if_neg (by simp [hop, hfi]), hfr])
       simp only [List.length_nil]
       clear hop hfi hfr
       obtain ⟨i0, hi0, hz0, hz1, hz2⟩ := info_parts info_call6
       have HI := Lib.hid hi0
       clear hi0
       go_upto_region 6 with (first
         | (go_at_call 101; refine (l6Open_any lo w2.heap.size r.recs.length v.cR (some ⟨v.gR, 0, none⟩) r.recs c.c w2 HSR.out (by omega)).mono ?_; rintro x w' ⟨rfl, hww⟩; obtain rfl := hww.symm; rw [HOP.out])
         | (go_at_call 102; refine (l6Find_any lo w2.heap.size r.back.length v.cB (some ⟨v.gB, 0, none⟩) r.back c.c w2 HSB.out (by omega)).mono ?_; rintro x w' ⟨rfl, hww⟩; obtain rfl := hww.symm; rw [HFI.out])
         | (at_builtin; refine wpList_app2 _ rfl (.tmp 30) (.tmp 32) 118 rfl lo 140 i0 (.agg #[.int .i64 0, .int .i64 0]) 2 16 Try.underlying118 HI.out hz0 hz1 hz2 rfl (by decide) v.gB v.cB r.back.length (calls r.back) rfl ((HR2.out.alloc _).bk) ⟨_, 0, none⟩ 1 1 c.cells rfl rfl ?c2 (by intro u hu; simp [CallD.cells] at hu; rcases hu with rfl | rfl <;> rfl) ?c5 ?c6 ?c7 ?_; (case c2 => exact World.news_of_block (cs := c.cells.toArray) (heap_alloc_new _ _)); (case c5 => unfold maxLen; omega); (case c6 => omega); (case c7 => (have := HRA.out.lob; have := HZ2.out; simp; omega)); intro g1 c1 w3 hown1 hgr1 B1 hat1; have HA4 := Lib.hid ((HRA.out.alloc _).appB hgr1 hown1 rfl hat1); have HQ4 := Lib.hid (blk_grown6 hgr1 (blk_alloc HKR.out _) (by have := HRA.out.aB; omega)); have kx := (blk_grown6 hgr1 (blk_alloc HKB.out _) (by have := HRA.out.aB; omega)).1; have kx6 := blk_cell kx 6; have kxf := blk_frozen' kx; clear hown1 hgr1 B1 hat1 kx))
       obtain ⟨W4, hW4⟩ : ∃ y, y = w3.setCell ⟨gb, 6, none⟩ (.slice (some ⟨g1, 0, none⟩) (r.back.length + 1) c1) := ⟨_, rfl⟩
       rw [<- hW4] at HA4 ⊢
       have HZ4 := Lib.hid (show W4.heap[gb + 2]? = some roomZ by rw [hW4]; exact (Below.heap_setCell w3 _ _ (gb + 2) (by show gb + 2 ≠ gb; omega)).trans HQ4.out.1)
       clear hW4 kx6 kxf
       obtain ⟨v4, hv4⟩ : ∃ y : RoomV, y = { v with gB := g1, cB := c1 } := ⟨_, rfl⟩
       obtain ⟨r4, hr4⟩ : ∃ y : RoomD, y = { r with back := r.back ++ [c] } := ⟨_, rfl⟩
       rw [<- hv4, <- hr4] at HA4
       rw [<- hr4] at HKN
       clear hv4 hr4
       have k := blk_cell HA4.out.blk
       have k0 := k 0
       have k1 := k 1
       have k2 := k 2
       have k3 := k 3
       have k4 := k 4
       have k5 := k 5
       have k6 := k 6
       have k7 := k 7
       have HKR := HZ4
       have z := blk_cell HKR.out
       have z0 := z 0
       have z1 := z 1
       have z2 := z 2
       have z3 := z 3
       have z4 := z 4
       have z5 := z 5
       have z6 := z 6
       have z7 := z 7
       have r0 := blk_frozen' HKR.out
       clear k z
       go_wp2_with fail
       have er := blk_cell (set8_blk (a0 := .int .i64 (r4).o.ln) (a1 := .int .i64 (r4).o.op) (a2 := .int .i64 (r4).o.pt) (a3 := .int .i64 (r4).clk) (a4 := (v4).sR (r4)) (a5 := (v4).sW (r4)) (a6 := (v4).sB (r4)) (a7 := (v4).sL (r4)) HKR.out)
       refine bodyPost_ret (v := .tuple #[.agg (roomA (v4) (r4)), .string ⟨([98, 117, 115, 121] : List UInt8).toArray⟩]) ?_ rfl ?_
       . unfold set8 at er
         simp [results, Try.results95, go_sem, er]
       . rw [HKN.out]
         obtain ⟨d1, d2, d3⟩ := HA4.out.done (b := gb + 2) (by omega)
         exact ⟨v4, rfl, d1, d2, d3⟩
     . obtain ⟨nf, hnf⟩ : ∃ n, n = (l :: fs).length := ⟨_, rfl⟩
       have hln := freeTo_len r.recs r.o.ln.toNat
       have ho6 := (offB_parts hs.off).2.1
       have hff : (freeF r.o r.recs).length = nf := by rw [hfr, hnf]
       have hn6 : nf <= 6 := by unfold freeF at hff; omega
       have hn0 : 0 < nf := by rw [hnf]; simp
       have hlb := freeF_mem (o := r.o) (rs := r.recs) (l := l) (by rw [hfr]; simp)
       have HFR := Lib.hid (show w2.ownsRow W1.heap.size 3 1 (.slice (some ⟨gf, 0, none⟩) nf cf) nf (ints (l :: fs)) by have := HOF.out; rw [hff, hfr] at this; exact this)
       have hf0 : w2.cell? ⟨gf, 0, none⟩ = some (.int .i64 l) := HFR.out.cellAt 0 (by omega)
       rw [<- hnf]
       have HKN := Lib.hid (show ringsF r c = ({ r with recs := r.recs ++ [⟨c.c, l, 0, r.clk, -1, -1, openB⟩], wait := queuedF r.wait c }, [108, 105, 110, 101, 32] ++ numT l) by unfold ringsF; rw [if_neg (by simp [hop, hfi]), hfr])
       have HFB := Lib.hid hlb
       have hfz : ((nf : Int) == 0) = false := by simp; omega
       have i0f : (0 : Int) < (nf : Int) := by omega
       clear hop hfi hfr hnf hln ho6 hff hlb
       go_upto_region 7 with (first
         | (go_at_call 101; refine (l6Open_any lo w2.heap.size r.recs.length v.cR (some ⟨v.gR, 0, none⟩) r.recs c.c w2 HSR.out (by omega)).mono ?_; rintro x w' ⟨rfl, hww⟩; obtain rfl := hww.symm; rw [HOP.out])
         | (go_at_call 102; refine (l6Find_any lo w2.heap.size r.back.length v.cB (some ⟨v.gB, 0, none⟩) r.back c.c w2 HSB.out (by omega)).mono ?_; rintro x w' ⟨rfl, hww⟩; obtain rfl := hww.symm; rw [HFI.out]))
       go_cut [] from 36 to 48 (λ wx => ∃ g1 c1, RoomAt w wx lo gb 3 v { v with gR := g1, cR := c1 } { r with recs := r.recs ++ [⟨c.c, l, 0, r.clk, -1, -1, openB⟩] } /\ wx.heap[gb + 1]? = some (callO c) /\ wx.heap[gb + 2]? = some roomZ /\ wx.ownsRow W1.heap.size 3 1 (.slice (some ⟨gf, 0, none⟩) nf cf) nf (ints (l :: fs)))
       case first =>
         obtain ⟨i0, hi0, hz0, hz1, hz2⟩ := info_parts info_rec
         have HI := Lib.hid hi0
         clear hi0
         have hgf := HGF.out
         have hz13 : gb + 3 <= W1.heap.size := by have := HZ1.out; omega
         have hvR : v.gR < gb := by have := HL.out; have := HGB.out; omega
         have kB : ∀ o : Obj, (w2.alloc o).cell? ⟨gb, 4, none⟩ = some (v.sR r) := λ o => cell_alloc k4 o
         have hgbz : gb < w2.heap.size := by have := HZ2.out; omega
         have S0 : w2.cell? ⟨gb, 3, none⟩ = some (.int .i64 r.clk) /\ w2.cell? ⟨gb + 1, 0, none⟩ = some (.int .i64 c.c) /\ w2.cell? ⟨gf, 0, none⟩ = some (.int .i64 l) := ⟨k3, q0, hf0⟩
         have HS0 := Lib.hid S0
         have hfg : gf ≠ gb := by omega
         clear S0
         obtain ⟨g1, c1, w3, hap, hown1, hgr1, B1, hat1⟩ := run_app2 (P := Try.prog) (w2.alloc (.cells #[.int .i64 c.c, .int .i64 l, .int .i64 0, .int .i64 r.clk, .int .i64 (-1), .int .i64 (-1), .string openB] 50)).drew 25 25 lo 50 i0 (.agg #[.int .i64 0, .int .i64 0, .int .i64 0, .int .i64 0, .int .i64 0, .int .i64 0, .string ⟨#[]⟩]) 7 64 Try.underlying25 HI.out hz0 hz1 hz2 rfl (by decide) v.gR v.cR r.recs.length (recs r.recs) (row_keep HR2.out.rc (λ b hb => Below.heap_alloc _ _ b hb)) ⟨w2.heap.size, 0, none⟩ 1 1 (RecD.cells ⟨c.c, l, 0, r.clk, -1, -1, openB⟩) rfl (World.news_of_block (cs := (RecD.cells ⟨c.c, l, 0, r.clk, -1, -1, openB⟩).toArray) (heap_alloc_new _ _)) (by intro u hu; simp [RecD.cells] at hu; rcases hu with rfl | rfl | rfl | rfl | rfl | rfl | rfl <;> rfl) (by unfold maxLen; omega) (by omega) (by have := HRA.out.lob; have := HZ2.out; simp; omega)
         have HG1 := Lib.hid hgr1
         have HOW1 := Lib.hid hown1
         have HAT1 := Lib.hid hat1
         have kx := (blk_grown6 hgr1 (blk_alloc HKB.out _) (by omega)).1
         have kx4 := blk_cell kx 4
         have kxf := blk_frozen' kx
         clear hown1 hgr1 B1 hat1 kx
         refine wp_RG7 w2 w3 gb gf v.gR r.recs.length v.cR g1 c1 nf cf c.c l r.clk rfl rfl rfl rfl k3 k4 q0 hf0 (by omega) hap kx4 (kxf _) rfl ?_
         clear hap kx4 kxf
         rw [Go.Mt.fillT_L, opsRG7_dst]
         simp only [Go.Mt.fillL, List.set_cons_zero, List.set_cons_succ, fRG7, List.getD_cons_zero, List.getD_cons_succ]
         go_wp2_with fail
         go_meet
         have gfn : gf ≠ v.gR := by omega
         refine ⟨g1, c1, ((HRA.out.alloc _).drew).appR HG1.out HOW1.out rfl HAT1.out, ?_, ?_, ?_⟩
         . exact (Below.heap_setCell w3 _ _ (gb + 1) (by show gb + 1 ≠ gb; omega)).trans (blk_grown6 HG1.out (blk_drew (blk_alloc HKC.out _)) (by omega)).1
         . exact (Below.heap_setCell w3 _ _ (gb + 2) (by show gb + 2 ≠ gb; omega)).trans (blk_grown6 HG1.out (blk_drew (blk_alloc HKR.out _)) (by omega)).1
         . exact row_keep' HFR.out ((Below.heap_setCell w3 _ _ gf (by show gf ≠ gb; omega)).trans ((HG1.out.block gf (by simp; omega) (by simp; exact gfn)).trans (Below.heap_alloc _ _ gf (by omega))))
       case rest =>
         obtain ⟨g1, c1, ha1, hkc, hkr, hfr⟩ := hcut
         clear k0 k1 k2 k3 k4 k5 k6 k7 q0 q1 z0 z1 z2 z3 z4 z5 z6 z7 r0 hf0
         have HA1 := Lib.hid ha1
         have HKC := Lib.hid hkc
         have HKR := Lib.hid hkr
         have HFR := Lib.hid hfr
         obtain ⟨v1, hv1⟩ : ∃ y : RoomV, y = { v with gR := g1, cR := c1 } := ⟨_, rfl⟩
         obtain ⟨r1, hr1⟩ : ∃ y : RoomD, y = { r with recs := r.recs ++ [⟨c.c, l, 0, r.clk, -1, -1, openB⟩] } := ⟨_, rfl⟩
         have HW1 := Lib.hid (show r1.wait = r.wait by rw [hr1])
         have hnw1 : r1.wait.length <= 1000 := by rw [hr1]; exact hs.nw
         rw [<- hv1, <- hr1] at HA1
         replace HKN := Lib.hid (show ringsF r c = ({ r1 with wait := queuedF r1.wait c }, [108, 105, 110, 101, 32] ++ numT l) by rw [HKN.out, hr1])
         clear hv1 hr1 ha1 hkc hkr hfr
         have k := blk_cell HA1.out.blk
         have k5 := k 5
         have kf := blk_frozen' HA1.out.blk
         have q := blk_cell HKC.out
         have q0 := q 0
         have q1 := q 1
         clear k q
         go_upto_region 9 with (go_at_call 103; refine (l6Queued_any lo wc.heap.size r1.wait.length v1.cW v1.gW r1.wait c wc HA1.out.ok.slcW (by omega)).mono ?_; rintro x w4 ⟨_, rfl, g4, c4, rfl, hown, b4⟩; have HO4 := Lib.hid hown; have HB4 := Lib.hid b4; have kx := (blk_below b4 HA1.out.blk).1; have kx5 := blk_cell kx 5; have kxf := blk_frozen' kx; clear hown b4 kx)
         obtain ⟨W5, hW5⟩ : ∃ y, y = w4.setCell ⟨gb, 5, none⟩ (.slice (some ⟨g4, 0, none⟩) (queuedF r1.wait c).length c4) := ⟨_, rfl⟩
         have HA5 := Lib.hid (show RoomAt w W5 lo gb 3 v { v1 with gW := g4, cW := c4 } { r1 with wait := queuedF r1.wait c } by rw [hW5]; exact HA1.out.setW HB4.out HO4.out rfl)
         have HKR5 := Lib.hid (show W5.heap[gb + 2]? = some roomZ by rw [hW5]; exact (Below.heap_setCell w4 _ _ (gb + 2) (by show gb + 2 ≠ gb; omega)).trans (blk_below HB4.out HKR.out).1)
         have hfr5 : W5.ownsRow W1.heap.size 3 1 (.slice (some ⟨gf, 0, none⟩) nf cf) nf (ints (l :: fs)) := by
           rw [hW5]
           have := HGF.out; have := HZ1.out
           exact row_keep' HFR.out ((Below.heap_setCell w4 _ _ gf (by show gf ≠ gb; omega)).trans (HB4.out.block gf (HFR.out.lt gf rfl).2))
         have hf0 : W5.cell? ⟨gf, 0, none⟩ = some (.int .i64 l) := hfr5.cellAt 0 (by omega)
         rw [<- hW5]
         clear hW5 kx5 kxf k5 kf q0 q1 hfr5
         obtain ⟨v5, hv5⟩ : ∃ y : RoomV, y = { v1 with gW := g4, cW := c4 } := ⟨_, rfl⟩
         obtain ⟨r5, hr5⟩ : ∃ y : RoomD, y = { r1 with wait := queuedF r1.wait c } := ⟨_, rfl⟩
         rw [<- hv5, <- hr5] at HA5
         rw [<- hr5] at HKN
         clear hv5 hr5
         obtain ⟨m, hm⟩ : ∃ m : Nat, l = (m : Int) := ⟨l.toNat, by have := HFB.out; omega⟩
         have hm6 : m <= 100000000 := by have := HFB.out; have := (offB_parts hs.off).2.1; omega
         have hll : (Lib.itoa (m : Int)).length <= 20 := by rw [Lib.itoa_nonneg]; exact dec_len (by omega)
         rw [hm] at hf0 HKN
         clear hm
         have k := blk_cell HA5.out.blk
         have k0 := k 0
         have k1 := k 1
         have k2 := k 2
         have k3 := k 3
         have k4 := k 4
         have k5 := k 5
         have k6 := k 6
         have k7 := k 7
         clear k
         go_wp2_with fail
         go_region_with (go_at_call 104; refine (l11Dec_any m hm6 _).mono ?_; rintro x w6 ⟨rfl, hb6⟩; have hb6' : Below W5.heap.size W5 w6 := ⟨hb6.os, hb6.tape, hb6.output, hb6.size, hb6.block⟩; have HB6 := Lib.hid hb6'; have k := blk_cell (blk_below hb6' HA5.out.blk).1; have r0 := blk_frozen' (blk_below hb6' HKR5.out).1; have z := blk_cell (blk_below hb6' HKR5.out).1; have k0 := k 0; have k1 := k 1; have k2 := k 2; have k3 := k 3; have k4 := k 4; have k5 := k 5; have k6 := k 6; have k7 := k 7; have z0 := z 0; have z1 := z 1; have z2 := z 2; have z3 := z 3; have z4 := z 4; have z5 := z 5; have z6 := z 6; have z7 := z 7; clear k z hb6 hb6')
         all_goals
           go_wp2_with fail
           have HA6 := HA5.out.keep HB6.out
           have HKR6 := (blk_below HB6.out HKR5.out).1
           have er := blk_cell (set8_blk (a0 := .int .i64 r5.o.ln) (a1 := .int .i64 r5.o.op) (a2 := .int .i64 r5.o.pt) (a3 := .int .i64 r5.clk) (a4 := v5.sR r5) (a5 := v5.sW r5) (a6 := v5.sB r5) (a7 := v5.sL r5) HKR6)
           refine bodyPost_ret (v := .tuple #[.agg (roomA v5 r5), .string ⟨([108, 105, 110, 101, 32] ++ numT (m : Int) : List UInt8).toArray⟩]) ?_ rfl ?_
           . unfold set8 at er
             simp [results, Try.results95, go_sem, er, numT, bytes_app]
             done
           . rw [HKN.out]
             obtain ⟨d1, d2, d3⟩ := HA6.done (b := gb + 2) (by omega)
             exact ⟨v5, rfl, d1, d2, d3⟩
   . have HFI := Lib.hid (posI_some hfi)
     have hj0 : (0 : Int) <= (j : Int) := by omega
     have HKN := Lib.hid (rings_known (b := r) (c := c) (.inr (by rw [hfi]; rfl)))
     clear hop hfi
     go_wp2_with (first
       | (go_at_call 101; refine (l6Open_any lo w2.heap.size r.recs.length v.cR (some ⟨v.gR, 0, none⟩) r.recs c.c w2 HSR.out (by omega)).mono ?_; rintro x w' ⟨rfl, hww⟩; obtain rfl := hww.symm; rw [HOP.out])
       | (go_at_call 102; refine (l6Find_any lo w2.heap.size r.back.length v.cB (some ⟨v.gB, 0, none⟩) r.back c.c w2 HSB.out (by omega)).mono ?_; rintro x w' ⟨rfl, hww⟩; obtain rfl := hww.symm; rw [HFI.out]))
     have er := blk_cell (set8_blk (a0 := .int .i64 (r).o.ln) (a1 := .int .i64 (r).o.op) (a2 := .int .i64 (r).o.pt) (a3 := .int .i64 (r).clk) (a4 := (v).sR (r)) (a5 := (v).sW (r)) (a6 := (v).sB (r)) (a7 := (v).sL (r)) HKR.out)
     refine bodyPost_ret (v := .tuple #[.agg (roomA (v) (r)), .string ⟨([107, 110, 111, 119, 110] : List UInt8).toArray⟩]) ?_ rfl ?_
     . unfold set8 at er
       simp [results, Try.results95, go_sem, er]
     . rw [HKN.out]
       have l := HL.out
       have gg := HGB.out
       have l2 := HR2.out.lts
       exact ⟨v, rfl, HR2.out.set8 (by omega), HT2.out.set8 (by omega), Moved.refl _ _⟩
 . have HOP := Lib.hid (posI_some hop)
   have hi0 : (0 : Int) <= (i : Int) := by omega
   have HKN := Lib.hid (rings_known (b := r) (c := c) (.inl (by rw [hop]; rfl)))
   clear hop
   go_wp2_with (go_at_call 101; refine (l6Open_any lo w2.heap.size r.recs.length v.cR (some ⟨v.gR, 0, none⟩) r.recs c.c w2 HSR.out (by omega)).mono ?_; rintro x w' ⟨rfl, hww⟩; obtain rfl := hww.symm; rw [HOP.out])
   have er := blk_cell (set8_blk (a0 := .int .i64 (r).o.ln) (a1 := .int .i64 (r).o.op) (a2 := .int .i64 (r).o.pt) (a3 := .int .i64 (r).clk) (a4 := (v).sR (r)) (a5 := (v).sW (r)) (a6 := (v).sB (r)) (a7 := (v).sL (r)) HKR.out)
   refine bodyPost_ret (v := .tuple #[.agg (roomA (v) (r)), .string ⟨([107, 110, 111, 119, 110] : List UInt8).toArray⟩]) ?_ rfl ?_
   . unfold set8 at er
     simp [results, Try.results95, go_sem, er]
   . rw [HKN.out]
     have l := HL.out
     have gg := HGB.out
     have l2 := HR2.out.lts
     exact ⟨v, rfl, HR2.out.set8 (by omega), HT2.out.set8 (by omega), Moved.refl _ _⟩
end Go.Proofs.Ytjcpjijihajopaa
namespace Go.Proofs.Ytjcpjijihajopaa
open Go.RowKit
structure WaitsOk (r : RoomD) : Prop where
 has : ∀ x ∈ r.wait, (openAt r.recs x.c).isSome = true
 num : ∀ x ∈ r.wait, 1 <= x.c /\ x.c <= 99
theorem openAt_get {rs : List RecD} {c : Int} {i : Nat} (h : openAt rs c = some i) : ∃ d, rs[i]? = some d /\ d.c = c /\ isOpen d = true := by
 unfold openAt at h
 rw [List.findIdx?_eq_some_iff_getElem] at h
 obtain ⟨hi, hp, _⟩ := h
 refine ⟨rs[i], List.getElem?_eq_getElem hi, ?_⟩
 unfold openP at hp
 simp at hp
 exact hp
theorem RoomAt.widen {w0 w : World} {lo gb : Nat} {v0 v : RoomV} {r : RoomD} (h : RoomAt w0 w lo gb 2 v0 v r) (hg : v.gR < gb /\ v.gW < gb /\ v.gB < gb /\ v.gL < gb) (hz : gb + 3 <= w.heap.size) : RoomAt w0 w lo gb 3 v0 v r :=
 ⟨h.ok, h.turn, h.moved, h.base, h.blk, hz, by omega, .inl hg.1, .inl hg.2.1, .inl hg.2.2.1, .inl hg.2.2.2, h.lob⟩
set_option maxHeartbeats 8000000 in
set_option maxRecDepth 20000 in
theorem l6Answers_any (lo : Nat) (v : RoomV) (r : RoomD) (op : Int) (w : World) (h : RoomOk w lo v r) (hs : RoomSmall r) (hlo : lo <= w.heap.size) (hq : WaitsOk r) :
   Calls Try.prog 96 #[.agg (roomA v r), .int .i64 op] w (StepSays lo v w (answersF r op)) := by
 obtain ⟨gb, hgb⟩ : ∃ g, g = w.heap.size := ⟨_, rfl⟩
 have hl := h.lts
 obtain ⟨O, hO⟩ : ∃ O : Obj, O = .cells (roomA v r) 121 := ⟨_, rfl⟩
 obtain ⟨Z, hZ⟩ : ∃ Z : Obj, Z = roomZ := ⟨_, rfl⟩
 have hk0 : ((w.alloc O).alloc Z).heap[gb]? = some (roomO v r) := by rw [hO, hgb]; exact blk_alloc (heap_alloc_new _ _) _
 have hk1 : ((w.alloc O).alloc Z).heap[gb + 1]? = some roomZ := by rw [<- hZ]; exact heap_new' _ _ (by rw [hgb]; simp)
 have hz1 : ((w.alloc O).alloc Z).heap.size = gb + 2 := by rw [hgb]; simp
 have HRA := Lib.hid (show RoomAt w ((w.alloc O).alloc Z) lo gb 2 v v r from ⟨(h.alloc O).alloc Z, Turn.of_below v (below_al (below_al (Below.refl _ _) _) _), Moved.refl _ _, hgb, hk0, by rw [hz1]; exact Nat.le_refl _, by omega, .inl (by omega), .inl (by omega), .inl (by omega), .inl (by omega), by omega⟩)
 have HZ1 := Lib.hid hz1
 have HKR := Lib.hid hk1
 have HO := Lib.hid hO
 have HZ := Lib.hid (show Z = .cells #[.int .i64 0, .int .i64 0, .int .i64 0, .int .i64 0, .slice none 0 0, .slice none 0 0, .slice none 0 0, .slice none 0 0] 121 from hZ)
 have HGB := Lib.hid hgb
 have HL := Lib.hid (show v.gR < gb /\ v.gW < gb /\ v.gB < gb /\ v.gL < gb by omega)
 clear hO hZ hgb hk0 hk1 hz1 h hl
 go_enter Try.func96, Try.ntmps96
 go_upto_region 1 with fail
 rw [<- HO.out, <- HZ.out, <- HGB.out]
 obtain ⟨W1, hW1⟩ : ∃ y, y = (w.alloc O).alloc Z := ⟨_, rfl⟩
 rw [<- hW1] at HRA HKR HZ1 ⊢
 clear hW1
 have k := blk_cell HRA.out.blk
 have k0 := k 0
 have k1 := k 1
 have k2 := k 2
 have k3 := k 3
 have k4 := k 4
 have k5 := k 5
 have k6 := k 6
 have k7 := k 7
 clear k
 have hn1 := hs.nr
 have HSR := Lib.hid HRA.out.ok.slcR
 by_cases htk : 0 < talksF r.recs op
 . have HKN := Lib.hid (show answersF r op = (r, [116, 97, 108, 107, 115]) by unfold answersF; rw [if_pos htk])
   go_upto_region 2 with (go_at_call 105; refine (l6Talks_any lo W1.heap.size r.recs.length v.cR (some ⟨v.gR, 0, none⟩) r.recs op W1 HSR.out (by omega)).mono ?_; rintro x w2 ⟨rfl, hww⟩; obtain rfl := hww.symm)
   clear k0 k1 k2 k3 k4 k5 k6 k7 htk
   have k := blk_cell HRA.out.blk
   have k0 := k 0
   have k1 := k 1
   have k2 := k 2
   have k3 := k 3
   have k4 := k 4
   have k5 := k 5
   have k6 := k 6
   have k7 := k 7
   clear k
   have z := blk_cell HKR.out
   have z0 := z 0
   have z1 := z 1
   have z2 := z 2
   have z3 := z 3
   have z4 := z 4
   have z5 := z 5
   have z6 := z 6
   have z7 := z 7
   clear z
   have r0 := blk_frozen' HKR.out
   go_wp2_with fail
   have er := blk_cell (set8_blk (a0 := .int .i64 (r).o.ln) (a1 := .int .i64 (r).o.op) (a2 := .int .i64 (r).o.pt) (a3 := .int .i64 (r).clk) (a4 := (v).sR (r)) (a5 := (v).sW (r)) (a6 := (v).sB (r)) (a7 := (v).sL (r)) HKR.out)
   refine bodyPost_ret (v := .tuple #[.agg (roomA (v) (r)), .string ⟨([116, 97, 108, 107, 115] : List UInt8).toArray⟩]) ?_ rfl ?_
   . unfold set8 at er
     simp [results, Try.results96, go_sem, er]
   . rw [HKN.out]
     obtain ⟨d1, d2, d3⟩ := HRA.out.done (b := gb + 1) (by omega)
     exact ⟨v, rfl, d1, d2, d3⟩
 . rcases hwt : r.wait with _ | ⟨c, cs⟩
   . have HKN := Lib.hid (show answersF r op = (r, [110, 111, 110, 101]) by unfold answersF; rw [if_neg htk, hwt])
     have hwl : r.wait.length = 0 := by rw [hwt]; rfl
     have HWL := Lib.hid (show v.sW r = .slice (some ⟨v.gW, 0, none⟩) 0 v.cW by unfold RoomV.sW; rw [hwl])
     have k5' : W1.cell? ⟨gb, 5, none⟩ = some (.slice (some ⟨v.gW, 0, none⟩) 0 v.cW) := by rw [k5, <- HWL.out]; rfl
     clear k5 hwl hwt
     go_upto_region 4 with (go_at_call 105; refine (l6Talks_any lo W1.heap.size r.recs.length v.cR (some ⟨v.gR, 0, none⟩) r.recs op W1 HSR.out (by omega)).mono ?_; rintro x w2 ⟨rfl, hww⟩; obtain rfl := hww.symm)
     clear k0 k1 k2 k3 k4 k5' k6 k7 htk
     have k := blk_cell HRA.out.blk
     have k0 := k 0
     have k1 := k 1
     have k2 := k 2
     have k3 := k 3
     have k4 := k 4
     have k5 := k 5
     have k6 := k 6
     have k7 := k 7
     clear k
     have z := blk_cell HKR.out
     have z0 := z 0
     have z1 := z 1
     have z2 := z 2
     have z3 := z 3
     have z4 := z 4
     have z5 := z 5
     have z6 := z 6
     have z7 := z 7
     clear z
     have r0 := blk_frozen' HKR.out
     go_wp2_with fail
     have er := blk_cell (set8_blk (a0 := .int .i64 (r).o.ln) (a1 := .int .i64 (r).o.op) (a2 := .int .i64 (r).o.pt) (a3 := .int .i64 (r).clk) (a4 := (v).sR (r)) (a5 := (v).sW (r)) (a6 := (v).sB (r)) (a7 := (v).sL (r)) HKR.out)
     refine bodyPost_ret (v := .tuple #[.agg (roomA (v) (r)), .string ⟨([110, 111, 110, 101] : List UInt8).toArray⟩]) ?_ rfl ?_
     . unfold set8 at er
       simp [results, Try.results96, go_sem, er]
     . rw [HKN.out]
       obtain ⟨d1, d2, d3⟩ := HRA.out.done (b := gb + 1) (by omega)
       exact ⟨v, rfl, d1, d2, d3⟩
   . have hc := hq.num c (by rw [hwt]; simp)
     obtain ⟨i, hoi⟩ := Option.isSome_iff_exists.1 (hq.has c (by rw [hwt]; simp))
     obtain ⟨d, hd, hdc, -⟩ := openAt_get hoi
     have HKN := Lib.hid (show answersF r op = ({ r with recs := r.recs.modify i λ d => { d with o := op, h := r.clk }, wait := withoutF r.wait c.c }, [99, 97, 108, 108, 32] ++ numT c.c) by unfold answersF; rw [if_neg htk, hwt]; simp only [hoi])
     have hwl : 0 < r.wait.length := by rw [hwt]; simp
     have HW0 := Lib.hid (show r.wait[0]? = some c by rw [hwt]; rfl)
     have hsw := HRA.out.ok.slcW
     have HSW := Lib.hid hsw
     obtain ⟨b0, off0, d0, hA0, -, -, -, hx0, e0, e1⟩ := hsw.callsAt (k := 0) hwl
     rw [HW0.out] at hx0
     injection hx0 with hx0
     injection hA0 with hA0
     injection hA0 with hA1 hA2
     subst hA1 hA2 hx0
     simp only [Nat.zero_add, Nat.zero_mul] at e0 e1
     have hwz2 : (((r.wait.length : Nat) : Int) == 0) = false := by simp; intro e; rw [e] at hwl; simp at hwl
     have i0 : (0 : Int) < (r.wait.length : Int) := by omega
     have HOI := Lib.hid (posI_some hoi)
     have HD := Lib.hid hd
     clear hoi hd hdc hwt hsw
     go_upto_region 5 with (go_at_call 105; refine (l6Talks_any lo W1.heap.size r.recs.length v.cR (some ⟨v.gR, 0, none⟩) r.recs op W1 HSR.out (by omega)).mono ?_; rintro x w2 ⟨rfl, hww⟩; obtain rfl := hww.symm)
     clear k0 k1 k2 k3 k4 k6 k7 htk
     go_upto_region 6 with fail
     rw [HZ1.out]
     obtain ⟨W2, hW2⟩ : ∃ y, y = W1.alloc (callO c) := ⟨_, rfl⟩
     rw [<- hW2]
     have HA2 := Lib.hid (show RoomAt w W2 lo gb 3 v v r by rw [hW2]; exact (HRA.out.alloc _).widen HL.out (by have := HZ1.out; simp; omega))
     have HKR2 := Lib.hid (show W2.heap[gb + 1]? = some roomZ by rw [hW2]; exact blk_alloc HKR.out _)
     have HKC2 := Lib.hid (show W2.heap[gb + 2]? = some (callO c) by rw [hW2]; exact heap_new' _ _ HZ1.out.symm)
     clear hW2 e0 e1 k5
     have HSR2 := Lib.hid HA2.out.ok.slcR
     have k := blk_cell HA2.out.blk
     have k0 := k 0
     have k1 := k 1
     have k2 := k 2
     have k3 := k 3
     have k4 := k 4
     have k5 := k 5
     have k6 := k 6
     have k7 := k 7
     clear k
     have q := blk_cell HKC2.out
     have q0 := q 0
     have q1 := q 1
     clear q
     go_upto_region 7 with (go_at_call 101; refine (l6Open_any lo W2.heap.size r.recs.length v.cR (some ⟨v.gR, 0, none⟩) r.recs c.c W2 HSR2.out (by omega)).mono ?_; rintro x w2 ⟨rfl, hww⟩; obtain rfl := hww.symm; rw [HOI.out])
     have hi := (List.getElem?_eq_some_iff.1 HD.out).1
     have hi0 : (0 : Int) <= (i : Int) := by omega
     have hi1 : (i : Int) < (r.recs.length : Int) := by omega
     obtain ⟨c0, c1, c2, c3, c4, c5, c6⟩ := HA2.out.ok.recAt HD.out
     have fz := λ j => HA2.out.ok.rc.frozenAt j
     have S1 := HA2.out.setR (λ d => { d with o := op }) HD.out (j := 2) (u := .int .i64 op) (by decide) (by intro k hk hne; have hk' : k = 0 \/ k = 1 \/ k = 3 \/ k = 4 \/ k = 5 \/ k = 6 := (by omega); rcases hk' with rfl | rfl | rfl | rfl | rfl | rfl <;> rfl) rfl
     have HS1 := Lib.hid S1
     have hgR1 : gb + 1 ≠ v.gR := by have := HL.out; omega
     have hgR2 : gb + 2 ≠ v.gR := by have := HL.out; omega
     clear S1
     go_upto_region 8 with fail
     obtain ⟨W3, hW3⟩ : ∃ y, y = W2.setCell ⟨v.gR, i * 7 + 2, none⟩ (.int .i64 op) := ⟨_, rfl⟩
     rw [<- hW3] at HS1 ⊢
     have HKR3 := Lib.hid (show W3.heap[gb + 1]? = some roomZ by rw [hW3]; exact (Below.heap_setCell _ _ _ (gb + 1) hgR1).trans HKR2.out)
     have HKC3 := Lib.hid (show W3.heap[gb + 2]? = some (callO c) by rw [hW3]; exact (Below.heap_setCell _ _ _ (gb + 2) hgR2).trans HKC2.out)
     have hd2 : (r.recs.modify i λ d => { d with o := op })[i]? = some { d with o := op } := by rw [List.getElem?_modify]; simp [HD.out]
     have HD2 := Lib.hid hd2
     clear hW3 c0 c1 c2 c3 c4 c5 c6 fz k0 k1 k2 k3 k4 k5 k6 k7 q0 q1 hd2
     obtain ⟨r1, hr1⟩ : ∃ y : RoomD, y = { r with recs := r.recs.modify i λ d => { d with o := op } } := ⟨_, rfl⟩
     rw [<- hr1] at HS1
     have HR1 := Lib.hid hr1
     have hrl : r1.recs.length = r.recs.length := by rw [hr1]; exact List.length_modify _ _ _
     have HDX := Lib.hid (show r1.recs[i]? = some { d with o := op } by rw [hr1]; exact HD2.out)
     have hi2 : (i : Int) < (r1.recs.length : Int) := by rw [hrl]; exact hi1
     clear hr1 hrl
     have k := blk_cell HS1.out.blk
     have k0 := k 0
     have k1 := k 1
     have k2 := k 2
     have k3 := k 3
     have k4 := k 4
     have k5 := k 5
     have k6 := k 6
     have k7 := k 7
     clear k
     obtain ⟨c0, c1, c2, c3, c4, c5, c6⟩ := HS1.out.ok.recAt HDX.out
     have fz := λ j => HS1.out.ok.rc.frozenAt j
     have S2 := HS1.out.setR (λ d => { d with h := r1.clk }) HDX.out (j := 4) (u := .int .i64 r1.clk) (by decide) (by intro k hk hne; have hk' : k = 0 \/ k = 1 \/ k = 2 \/ k = 3 \/ k = 5 \/ k = 6 := (by omega); rcases hk' with rfl | rfl | rfl | rfl | rfl | rfl <;> rfl) rfl
     have HS2 := Lib.hid S2
     clear S2
     go_upto_region 9 with fail
     obtain ⟨W4, hW4⟩ : ∃ y, y = W3.setCell ⟨v.gR, i * 7 + 4, none⟩ (.int .i64 r1.clk) := ⟨_, rfl⟩
     rw [<- hW4] at HS2 ⊢
     have HKR4 := Lib.hid (show W4.heap[gb + 1]? = some roomZ by rw [hW4]; exact (Below.heap_setCell _ _ _ (gb + 1) hgR1).trans HKR3.out)
     have HKC4 := Lib.hid (show W4.heap[gb + 2]? = some (callO c) by rw [hW4]; exact (Below.heap_setCell _ _ _ (gb + 2) hgR2).trans HKC3.out)
     clear hW4 c0 c1 c2 c3 c4 c5 c6 fz k0 k1 k2 k3 k4 k5 k6 k7
     obtain ⟨r2, hr2⟩ : ∃ y : RoomD, y = { r1 with recs := r1.recs.modify i λ d => { d with h := r1.clk } } := ⟨_, rfl⟩
     rw [<- hr2] at HS2
     have hnw2 : r2.wait.length <= 1000 := by rw [hr2, HR1.out]; exact hs.nw
     replace HKN := Lib.hid (show answersF r op = ({ r2 with wait := withoutF r2.wait c.c }, [99, 97, 108, 108, 32] ++ numT c.c) by rw [HKN.out, hr2, HR1.out]; simp only [modify_comp])
     clear hr2
     have HSW2 := Lib.hid HS2.out.ok.slcW
     have k := blk_cell HS2.out.blk
     have k0 := k 0
     have k1 := k 1
     have k2 := k 2
     have k3 := k 3
     have k4 := k 4
     have k5 := k 5
     have k6 := k 6
     have k7 := k 7
     clear k
     have q := blk_cell HKC4.out
     have q0 := q 0
     have q1 := q 1
     clear q
     have kf := blk_frozen' HS2.out.blk
     go_upto_region 10 with (go_at_call 106; refine (l6Without_any lo W4.heap.size r2.wait.length v.cW (some ⟨v.gW, 0, none⟩) r2.wait c.c W4 HSW2.out (by omega)).mono ?_; rintro x w5 ⟨_, rfl, g5, c5, rfl, hown, b5⟩; have HO5 := Lib.hid hown; have HB5 := Lib.hid b5; have kx := (blk_below b5 HS2.out.blk).1; have kx5 := blk_cell kx 5; have kxf := blk_frozen' kx; clear hown b5 kx)
     obtain ⟨W5, hW5⟩ : ∃ y, y = w5.setCell ⟨gb, 5, none⟩ (.slice (some ⟨g5, 0, none⟩) (withoutF r2.wait c.c).length c5) := ⟨_, rfl⟩
     have HA5 := Lib.hid (show RoomAt w W5 lo gb 3 v { v with gW := g5, cW := c5 } { r2 with wait := withoutF r2.wait c.c } by rw [hW5]; exact HS2.out.setW HB5.out HO5.out rfl)
     have HKR5 := Lib.hid (show W5.heap[gb + 1]? = some roomZ by rw [hW5]; exact (Below.heap_setCell w5 _ _ (gb + 1) (by show gb + 1 ≠ gb; omega)).trans (blk_below HB5.out HKR4.out).1)
     have HKC5 := Lib.hid (show W5.heap[gb + 2]? = some (callO c) by rw [hW5]; exact (Below.heap_setCell w5 _ _ (gb + 2) (by show gb + 2 ≠ gb; omega)).trans (blk_below HB5.out HKC4.out).1)
     rw [<- hW5]
     clear hW5 kx5 kxf kf q0 q1 k0 k1 k2 k3 k4 k5 k6 k7
     obtain ⟨v5, hv5⟩ : ∃ y : RoomV, y = { v with gW := g5, cW := c5 } := ⟨_, rfl⟩
     obtain ⟨r5, hr5⟩ : ∃ y : RoomD, y = { r2 with wait := withoutF r2.wait c.c } := ⟨_, rfl⟩
     rw [<- hv5, <- hr5] at HA5
     rw [<- hr5] at HKN
     clear hv5 hr5
     obtain ⟨m, hm⟩ : ∃ m : Nat, c.c = (m : Int) := ⟨c.c.toNat, by omega⟩
     have hm6 : m <= 100000000 := by omega
     have hll : (Lib.itoa (m : Int)).length <= 20 := by rw [Lib.itoa_nonneg]; exact dec_len (by omega)
     have k := blk_cell HA5.out.blk
     have k0 := k 0
     have k1 := k 1
     have k2 := k 2
     have k3 := k 3
     have k4 := k 4
     have k5 := k 5
     have k6 := k 6
     have k7 := k 7
     clear k
     have q0 := blk_cell HKC5.out 0
     rw [hm] at q0 HKN
     clear hm
     go_wp2_with fail
     go_region_with (go_at_call 104; refine (l11Dec_any m hm6 _).mono ?_; rintro x w6 ⟨rfl, hb6⟩; have hb6' : Below W5.heap.size W5 w6 := ⟨hb6.os, hb6.tape, hb6.output, hb6.size, hb6.block⟩; have HB6 := Lib.hid hb6'; have k := blk_cell (blk_below hb6' HA5.out.blk).1; have r0 := blk_frozen' (blk_below hb6' HKR5.out).1; have z := blk_cell (blk_below hb6' HKR5.out).1; have k0 := k 0; have k1 := k 1; have k2 := k 2; have k3 := k 3; have k4 := k 4; have k5 := k 5; have k6 := k 6; have k7 := k 7; have z0 := z 0; have z1 := z 1; have z2 := z 2; have z3 := z 3; have z4 := z 4; have z5 := z 5; have z6 := z 6; have z7 := z 7; clear k z hb6 hb6')
     all_goals
       go_wp2_with fail
       have HA6 := HA5.out.keep HB6.out
       have HKR6 := (blk_below HB6.out HKR5.out).1
       have er := blk_cell (set8_blk (a0 := .int .i64 (r5).o.ln) (a1 := .int .i64 (r5).o.op) (a2 := .int .i64 (r5).o.pt) (a3 := .int .i64 (r5).clk) (a4 := (v5).sR (r5)) (a5 := (v5).sW (r5)) (a6 := (v5).sB (r5)) (a7 := (v5).sL (r5)) HKR6)
       refine bodyPost_ret (v := .tuple #[.agg (roomA (v5) (r5)), .string ⟨([99, 97, 108, 108, 32] ++ numT (m : Int) : List UInt8).toArray⟩]) ?_ rfl ?_
       . unfold set8 at er
         simp [results, Try.results96, go_sem, er, numT, bytes_app]
       . rw [HKN.out]
         obtain ⟨d1, d2, d3⟩ := HA6.done (b := gb + 1) (by omega)
         exact ⟨v5, rfl, d1, d2, d3⟩
end Go.Proofs.Ytjcpjijihajopaa
namespace Go.Proofs.Ytjcpjijihajopaa
open Go.RowKit
set_option maxHeartbeats 8000000 in
set_option maxRecDepth 20000 in
theorem l6Returns_any (lo : Nat) (v : RoomV) (r : RoomD) (op : Int) (w : World) (h : RoomOk w lo v r) (hs : RoomSmall r) (hlo : lo <= w.heap.size) (hq : ∀ x ∈ r.back, 1 <= x.c /\ x.c <= 99) :
   Calls Try.prog 97 #[.agg (roomA v r), .int .i64 op] w (StepSays lo v w (returnsF r op)) := by
 obtain ⟨gb, hgb⟩ : ∃ g, g = w.heap.size := ⟨_, rfl⟩
 have hl := h.lts
 obtain ⟨O, hO⟩ : ∃ O : Obj, O = .cells (roomA v r) 121 := ⟨_, rfl⟩
 obtain ⟨Z, hZ⟩ : ∃ Z : Obj, Z = roomZ := ⟨_, rfl⟩
 have hk0 : ((w.alloc O).alloc Z).heap[gb]? = some (roomO v r) := by rw [hO, hgb]; exact blk_alloc (heap_alloc_new _ _) _
 have hk1 : ((w.alloc O).alloc Z).heap[gb + 1]? = some roomZ := by rw [<- hZ]; exact heap_new' _ _ (by rw [hgb]; simp)
 have hz1 : ((w.alloc O).alloc Z).heap.size = gb + 2 := by rw [hgb]; simp
 have HRA := Lib.hid (show RoomAt w ((w.alloc O).alloc Z) lo gb 2 v v r from ⟨(h.alloc O).alloc Z, Turn.of_below v (below_al (below_al (Below.refl _ _) _) _), Moved.refl _ _, hgb, hk0, by rw [hz1]; exact Nat.le_refl _, by omega, .inl (by omega), .inl (by omega), .inl (by omega), .inl (by omega), by omega⟩)
 have HZ1 := Lib.hid hz1
 have HKR := Lib.hid hk1
 have HO := Lib.hid hO
 have HZ := Lib.hid (show Z = .cells #[.int .i64 0, .int .i64 0, .int .i64 0, .int .i64 0, .slice none 0 0, .slice none 0 0, .slice none 0 0, .slice none 0 0] 121 from hZ)
 have HGB := Lib.hid hgb
 have HL := Lib.hid (show v.gR < gb /\ v.gW < gb /\ v.gB < gb /\ v.gL < gb by omega)
 clear hO hZ hgb hk0 hk1 hz1 h hl
 go_enter Try.func97, Try.ntmps97
 go_upto_region 1 with fail
 rw [<- HO.out, <- HZ.out, <- HGB.out]
 obtain ⟨W1, hW1⟩ : ∃ y, y = (w.alloc O).alloc Z := ⟨_, rfl⟩
 rw [<- hW1] at HRA HKR HZ1 ⊢
 clear hW1
 have k := blk_cell HRA.out.blk
 have k0 := k 0
 have k1 := k 1
 have k2 := k 2
 have k3 := k 3
 have k4 := k 4
 have k5 := k 5
 have k6 := k 6
 have k7 := k 7
 clear k
 have hn1 := hs.nr
 go_upto_region 2 with (go_at_call 100; refine (l6Free_any lo v r W1 HRA.out.ok (by omega) hs.off).mono ?_; rintro x w2 ⟨_, rfl, gf, cf, rfl, hown, b2⟩; have HOF := Lib.hid hown; have HB2 := Lib.hid b2; clear hown b2)
 have HRB := Lib.hid (HRA.out.keep HB2.out)
 have HKR2 := Lib.hid (blk_below HB2.out HKR.out).1
 have HGF := Lib.hid (HOF.out.lt gf rfl)
 clear k0 k1 k2 k3 k4 k5 k6 k7
 have k := blk_cell HRB.out.blk
 have k0 := k 0
 have k1 := k 1
 have k2 := k 2
 have k3 := k 3
 have k4 := k 4
 have k5 := k 5
 have k6 := k 6
 have k7 := k 7
 clear k
 have HSR := Lib.hid HRB.out.ok.slcR
 by_cases htk : 0 < talksF r.recs op
 . have HKN := Lib.hid (show returnsF r op = (r, [116, 97, 108, 107, 115]) by unfold returnsF; rw [if_pos htk])
   go_upto_region 3 with (go_at_call 105; refine (l6Talks_any lo w2.heap.size r.recs.length v.cR (some ⟨v.gR, 0, none⟩) r.recs op w2 HSR.out (by omega)).mono ?_; rintro x w9 ⟨rfl, hww⟩; obtain rfl := hww.symm)
   clear k0 k1 k2 k3 k4 k5 k6 k7 htk
   have k := blk_cell HRB.out.blk
   have k0 := k 0
   have k1 := k 1
   have k2 := k 2
   have k3 := k 3
   have k4 := k 4
   have k5 := k 5
   have k6 := k 6
   have k7 := k 7
   clear k
   have z := blk_cell HKR2.out
   have z0 := z 0
   have z1 := z 1
   have z2 := z 2
   have z3 := z 3
   have z4 := z 4
   have z5 := z 5
   have z6 := z 6
   have z7 := z 7
   clear z
   have r0 := blk_frozen' HKR2.out
   go_wp2_with fail
   have er := blk_cell (set8_blk (a0 := .int .i64 (r).o.ln) (a1 := .int .i64 (r).o.op) (a2 := .int .i64 (r).o.pt) (a3 := .int .i64 (r).clk) (a4 := (v).sR (r)) (a5 := (v).sW (r)) (a6 := (v).sB (r)) (a7 := (v).sL (r)) HKR2.out)
   refine bodyPost_ret (v := .tuple #[.agg (roomA (v) (r)), .string ⟨([116, 97, 108, 107, 115] : List UInt8).toArray⟩]) ?_ rfl ?_
   . unfold set8 at er
     simp [results, Try.results97, go_sem, er]
   . rw [HKN.out]
     obtain ⟨d1, d2, d3⟩ := HRB.out.done (b := gb + 1) (by omega)
     exact ⟨v, rfl, d1, d2, d3⟩
 . rcases hbk : r.back with _ | ⟨c, cs⟩
   . have HKN := Lib.hid (show returnsF r op = (r, [110, 111, 110, 101]) by unfold returnsF; rw [if_neg htk, hbk])
     have hwl : r.back.length = 0 := by rw [hbk]; rfl
     have HWL := Lib.hid (show v.sB r = .slice (some ⟨v.gB, 0, none⟩) 0 v.cB by unfold RoomV.sB; rw [hwl])
     have k6' : w2.cell? ⟨gb, 6, none⟩ = some (.slice (some ⟨v.gB, 0, none⟩) 0 v.cB) := by rw [k6, <- HWL.out]; rfl
     clear k6 hwl hbk
     go_upto_region 5 with (go_at_call 105; refine (l6Talks_any lo w2.heap.size r.recs.length v.cR (some ⟨v.gR, 0, none⟩) r.recs op w2 HSR.out (by omega)).mono ?_; rintro x w9 ⟨rfl, hww⟩; obtain rfl := hww.symm)
     clear k0 k1 k2 k3 k4 k5 k6' k7 htk
     have k := blk_cell HRB.out.blk
     have k0 := k 0
     have k1 := k 1
     have k2 := k 2
     have k3 := k 3
     have k4 := k 4
     have k5 := k 5
     have k6 := k 6
     have k7 := k 7
     clear k
     have z := blk_cell HKR2.out
     have z0 := z 0
     have z1 := z 1
     have z2 := z 2
     have z3 := z 3
     have z4 := z 4
     have z5 := z 5
     have z6 := z 6
     have z7 := z 7
     clear z
     have r0 := blk_frozen' HKR2.out
     go_wp2_with fail
     have er := blk_cell (set8_blk (a0 := .int .i64 (r).o.ln) (a1 := .int .i64 (r).o.op) (a2 := .int .i64 (r).o.pt) (a3 := .int .i64 (r).clk) (a4 := (v).sR (r)) (a5 := (v).sW (r)) (a6 := (v).sB (r)) (a7 := (v).sL (r)) HKR2.out)
     refine bodyPost_ret (v := .tuple #[.agg (roomA (v) (r)), .string ⟨([110, 111, 110, 101] : List UInt8).toArray⟩]) ?_ rfl ?_
     . unfold set8 at er
       simp [results, Try.results97, go_sem, er]
     . rw [HKN.out]
       obtain ⟨d1, d2, d3⟩ := HRB.out.done (b := gb + 1) (by omega)
       exact ⟨v, rfl, d1, d2, d3⟩
   . have hc := hq c (by rw [hbk]; simp)
     have hwl : 0 < r.back.length := by rw [hbk]; simp
     have HW0 := Lib.hid (show r.back[0]? = some c by rw [hbk]; rfl)
     have hwz2 : (((r.back.length : Nat) : Int) == 0) = false := by simp; intro e; rw [e] at hwl; simp at hwl
     rcases hfr : freeF r.o r.recs with _ | ⟨l, fs⟩
     . have HKN := Lib.hid (show returnsF r op = (r, [98, 117, 115, 121]) by unfold returnsF; rw [if_neg htk, hbk, hfr])
       simp only [List.length_nil]
       clear hbk hfr
       go_upto_region 7 with (go_at_call 105; refine (l6Talks_any lo w2.heap.size r.recs.length v.cR (some ⟨v.gR, 0, none⟩) r.recs op w2 HSR.out (by omega)).mono ?_; rintro x w9 ⟨rfl, hww⟩; obtain rfl := hww.symm)
       clear k0 k1 k2 k3 k4 k5 k6 k7 htk
       have k := blk_cell HRB.out.blk
       have k0 := k 0
       have k1 := k 1
       have k2 := k 2
       have k3 := k 3
       have k4 := k 4
       have k5 := k 5
       have k6 := k 6
       have k7 := k 7
       clear k
       have z := blk_cell HKR2.out
       have z0 := z 0
       have z1 := z 1
       have z2 := z 2
       have z3 := z 3
       have z4 := z 4
       have z5 := z 5
       have z6 := z 6
       have z7 := z 7
       clear z
       have r0 := blk_frozen' HKR2.out
       go_wp2_with fail
       have er := blk_cell (set8_blk (a0 := .int .i64 (r).o.ln) (a1 := .int .i64 (r).o.op) (a2 := .int .i64 (r).o.pt) (a3 := .int .i64 (r).clk) (a4 := (v).sR (r)) (a5 := (v).sW (r)) (a6 := (v).sB (r)) (a7 := (v).sL (r)) HKR2.out)
       refine bodyPost_ret (v := .tuple #[.agg (roomA (v) (r)), .string ⟨([98, 117, 115, 121] : List UInt8).toArray⟩]) ?_ rfl ?_
       . unfold set8 at er
         simp [results, Try.results97, go_sem, er]
       . rw [HKN.out]
         obtain ⟨d1, d2, d3⟩ := HRB.out.done (b := gb + 1) (by omega)
         exact ⟨v, rfl, d1, d2, d3⟩
     . have HKN := Lib.hid (show returnsF r op = ({ r with back := withoutF r.back c.c, recs := r.recs ++ [⟨c.c, l, op, r.clk, r.clk, -1, openB⟩] }, [99, 97, 108, 108, 32] ++ numT c.c) by unfold returnsF; rw [if_neg htk, hbk, hfr])
       obtain ⟨nf, hnf⟩ : ∃ n, n = (l :: fs).length := ⟨_, rfl⟩
       have hln := freeTo_len r.recs r.o.ln.toNat
       have ho6 := (offB_parts hs.off).2.1
       have hff : (freeF r.o r.recs).length = nf := by rw [hfr, hnf]
       have hn6 : nf <= 6 := by unfold freeF at hff; omega
       have hn0 : 0 < nf := by rw [hnf]; simp
       have HFR := Lib.hid (show w2.ownsRow W1.heap.size 3 1 (.slice (some ⟨gf, 0, none⟩) nf cf) nf (ints (l :: fs)) by have := HOF.out; rw [hff, hfr] at this; exact this)
       rw [<- hnf]
       have hfz : ((nf : Int) == 0) = false := by simp; omega
       have i0f : (0 : Int) < (nf : Int) := by omega
       have i0 : (0 : Int) < (r.back.length : Int) := by omega
       have hsb := HRB.out.ok.slcB
       obtain ⟨b0, off0, d0, hA0, -, -, -, hx0, e0, e1⟩ := hsb.callsAt (k := 0) hwl
       rw [HW0.out] at hx0
       injection hx0 with hx0
       injection hA0 with hA0
       injection hA0 with hA1 hA2
       subst hA1 hA2 hx0
       simp only [Nat.zero_add, Nat.zero_mul] at e0 e1
       clear hbk hfr hnf hln ho6 hff hsb
       go_upto_region 8 with (go_at_call 105; refine (l6Talks_any lo w2.heap.size r.recs.length v.cR (some ⟨v.gR, 0, none⟩) r.recs op w2 HSR.out (by omega)).mono ?_; rintro x w9 ⟨rfl, hww⟩; obtain rfl := hww.symm)
       clear k0 k1 k2 k3 k4 k5 k7 htk
       go_upto_region 9 with fail
       obtain ⟨gc, hgc⟩ : ∃ y, y = w2.heap.size := ⟨_, rfl⟩
       have HGC := Lib.hid hgc
       rw [<- hgc]
       obtain ⟨W3, hW3⟩ : ∃ y, y = w2.alloc (callO c) := ⟨_, rfl⟩
       rw [<- hW3]
       have HA3 := Lib.hid (show RoomAt w W3 lo gb 2 v v r by rw [hW3]; exact HRB.out.alloc _)
       have HKR3 := Lib.hid (show W3.heap[gb + 1]? = some roomZ by rw [hW3]; exact blk_alloc HKR2.out _)
       have HKC3 := Lib.hid (show W3.heap[gc]? = some (callO c) by rw [hW3]; exact heap_new' _ _ hgc)
       have HFR3 := Lib.hid (show W3.ownsRow W1.heap.size 3 1 (.slice (some ⟨gf, 0, none⟩) nf cf) nf (ints (l :: fs)) by rw [hW3]; exact row_keep HFR.out (λ b hb => Below.heap_alloc _ _ b hb))
       clear hW3 e0 e1 k6 hgc
       have hlt := HL.out
       have hgf1 : gb + 2 <= gf := by have := HGF.out; have := HZ1.out; omega
       have hgf2 : gf < gc := by have := HGF.out; have := HGC.out; omega
       have HSB3 := Lib.hid HA3.out.ok.slcB
       have hnb := hs.nb
       have k := blk_cell HA3.out.blk
       have k0 := k 0
       have k1 := k 1
       have k2 := k 2
       have k3 := k 3
       have k4 := k 4
       have k5 := k 5
       have k6 := k 6
       have k7 := k 7
       clear k
       have q := blk_cell HKC3.out
       have q0 := q 0
       have q1 := q 1
       clear q
       have kf := blk_frozen' HA3.out.blk
       go_upto_region 10 with (go_at_call 106; refine (l6Without_any lo W3.heap.size r.back.length v.cB (some ⟨v.gB, 0, none⟩) r.back c.c W3 HSB3.out (by omega)).mono ?_; rintro x w5 ⟨_, rfl, g5, c5, rfl, hown, b5⟩; have HO5 := Lib.hid hown; have HB5 := Lib.hid b5; have kx := (blk_below b5 HA3.out.blk).1; have kx6 := blk_cell kx 6; have kxf := blk_frozen' kx; clear hown b5 kx)
       obtain ⟨W4, hW4⟩ : ∃ y, y = w5.setCell ⟨gb, 6, none⟩ (.slice (some ⟨g5, 0, none⟩) (withoutF r.back c.c).length c5) := ⟨_, rfl⟩
       have HA4 := Lib.hid (show RoomAt w W4 lo gb 2 v { v with gB := g5, cB := c5 } { r with back := withoutF r.back c.c } by rw [hW4]; exact HA3.out.setB HB5.out HO5.out rfl)
       have HKR4 := Lib.hid (show W4.heap[gb + 1]? = some roomZ by rw [hW4]; exact (Below.heap_setCell w5 _ _ (gb + 1) (by show gb + 1 ≠ gb; omega)).trans (blk_below HB5.out HKR3.out).1)
       have HKC4 := Lib.hid (show W4.heap[gc]? = some (callO c) by rw [hW4]; exact (Below.heap_setCell w5 _ _ gc (by show gc ≠ gb; omega)).trans (blk_below HB5.out HKC3.out).1)
       have HFR4 := Lib.hid (show W4.ownsRow W1.heap.size 3 1 (.slice (some ⟨gf, 0, none⟩) nf cf) nf (ints (l :: fs)) by rw [hW4]; exact row_keep' HFR3.out ((Below.heap_setCell w5 _ _ gf (by show gf ≠ gb; omega)).trans (HB5.out.block gf (HFR3.out.lt gf rfl).2)))
       rw [<- hW4]
       clear hW4 kx6 kxf kf q0 q1 k0 k1 k2 k3 k4 k5 k6 k7
       obtain ⟨v1, hv1⟩ : ∃ y : RoomV, y = { v with gB := g5, cB := c5 } := ⟨_, rfl⟩
       obtain ⟨r1, hr1⟩ : ∃ y : RoomD, y = { r with back := withoutF r.back c.c } := ⟨_, rfl⟩
       have hvR : v1.gR = v.gR := by rw [hv1]
       have hvR2 : v1.gR < gb := by rw [hvR]; exact hlt.1
       have hn4 : r1.recs.length <= 1000 := by rw [hr1]; exact hs.nr
       rw [<- hv1, <- hr1] at HA4
       replace HKN := Lib.hid (show returnsF r op = ({ r1 with recs := r1.recs ++ [⟨c.c, l, op, r1.clk, r1.clk, -1, openB⟩] }, [99, 97, 108, 108, 32] ++ numT c.c) by rw [HKN.out, hr1])
       clear hv1 hr1 hvR
       have k := blk_cell HA4.out.blk
       have k0 := k 0
       have k1 := k 1
       have k2 := k 2
       have k3 := k 3
       have k4 := k 4
       have k5 := k 5
       have k6 := k 6
       have k7 := k 7
       clear k
       have q0 := blk_cell HKC4.out 0
       have hf0 : W4.cell? ⟨gf, 0, none⟩ = some (.int .i64 l) := HFR4.out.cellAt 0 (by omega)
       have zsz : gc < W4.heap.size := blk_lt HKC4.out
       go_cut [] from 38 to 53 (λ wx => ∃ g1 c1, RoomAt w wx lo gb 2 v { v1 with gR := g1, cR := c1 } { r1 with recs := r1.recs ++ [⟨c.c, l, op, r1.clk, r1.clk, -1, openB⟩] } /\ wx.heap[gc]? = some (callO c) /\ wx.heap[gb + 1]? = some roomZ)
       case first =>
         obtain ⟨i0, hi0, hz0, hz1, hz2⟩ := info_parts info_rec
         have HI := Lib.hid hi0
         clear hi0
         have kB : ∀ o : Obj, (W4.alloc o).cell? ⟨gb, 4, none⟩ = some (v1.sR r1) := λ o => cell_alloc k4 o
         have hgbz : gb < W4.heap.size := by omega
         have S0 : W4.cell? ⟨gb, 3, none⟩ = some (.int .i64 r1.clk) /\ W4.cell? ⟨gc, 0, none⟩ = some (.int .i64 c.c) /\ W4.cell? ⟨gf, 0, none⟩ = some (.int .i64 l) := ⟨k3, q0, hf0⟩
         have HS0 := Lib.hid S0
         clear S0
         obtain ⟨g1, c1, w3, hap, hown1, hgr1, B1, hat1⟩ := run_app2 (P := Try.prog) (W4.alloc (.cells #[.int .i64 c.c, .int .i64 l, .int .i64 op, .int .i64 r1.clk, .int .i64 r1.clk, .int .i64 (-1), .string openB] 50)).drew 25 25 lo 50 i0 (.agg #[.int .i64 0, .int .i64 0, .int .i64 0, .int .i64 0, .int .i64 0, .int .i64 0, .string ⟨#[]⟩]) 7 64 Try.underlying25 HI.out hz0 hz1 hz2 rfl (by decide) v1.gR v1.cR r1.recs.length (recs r1.recs) (row_keep HA4.out.ok.rc (λ b hb => Below.heap_alloc _ _ b hb)) ⟨W4.heap.size, 0, none⟩ 1 1 (RecD.cells ⟨c.c, l, op, r1.clk, r1.clk, -1, openB⟩) rfl (World.news_of_block (cs := (RecD.cells ⟨c.c, l, op, r1.clk, r1.clk, -1, openB⟩).toArray) (heap_alloc_new _ _)) (by intro u hu; simp [RecD.cells] at hu; rcases hu with rfl | rfl | rfl | rfl | rfl | rfl | rfl <;> rfl) (by unfold maxLen; omega) (by omega) (by have := HA4.out.lob; simp; omega)
         have HG1 := Lib.hid hgr1
         have HOW1 := Lib.hid hown1
         have HAT1 := Lib.hid hat1
         have kx := (blk_grown6 hgr1 (blk_alloc HA4.out.blk _) (by omega)).1
         have kx4 := blk_cell kx 4
         have kxf := blk_frozen' kx
         clear hown1 hgr1 B1 hat1 kx
         refine wp_RU10 W4 w3 gb gc gf v1.gR r1.recs.length v1.cR g1 c1 _ _ c.c l op r1.clk rfl rfl rfl rfl rfl k3 k4 q0 hf0 (by omega) hap kx4 (kxf _) rfl ?_
         clear hap kx4 kxf
         rw [Go.Mt.fillT_L, opsRU10_dst]
         simp only [Go.Mt.fillL, List.set_cons_zero, List.set_cons_succ, fRU10, List.getD_cons_zero, List.getD_cons_succ]
         go_wp2_with fail
         go_meet
         refine ⟨g1, c1, ((HA4.out.alloc _).drew).appR HG1.out HOW1.out rfl HAT1.out, ?_, ?_⟩
         . exact (Below.heap_setCell w3 _ _ gc (by show gc ≠ gb; omega)).trans (blk_grown6 HG1.out (blk_drew (blk_alloc HKC4.out _)) (by omega)).1
         . exact (Below.heap_setCell w3 _ _ (gb + 1) (by show gb + 1 ≠ gb; omega)).trans (blk_grown6 HG1.out (blk_drew (blk_alloc HKR4.out _)) (by omega)).1
       case rest =>
         obtain ⟨g1, c1, ha1, hkc, hkr⟩ := hcut
         clear k0 k1 k2 k3 k4 k5 k6 k7 q0 hf0 zsz
         obtain ⟨W5, hW5⟩ : ∃ y, y = wc := ⟨_, rfl⟩
         have HKC5 := Lib.hid (show W5.heap[gc]? = some (callO c) by rw [hW5]; exact hkc)
         have HKR5 := Lib.hid (show W5.heap[gb + 1]? = some roomZ by rw [hW5]; exact hkr)
         have HA5 := Lib.hid (show RoomAt w W5 lo gb 2 v { v1 with gR := g1, cR := c1 } { r1 with recs := r1.recs ++ [⟨c.c, l, op, r1.clk, r1.clk, -1, openB⟩] } by rw [hW5]; exact ha1)
         clear ha1 hkc hkr
         rw [<- hW5]
         clear hW5
         obtain ⟨v5, hv5⟩ : ∃ y : RoomV, y = { v1 with gR := g1, cR := c1 } := ⟨_, rfl⟩
         obtain ⟨r5, hr5⟩ : ∃ y : RoomD, y = { r1 with recs := r1.recs ++ [⟨c.c, l, op, r1.clk, r1.clk, -1, openB⟩] } := ⟨_, rfl⟩
         rw [<- hv5, <- hr5] at HA5
         rw [<- hr5] at HKN
         clear hv5 hr5
         obtain ⟨m, hm⟩ : ∃ m : Nat, c.c = (m : Int) := ⟨c.c.toNat, by omega⟩
         have hm6 : m <= 100000000 := by omega
         have hll : (Lib.itoa (m : Int)).length <= 20 := by rw [Lib.itoa_nonneg]; exact dec_len (by omega)
         have k := blk_cell HA5.out.blk
         have k0 := k 0
         have k1 := k 1
         have k2 := k 2
         have k3 := k 3
         have k4 := k 4
         have k5 := k 5
         have k6 := k 6
         have k7 := k 7
         clear k
         have q0 := blk_cell HKC5.out 0
         rw [hm] at q0 HKN
         clear hm
         go_wp2_with fail
         go_region_with (go_at_call 104; refine (l11Dec_any m hm6 _).mono ?_; rintro x w6 ⟨rfl, hb6⟩; have hb6' : Below W5.heap.size W5 w6 := ⟨hb6.os, hb6.tape, hb6.output, hb6.size, hb6.block⟩; have HB6 := Lib.hid hb6'; have k := blk_cell (blk_below hb6' HA5.out.blk).1; have r0 := blk_frozen' (blk_below hb6' HKR5.out).1; have z := blk_cell (blk_below hb6' HKR5.out).1; have k0 := k 0; have k1 := k 1; have k2 := k 2; have k3 := k 3; have k4 := k 4; have k5 := k 5; have k6 := k 6; have k7 := k 7; have z0 := z 0; have z1 := z 1; have z2 := z 2; have z3 := z 3; have z4 := z 4; have z5 := z 5; have z6 := z 6; have z7 := z 7; clear k z hb6 hb6')
         all_goals
           go_wp2_with fail
           have HA6 := HA5.out.keep HB6.out
           have HKR6 := (blk_below HB6.out HKR5.out).1
           have er := blk_cell (set8_blk (a0 := .int .i64 (r5).o.ln) (a1 := .int .i64 (r5).o.op) (a2 := .int .i64 (r5).o.pt) (a3 := .int .i64 (r5).clk) (a4 := (v5).sR (r5)) (a5 := (v5).sW (r5)) (a6 := (v5).sB (r5)) (a7 := (v5).sL (r5)) HKR6)
           refine bodyPost_ret (v := .tuple #[.agg (roomA (v5) (r5)), .string ⟨([99, 97, 108, 108, 32] ++ numT (m : Int) : List UInt8).toArray⟩]) ?_ rfl ?_
           . unfold set8 at er
             simp [results, Try.results97, go_sem, er, numT, bytes_app]
           . rw [HKN.out]
             obtain ⟨d1, d2, d3⟩ := HA6.done (b := gb + 1) (by omega)
             exact ⟨v5, rfl, d1, d2, d3⟩
end Go.Proofs.Ytjcpjijihajopaa
namespace Go.Proofs.Ytjcpjijihajopaa
open Go.RowKit
set_option maxHeartbeats 8000000 in
set_option maxRecDepth 20000 in
theorem l6Hangs_any (lo : Nat) (v : RoomV) (r : RoomD) (call : Int) (w : World) (h : RoomOk w lo v r) (hs : RoomSmall r) (hlo : lo <= w.heap.size) :
   Calls Try.prog 98 #[.agg (roomA v r), .int .i64 call] w (StepSays lo v w (hangsF r call)) := by
 obtain ⟨gb, hgb⟩ : ∃ g, g = w.heap.size := ⟨_, rfl⟩
 have hl := h.lts
 obtain ⟨O, hO⟩ : ∃ O : Obj, O = .cells (roomA v r) 121 := ⟨_, rfl⟩
 obtain ⟨Z, hZ⟩ : ∃ Z : Obj, Z = roomZ := ⟨_, rfl⟩
 have hk0 : ((w.alloc O).alloc Z).heap[gb]? = some (roomO v r) := by rw [hO, hgb]; exact blk_alloc (heap_alloc_new _ _) _
 have hk1 : ((w.alloc O).alloc Z).heap[gb + 1]? = some roomZ := by rw [<- hZ]; exact heap_new' _ _ (by rw [hgb]; simp)
 have hz1 : ((w.alloc O).alloc Z).heap.size = gb + 2 := by rw [hgb]; simp
 have HRA := Lib.hid (show RoomAt w ((w.alloc O).alloc Z) lo gb 2 v v r from ⟨(h.alloc O).alloc Z, Turn.of_below v (below_al (below_al (Below.refl _ _) _) _), Moved.refl _ _, hgb, hk0, by rw [hz1]; exact Nat.le_refl _, by omega, .inl (by omega), .inl (by omega), .inl (by omega), .inl (by omega), by omega⟩)
 have HZ1 := Lib.hid hz1
 have HKR := Lib.hid hk1
 have HO := Lib.hid hO
 have HZ := Lib.hid (show Z = .cells #[.int .i64 0, .int .i64 0, .int .i64 0, .int .i64 0, .slice none 0 0, .slice none 0 0, .slice none 0 0, .slice none 0 0] 121 from hZ)
 have HGB := Lib.hid hgb
 have HL := Lib.hid (show v.gR < gb /\ v.gW < gb /\ v.gB < gb /\ v.gL < gb by omega)
 clear hO hZ hgb hk0 hk1 hz1 h hl
 go_enter Try.func98, Try.ntmps98
 go_upto_region 1 with fail
 rw [<- HO.out, <- HZ.out, <- HGB.out]
 obtain ⟨W1, hW1⟩ : ∃ y, y = (w.alloc O).alloc Z := ⟨_, rfl⟩
 rw [<- hW1] at HRA HKR HZ1 ⊢
 clear hW1
 have k := blk_cell HRA.out.blk
 have k0 := k 0
 have k1 := k 1
 have k2 := k 2
 have k3 := k 3
 have k4 := k 4
 have k5 := k 5
 have k6 := k 6
 have k7 := k 7
 clear k
 have hn1 := hs.nr
 have hnw := hs.nw
 have hnb := hs.nb
 have HSR := Lib.hid HRA.out.ok.slcR
 have HSB := Lib.hid HRA.out.ok.slcB
 have hgR1 : gb + 1 ≠ v.gR := by have := HL.out; omega
 have hgB1 : gb + 1 ≠ v.gB := by have := HL.out; omega
 have z := blk_cell HKR.out
 have z0 := z 0
 have z1 := z 1
 have z2 := z 2
 have z3 := z 3
 have z4 := z 4
 have z5 := z 5
 have z6 := z 6
 have z7 := z 7
 clear z
 have r0 := blk_frozen' HKR.out
 rcases hoi : openAt r.recs call with _ | i
 . have HOI := Lib.hid (posI_none hoi)
   rcases hfi : findC6 r.back call with _ | j
   . have HFI := Lib.hid (posI_none hfi)
     have HKN := Lib.hid (show hangsF r call = (r, [103, 111, 110, 101]) by unfold hangsF; rw [hoi]; simp [hfi])
     clear hoi hfi
     go_upto_region 9 with (first | (go_at_call 101; refine (l6Open_any lo W1.heap.size r.recs.length v.cR (some ⟨v.gR, 0, none⟩) r.recs call W1 HSR.out (by omega)).mono ?_; rintro x w9 ⟨rfl, hww⟩; obtain rfl := hww.symm; rw [HOI.out]) | (go_at_call 102; refine (l6Find_any lo W1.heap.size r.back.length v.cB (some ⟨v.gB, 0, none⟩) r.back call W1 HSB.out (by omega)).mono ?_; rintro x w9 ⟨rfl, hww⟩; obtain rfl := hww.symm; rw [HFI.out]))
     clear k0 k1 k2 k3 k4 k5 k6 k7 z0 z1 z2 z3 z4 z5 z6 z7 r0
     have k := blk_cell HRA.out.blk
     have k0 := k 0
     have k1 := k 1
     have k2 := k 2
     have k3 := k 3
     have k4 := k 4
     have k5 := k 5
     have k6 := k 6
     have k7 := k 7
     clear k
     have z := blk_cell HKR.out
     have z0 := z 0
     have z1 := z 1
     have z2 := z 2
     have z3 := z 3
     have z4 := z 4
     have z5 := z 5
     have z6 := z 6
     have z7 := z 7
     clear z
     have r0 := blk_frozen' HKR.out
     go_wp2_with fail
     have er := blk_cell (set8_blk (a0 := .int .i64 (r).o.ln) (a1 := .int .i64 (r).o.op) (a2 := .int .i64 (r).o.pt) (a3 := .int .i64 (r).clk) (a4 := (v).sR (r)) (a5 := (v).sW (r)) (a6 := (v).sB (r)) (a7 := (v).sL (r)) HKR.out)
     refine bodyPost_ret (v := .tuple #[.agg (roomA (v) (r)), .string ⟨([103, 111, 110, 101] : List UInt8).toArray⟩]) ?_ rfl ?_
     . unfold set8 at er
       simp [results, Try.results98, go_sem, er]
     . rw [HKN.out]
       obtain ⟨d1, d2, d3⟩ := HRA.out.done (b := gb + 1) (by omega)
       exact ⟨v, rfl, d1, d2, d3⟩
   . have HFI := Lib.hid (posI_some hfi)
     have hj0 : (0 : Int) <= (j : Int) := by omega
     have HKN := Lib.hid (show hangsF r call = ({ r with back := withoutF r.back call }, [111, 102, 102]) by unfold hangsF; rw [hoi]; simp [hfi])
     clear hoi hfi
     go_upto_region 7 with (first | (go_at_call 101; refine (l6Open_any lo W1.heap.size r.recs.length v.cR (some ⟨v.gR, 0, none⟩) r.recs call W1 HSR.out (by omega)).mono ?_; rintro x w9 ⟨rfl, hww⟩; obtain rfl := hww.symm; rw [HOI.out]) | (go_at_call 102; refine (l6Find_any lo W1.heap.size r.back.length v.cB (some ⟨v.gB, 0, none⟩) r.back call W1 HSB.out (by omega)).mono ?_; rintro x w9 ⟨rfl, hww⟩; obtain rfl := hww.symm; rw [HFI.out]))
     have kf := blk_frozen' HRA.out.blk
     go_upto_region 8 with (go_at_call 106; refine (l6Without_any lo W1.heap.size r.back.length v.cB (some ⟨v.gB, 0, none⟩) r.back call W1 HSB.out (by omega)).mono ?_; rintro x w5 ⟨_, rfl, g5, c5, rfl, hown, b5⟩; have HO5 := Lib.hid hown; have HB5 := Lib.hid b5; have kx := (blk_below b5 HRA.out.blk).1; have kx6 := blk_cell kx 6; have kxf := blk_frozen' kx; clear hown b5 kx)
     obtain ⟨W4, hW4⟩ : ∃ y, y = w5.setCell ⟨gb, 6, none⟩ (.slice (some ⟨g5, 0, none⟩) (withoutF r.back call).length c5) := ⟨_, rfl⟩
     have HA4 := Lib.hid (show RoomAt w W4 lo gb 2 v { v with gB := g5, cB := c5 } { r with back := withoutF r.back call } by rw [hW4]; exact HRA.out.setB HB5.out HO5.out rfl)
     have HKR4 := Lib.hid (show W4.heap[gb + 1]? = some roomZ by rw [hW4]; exact (Below.heap_setCell w5 _ _ (gb + 1) (by show gb + 1 ≠ gb; omega)).trans (blk_below HB5.out HKR.out).1)
     rw [<- hW4]
     clear hW4 kx6 kxf kf k0 k1 k2 k3 k4 k5 k6 k7 z0 z1 z2 z3 z4 z5 z6 z7 r0
     obtain ⟨v5, hv5⟩ : ∃ y : RoomV, y = { v with gB := g5, cB := c5 } := ⟨_, rfl⟩
     obtain ⟨r5, hr5⟩ : ∃ y : RoomD, y = { r with back := withoutF r.back call } := ⟨_, rfl⟩
     rw [<- hv5, <- hr5] at HA4
     rw [<- hr5] at HKN
     clear hv5 hr5
     have k := blk_cell HA4.out.blk
     have k0 := k 0
     have k1 := k 1
     have k2 := k 2
     have k3 := k 3
     have k4 := k 4
     have k5 := k 5
     have k6 := k 6
     have k7 := k 7
     clear k
     have z := blk_cell HKR4.out
     have z0 := z 0
     have z1 := z 1
     have z2 := z 2
     have z3 := z 3
     have z4 := z 4
     have z5 := z 5
     have z6 := z 6
     have z7 := z 7
     clear z
     have r0 := blk_frozen' HKR4.out
     go_wp2_with fail
     have er := blk_cell (set8_blk (a0 := .int .i64 (r5).o.ln) (a1 := .int .i64 (r5).o.op) (a2 := .int .i64 (r5).o.pt) (a3 := .int .i64 (r5).clk) (a4 := (v5).sR (r5)) (a5 := (v5).sW (r5)) (a6 := (v5).sB (r5)) (a7 := (v5).sL (r5)) HKR4.out)
     refine bodyPost_ret (v := .tuple #[.agg (roomA (v5) (r5)), .string ⟨([111, 102, 102] : List UInt8).toArray⟩]) ?_ rfl ?_
     . unfold set8 at er
       simp [results, Try.results98, go_sem, er]
     . rw [HKN.out]
       obtain ⟨d1, d2, d3⟩ := HA4.out.done (b := gb + 1) (by omega)
       exact ⟨v5, rfl, d1, d2, d3⟩
 . have HOI := Lib.hid (posI_some hoi)
   obtain ⟨d, hd, -, -⟩ := openAt_get hoi
   have hi := (List.getElem?_eq_some_iff.1 hd).1
   have hi0 : (0 : Int) <= (i : Int) := by omega
   have hi1 : (i : Int) < (r.recs.length : Int) := by omega
   have hop : opAt r.recs i = d.o := by unfold opAt; rw [hd]
   obtain ⟨c0, c1, c2, c3, c4, c5, c6⟩ := HRA.out.ok.recAt hd
   have HD := Lib.hid hd
   by_cases hpo : 0 < d.o
   . have HKN := Lib.hid (show hangsF r call = (endsF r i doneE, [100, 111, 110, 101]) by unfold hangsF; rw [hoi]; simp only; rw [if_pos (by rw [hop]; exact hpo)])
     clear hoi hd hop
     go_upto_region 3 with (go_at_call 101; refine (l6Open_any lo W1.heap.size r.recs.length v.cR (some ⟨v.gR, 0, none⟩) r.recs call W1 HSR.out (by omega)).mono ?_; rintro x w9 ⟨rfl, hww⟩; obtain rfl := hww.symm; rw [HOI.out])
     clear c0 c1 c2 c3 c4 c5 c6 z0 z1 z2 z3 z4 z5 z6 z7 r0
     go_wp2_with (go_at_call 107; refine (l6Ends_any lo i v r d doneE W1 HRA.out.ok HD.out (by omega) (by omega) (by have := HRA.out.lob; have := HZ1.out; omega)).mono ?_; rintro x w5 ⟨g5, c5, rfl, hok, htn, hg5⟩; obtain ⟨v5, hv5⟩ : ∃ y : RoomV, y = { v with gW := g5, cW := c5 } := ⟨_, rfl⟩; obtain ⟨r5, hr5⟩ : ∃ y : RoomD, y = endsF r i doneE := ⟨_, rfl⟩; rw [<- hv5, <- hr5] at hok ⊢; have HV5 := Lib.hid hv5; have HR5 := Lib.hid hr5; have HOK := Lib.hid hok; have HTN := Lib.hid htn; have HG5 := Lib.hid hg5; have kr := htn.blk HKR.out hgR1 hgB1; have HKR5 := Lib.hid kr; have z := blk_cell kr; have r0 := blk_frozen' kr; have z0 := z 0; have z1 := z 1; have z2 := z 2; have z3 := z 3; have z4 := z 4; have z5 := z 5; have z6 := z 6; have z7 := z 7; clear hok htn hg5 kr z hv5 hr5)
     have hv5 := HV5.out
     have hr5 := HR5.out
     rw [<- hr5] at HKN
     have er := blk_cell (set8_blk (a0 := .int .i64 (r5).o.ln) (a1 := .int .i64 (r5).o.op) (a2 := .int .i64 (r5).o.pt) (a3 := .int .i64 (r5).clk) (a4 := (v5).sR (r5)) (a5 := (v5).sW (r5)) (a6 := (v5).sB (r5)) (a7 := (v5).sL (r5)) HKR5.out)
     refine bodyPost_ret (v := .tuple #[.agg (roomA (v5) (r5)), .string ⟨([100, 111, 110, 101] : List UInt8).toArray⟩]) ?_ rfl ?_
     . unfold set8 at er
       simp [results, Try.results98, go_sem, er]
     . rw [HKN.out]
       have hl := HL.out
       have hz := HZ1.out
       have hg := HG5.out
       have hgb := HGB.out
       exact ⟨v5, rfl, HOK.out.set8 (by rw [hv5]; simp only; omega), (HRA.out.turn.same HTN.out).set8 (by omega), by rw [hv5]; exact ⟨.inl rfl, .inr (by simp only; omega), .inl rfl, rfl⟩⟩
   . have HKN := Lib.hid (show hangsF r call = (endsF r i leftE, [108, 101, 102, 116]) by unfold hangsF; rw [hoi]; simp only; rw [if_neg (by rw [hop]; exact hpo)])
     clear hoi hd hop
     go_upto_region 5 with (go_at_call 101; refine (l6Open_any lo W1.heap.size r.recs.length v.cR (some ⟨v.gR, 0, none⟩) r.recs call W1 HSR.out (by omega)).mono ?_; rintro x w9 ⟨rfl, hww⟩; obtain rfl := hww.symm; rw [HOI.out])
     clear c0 c1 c2 c3 c4 c5 c6 z0 z1 z2 z3 z4 z5 z6 z7 r0
     go_wp2_with (go_at_call 107; refine (l6Ends_any lo i v r d leftE W1 HRA.out.ok HD.out (by omega) (by omega) (by have := HRA.out.lob; have := HZ1.out; omega)).mono ?_; rintro x w5 ⟨g5, c5, rfl, hok, htn, hg5⟩; obtain ⟨v5, hv5⟩ : ∃ y : RoomV, y = { v with gW := g5, cW := c5 } := ⟨_, rfl⟩; obtain ⟨r5, hr5⟩ : ∃ y : RoomD, y = endsF r i leftE := ⟨_, rfl⟩; rw [<- hv5, <- hr5] at hok ⊢; have HV5 := Lib.hid hv5; have HR5 := Lib.hid hr5; have HOK := Lib.hid hok; have HTN := Lib.hid htn; have HG5 := Lib.hid hg5; have kr := htn.blk HKR.out hgR1 hgB1; have HKR5 := Lib.hid kr; have z := blk_cell kr; have r0 := blk_frozen' kr; have z0 := z 0; have z1 := z 1; have z2 := z 2; have z3 := z 3; have z4 := z 4; have z5 := z 5; have z6 := z 6; have z7 := z 7; clear hok htn hg5 kr z hv5 hr5)
     have hv5 := HV5.out
     have hr5 := HR5.out
     rw [<- hr5] at HKN
     have er := blk_cell (set8_blk (a0 := .int .i64 (r5).o.ln) (a1 := .int .i64 (r5).o.op) (a2 := .int .i64 (r5).o.pt) (a3 := .int .i64 (r5).clk) (a4 := (v5).sR (r5)) (a5 := (v5).sW (r5)) (a6 := (v5).sB (r5)) (a7 := (v5).sL (r5)) HKR5.out)
     refine bodyPost_ret (v := .tuple #[.agg (roomA (v5) (r5)), .string ⟨([108, 101, 102, 116] : List UInt8).toArray⟩]) ?_ rfl ?_
     . unfold set8 at er
       simp [results, Try.results98, go_sem, er]
     . rw [HKN.out]
       have hl := HL.out
       have hz := HZ1.out
       have hg := HG5.out
       have hgb := HGB.out
       exact ⟨v5, rfl, HOK.out.set8 (by rw [hv5]; simp only; omega), (HRA.out.turn.same HTN.out).set8 (by omega), by rw [hv5]; exact ⟨.inl rfl, .inr (by simp only; omega), .inl rfl, rfl⟩⟩
end Go.Proofs.Ytjcpjijihajopaa
namespace Go.Proofs.Ytjcpjijihajopaa
open Go.RowKit
def tiredTo (r : RoomD) (m : Int) (k : Nat) : RoomD × List UInt8 := (r.wait.take k).foldl tireF ({ r with clk := r.clk + m }, [97, 116, 32] ++ numT (r.clk + m))
theorem tiredTo_succ {r : RoomD} {m : Int} {k : Nat} {x : CallD} (h : r.wait[k]? = some x) : tiredTo r m (k + 1) = tireF (tiredTo r m k) x := by
 unfold tiredTo
 rw [List.take_add_one, h, List.foldl_append]; rfl
theorem tiredTo_all (r : RoomD) (m : Int) : tiredTo r m r.wait.length = waitsF r m := by
 unfold tiredTo waitsF
 rw [List.take_of_length_le (Nat.le_refl _)]
theorem openAt_isSome (rs : List RecD) (c : Int) : (openAt rs c).isSome = rs.any (openP c) := by unfold openAt; exact List.findIdx?_isSome
theorem openAt_other {rs : List RecD} {i : Nat} {d : RecD} {f : RecD -> RecD} {c : Int} (hd : rs[i]? = some d) (hc : d.c ≠ c) (h : (openAt rs c).isSome = true) : (openAt (rs.modify i f) c).isSome = true := by
 rw [openAt_isSome, List.any_eq_true] at *
 obtain ⟨x, hx, hp⟩ := h
 obtain ⟨j, hj, e⟩ := List.mem_iff_getElem.1 hx
 have hji : i ≠ j := by
   intro e2
   subst e2
   rw [List.getElem?_eq_getElem hj, e] at hd
   injection hd with hd
   unfold openP at hp
   simp at hp
   exact hc (hd ▸ hp.1)
 refine ⟨x, ?_, hp⟩
 refine List.mem_iff_getElem?.2 ⟨j, ?_⟩
 rw [List.getElem?_modify, List.getElem?_eq_getElem hj, e]
 simp [hji]
structure TiredOk (r : RoomD) (m : Int) (k : Nat) : Prop where
 nrec : (tiredTo r m k).1.recs.length = r.recs.length
 off : (tiredTo r m k).1.o = r.o
 clk : (tiredTo r m k).1.clk = r.clk + m
 nb : (tiredTo r m k).1.back.length <= r.back.length + k
 nw : (tiredTo r m k).1.wait.length <= r.wait.length
 txt : (tiredTo r m k).2.length <= 30 + 30 * k
 has : ∀ j x, k <= j -> r.wait[j]? = some x -> (openAt (tiredTo r m k).1.recs x.c).isSome = true
 fr : ∀ d ∈ (tiredTo r m k).1.recs, 0 <= d.f /\ d.f <= 100000
theorem withoutF_len (xs : List CallD) (q : Int) : (withoutF xs q).length <= xs.length := List.length_filter_le _ _
theorem numT_len {c : Int} (h0 : 0 <= c) (h1 : c <= 1000000) : (numT c).length <= 20 := by
 obtain ⟨n, rfl⟩ : ∃ n : Nat, c = (n : Int) := ⟨c.toNat, by omega⟩
 unfold numT
 rw [Lib.itoa_nonneg]
 exact dec_len (by omega)
theorem tireF_some {bt : RoomD × List UInt8} {x : CallD} {i : Nat} {d : RecD} (hi : openAt bt.1.recs x.c = some i) (hd : bt.1.recs[i]? = some d) :
   tireF bt x = if bt.1.o.pt <= bt.1.clk - d.f then ({ endsF bt.1 i tiredE with back := bt.1.back ++ [x] }, bt.2 ++ [32] ++ numT x.c) else bt := by
 unfold tireF
 rw [hi]
 simp only
 rw [show fromAt bt.1.recs i = d.f by unfold fromAt; rw [hd]]
theorem tiredOk {r : RoomD} {m : Int} (hq : WaitsOk r) (hn : (r.wait.map CallD.c).Nodup) (hf : ∀ d ∈ r.recs, 0 <= d.f /\ d.f <= 100000) (hc : 0 <= r.clk + m /\ r.clk + m <= 1000000) : ∀ k, k <= r.wait.length -> TiredOk r m k
 | 0, _ => ⟨rfl, rfl, rfl, Nat.le_refl _, Nat.le_refl _, by
     have := numT_len hc.1 hc.2
     show ([97, 116, 32] ++ numT (r.clk + m)).length <= _
     rw [List.length_append]
     simp only [List.length_cons, List.length_nil]
     omega, λ j x _ hx => hq.has x (List.mem_of_getElem? hx), hf⟩
 | k + 1, hk => by
   have T := tiredOk hq hn hf hc k (by omega)
   obtain ⟨x, hx⟩ : ∃ x, r.wait[k]? = some x := ⟨r.wait[k], List.getElem?_eq_getElem (by omega)⟩
   obtain ⟨i, hi⟩ := Option.isSome_iff_exists.1 (T.has k x (Nat.le_refl _) hx)
   obtain ⟨d, hd, hdc, -⟩ := openAt_get hi
   have e := tireF_some (bt := tiredTo r m k) hi hd
   have e1 := tiredTo_succ (m := m) hx
   rw [e] at e1
   have hxn := hq.num x (List.mem_of_getElem? hx)
   have hnt := numT_len (c := x.c) (by omega) (by omega)
   by_cases hp : (tiredTo r m k).1.o.pt <= (tiredTo r m k).1.clk - d.f
   . rw [if_pos hp] at e1
     refine ⟨?_, ?_, ?_, ?_, ?_, ?_, ?_, ?_⟩ <;> rw [e1]
     . show (List.modify _ _ _).length = _
       rw [List.length_modify]; exact T.nrec
     . exact T.off
     . exact T.clk
     . have := T.nb
       simp only [List.length_append, List.length_cons, List.length_nil]
       omega
     . exact Nat.le_trans (withoutF_len _ _) T.nw
     . have := T.txt
       simp only [List.length_append, List.length_cons, List.length_nil]
       omega
     . intro j y hj hy
       have hyc : d.c ≠ y.c := by
         intro e2
         rw [hdc] at e2
         have hjl := (List.getElem?_eq_some_iff.1 hy).1
         have hkl := (List.getElem?_eq_some_iff.1 hx).1
         have hne := (List.pairwise_iff_getElem.1 hn) k j (by rw [List.length_map]; exact hkl) (by rw [List.length_map]; exact hjl) (by omega)
         apply hne
         rw [List.getElem_map, List.getElem_map]
         rw [List.getElem?_eq_getElem hkl] at hx
         rw [List.getElem?_eq_getElem hjl] at hy
         injection hx with hx
         injection hy with hy
         rw [hx, hy, e2]
       exact openAt_other hd hyc (T.has j y (by omega) hy)
     . intro z hz
       obtain ⟨j, hj⟩ := List.mem_iff_getElem?.1 hz
       have hj' : (List.modify (tiredTo r m k).1.recs i λ d => { d with t := (tiredTo r m k).1.clk, e := tiredE })[j]? = some z := hj
       rw [List.getElem?_modify] at hj'
       rcases hrj : (tiredTo r m k).1.recs[j]? with _ | y
       . rw [hrj] at hj'; split at hj' <;> cases hj'
       . rw [hrj] at hj'
         have hy := T.fr y (List.mem_of_getElem? hrj)
         split at hj' <;> (simp at hj'; subst hj'; exact hy)
   . rw [if_neg hp] at e1
     exact ⟨by rw [e1]; exact T.nrec, by rw [e1]; exact T.off, by rw [e1]; exact T.clk, by rw [e1]; have := T.nb; omega, by rw [e1]; exact T.nw, by rw [e1]; have := T.txt; omega, by rw [e1]; exact λ j y hj hy => T.has j y (by omega) hy, by rw [e1]; exact T.fr⟩
section
variable {w0 w w' : World} {lo gb k : Nat} {v0 v v' : RoomV} {r r' : RoomD}
theorem RoomAt.setClk {c : Int} (h : RoomAt w0 w lo gb k v0 v r) : RoomAt w0 (w.setCell ⟨gb, 3, none⟩ (.int .i64 c)) lo gb k v0 v { r with clk := c } := by
 have aR := h.aR; have aW := h.aW; have aB := h.aB; have aL := h.aL
 have hba := h.base
 have t := h.turn
 have kp := h.kpos
 refine ⟨(h.ok.setCell (by omega)).clock c, ⟨t.os, t.tape, t.output, by rw [World.size_setCell]; exact t.size, λ y hy e1 e2 => (Below.heap_setCell w _ _ y (by show y ≠ gb; omega)).trans (t.block y hy e1 e2)⟩, h.moved, h.base, ?_, by rw [World.size_setCell]; exact h.size, h.kpos, aR, aW, aB, aL, h.lob⟩
 rw [blk_setCell h.blk]
 rfl
theorem RoomAt.whole {n : Nat} (h : RoomAt w0 w lo gb k v0 v r) (ho : RoomOk w' lo v' r') (t : Turn v w w') (m : Moved n v v') (hn : n = w.heap.size) :
   RoomAt w0 (set8 w' gb (.int .i64 r'.o.ln) (.int .i64 r'.o.op) (.int .i64 r'.o.pt) (.int .i64 r'.clk) (v'.sR r') (v'.sW r') (v'.sB r') (v'.sL r')) lo gb k v0 v' r' := by
 obtain ⟨_, t2, m2, hb⟩ := h.turned ho t m hn
 have aR := h.aR; have aW := h.aW; have aB := h.aB; have aL := h.aL
 have mr := m.r; have mw := m.w; have mb := m.b; have ml := m.l
 have sz := h.size
 have kp := h.kpos
 have hba := h.base
 have tz := t.size
 refine ⟨ho.set8 (by omega), t2.set8 (by omega), m2, h.base, set8_blk hb, by rw [set8_size]; omega, h.kpos, by omega, by omega, by omega, by omega, h.lob⟩
end
theorem blk_set8 {w : World} {b x : Nat} {o : Obj} {a0 a1 a2 a3 a4 a5 a6 a7 : Value} (h : w.heap[x]? = some o) (hx : x ≠ b) : (set8 w b a0 a1 a2 a3 a4 a5 a6 a7).heap[x]? = some o := (set8_other hx).trans h
set_option maxHeartbeats 16000000 in
set_option maxRecDepth 20000 in
theorem l6Waits_any (lo : Nat) (v : RoomV) (r : RoomD) (m : Int) (w : World) (h : RoomOk w lo v r) (hs : RoomSmall r) (hlo : lo <= w.heap.size) (hq : WaitsOk r) (hnd : (r.wait.map CallD.c).Nodup) (hfr : ∀ d ∈ r.recs, 0 <= d.f /\ d.f <= 100000) (hm0 : 0 <= m) (hm1 : m <= 100000) :
   Calls Try.prog 99 #[.agg (roomA v r), .int .i64 m] w (StepSays lo v w (waitsF r m)) := by
 have hap := h.ap
 have HTK := Lib.hid (tiredOk (m := m) hq hnd hfr (by have := hs.clk; omega))
 have HQN := Lib.hid hq.num
 have hofp := (offB_parts hs.off).2.2.2.2
 clear hnd hfr hq
 obtain ⟨gb, hgb⟩ : ∃ g, g = w.heap.size := ⟨_, rfl⟩
 have hl := h.lts
 obtain ⟨O, hO⟩ : ∃ O : Obj, O = .cells (roomA v r) 121 := ⟨_, rfl⟩
 obtain ⟨Z, hZ⟩ : ∃ Z : Obj, Z = roomZ := ⟨_, rfl⟩
 have hk0 : ((w.alloc O).alloc Z).heap[gb]? = some (roomO v r) := by rw [hO, hgb]; exact blk_alloc (heap_alloc_new _ _) _
 have hk1 : ((w.alloc O).alloc Z).heap[gb + 1]? = some roomZ := by rw [<- hZ]; exact heap_new' _ _ (by rw [hgb]; simp)
 have hz1 : ((w.alloc O).alloc Z).heap.size = gb + 2 := by rw [hgb]; simp
 have HRA := Lib.hid (show RoomAt w ((w.alloc O).alloc Z) lo gb 2 v v r from ⟨(h.alloc O).alloc Z, Turn.of_below v (below_al (below_al (Below.refl _ _) _) _), Moved.refl _ _, hgb, hk0, by rw [hz1]; exact Nat.le_refl _, by omega, .inl (by omega), .inl (by omega), .inl (by omega), .inl (by omega), by omega⟩)
 have HZ1 := Lib.hid hz1
 have HKR := Lib.hid hk1
 have HO := Lib.hid hO
 have HZ := Lib.hid (show Z = .cells #[.int .i64 0, .int .i64 0, .int .i64 0, .int .i64 0, .slice none 0 0, .slice none 0 0, .slice none 0 0, .slice none 0 0] 121 from hZ)
 have HGB := Lib.hid hgb
 have HL := Lib.hid (show v.gR < gb /\ v.gW < gb /\ v.gB < gb /\ v.gL < gb by omega)
 clear hO hZ hgb hk0 hk1 hz1 h hl
 go_enter Try.func99, Try.ntmps99
 go_upto_region 1 with fail
 rw [<- HO.out, <- HZ.out, <- HGB.out]
 obtain ⟨W1, hW1⟩ : ∃ y, y = (w.alloc O).alloc Z := ⟨_, rfl⟩
 rw [<- hW1] at HRA HKR HZ1 ⊢
 clear hW1
 obtain ⟨n, hn⟩ : ∃ n, n = r.wait.length := ⟨_, rfl⟩
 have hnb := hs.nb
 have hnr := hs.nr
 have hnw : n <= 1000 := by rw [hn]; exact hs.nw
 have HNN := Lib.hid hn
 have hck := hs.clk
 obtain ⟨hck0, hck1⟩ := hck
 obtain ⟨ck, hck⟩ : ∃ c, c = r.clk := ⟨_, rfl⟩
 have HCK := Lib.hid hck
 rw [<- hck] at hck0 hck1
 have k := blk_cell HRA.out.blk
 have k0 := k 0
 have k1 := k 1
 have k2 := k 2
 have k3 := k 3
 have k4 := k 4
 have k5 := k 5
 have k6 := k 6
 have k7 := k 7
 clear k
 have k3' : W1.cell? ⟨gb, 3, none⟩ = some (.int .i64 ck) := by rw [k3, HCK.out]; rfl
 have kf := blk_frozen' HRA.out.blk
 clear k3 hck hn
 have HRB := Lib.hid (show RoomAt w (W1.setCell ⟨gb, 3, none⟩ (.int .i64 (ck + m))) lo gb 2 v v { r with clk := ck + m } from HRA.out.setClk)
 go_upto_region 2 with fail
 obtain ⟨W2, hW2⟩ : ∃ y, y = W1.setCell ⟨gb, 3, none⟩ (.int .i64 (ck + m)) := ⟨_, rfl⟩
 rw [<- hW2] at HRB ⊢
 have HKR2 := Lib.hid (show W2.heap[gb + 1]? = some roomZ by rw [hW2]; exact (Below.heap_setCell W1 _ _ (gb + 1) (by show gb + 1 ≠ gb; omega)).trans HKR.out)
 clear k0 k1 k2 k3' k4 k5 k6 k7 kf hW2
 obtain ⟨c2, hc2⟩ : ∃ c2 : Nat, ck + m = (c2 : Int) := ⟨(ck + m).toNat, by omega⟩
 have hc22 : c2 <= 100000000 := by omega
 have hll : (Lib.itoa (c2 : Int)).length <= 20 := by rw [Lib.itoa_nonneg]; exact dec_len (by omega)
 have HC2 := Lib.hid hc2
 have k3 := blk_cell HRB.out.blk 3
 have k3' : W2.cell? ⟨gb, 3, none⟩ = some (.int .i64 (c2 : Int)) := by rw [<- hc2]; exact k3
 clear k3 hc2
 go_upto_region 3 with (go_at_call 104; refine (l11Dec_any c2 hc22 _).mono ?_; rintro x w3 ⟨rfl, hb3⟩; have HB3 := Lib.hid hb3; clear hb3)
 have HRC := Lib.hid (HRB.out.keep HB3.out)
 have HKR3 := Lib.hid (blk_below HB3.out HKR2.out).1
 have k5 := blk_cell HRC.out.blk 5
 have k5' : w3.cell? ⟨gb, 5, none⟩ = some (.slice (some ⟨v.gW, 0, none⟩) n v.cW) := by rw [k5, HNN.out]; rfl
 clear k5 k3'
 have HTX := Lib.hid (show (⟨([97, 116, 32] ++ Lib.itoa (c2 : Int) : List UInt8).toArray⟩ : ByteArray) = ⟨(tiredTo r m 0).2.toArray⟩ by show _ = (⟨([97, 116, 32] ++ numT (r.clk + m) : List UInt8).toArray⟩ : ByteArray); rw [<- HCK.out, HC2.out]; rfl)
 have hltg := HL.out
 go_wp2_with fail
 go_loopw [6, 8] (λ t i wr => ∃ (k : Nat) (v1 : RoomV), k <= n /\ i = .int .i64 k /\ t = .string ⟨(tiredTo r m k).2.toArray⟩ /\ RoomAt w wr lo gb 2 v v1 (tiredTo r m k).1 /\ wr.heap[gb + 1]? = some roomZ /\ wr.ownsRow lo 140 2 (.slice (some ⟨v.gW, 0, none⟩) n v.cW) n (calls r.wait)) (λ _ i _ => n - (intOf i).toNat)
 case atStart =>
   refine ⟨0, v, Nat.zero_le _, rfl, ?_, ?_, HKR3.out, ?_⟩
   . rw [<- HTX.out]; congr 1
   . have e : (tiredTo r m 0).1 = { r with clk := ck + m } := by rw [HCK.out]; rfl
     rw [e]; exact HRC.out
   . have := HRC.out.ok.wt
     rw [HNN.out]; exact this
 case round =>
   obtain ⟨k, v1, hk, rfl, rfl, hat, hkr, hwt⟩ := hrel
   have T := HTK.out k (by have := HNN.out; omega)
   obtain ⟨r1, hr1⟩ : ∃ y, y = (tiredTo r m k).1 := ⟨_, rfl⟩
   obtain ⟨tx, htx⟩ : ∃ y, y = (tiredTo r m k).2 := ⟨_, rfl⟩
   have tnr := T.nrec
   have tnb := T.nb
   have tnw := T.nw
   have ttx := T.txt
   have tck := T.clk
   have tof := T.off
   have HTF := Lib.hid T.fr
   have HTH := Lib.hid T.has
   rw [<- hr1] at hat tnr tnb tnw tck tof HTF HTH
   rw [<- htx] at ttx ⊢
   have HR1 := Lib.hid hr1
   have HTXT := Lib.hid htx
   have HAT := Lib.hid hat
   have HKRR := Lib.hid hkr
   have HWT := Lib.hid hwt
   have hnr1 : r1.recs.length <= 1000 := by omega
   have hnb1 : r1.back.length <= 6000 := by omega
   have hnw1 : r1.wait.length <= 1000 := by have := hs.nw; omega
   have htx1 : tx.length <= 40000 := by omega
   have hgbz : gb + 2 <= wr.heap.size := hat.size
   have hmR := hat.moved.r
   have hmB := hat.moved.b
   have HC1 := Lib.hid tck
   have HO1 := Lib.hid tof
   clear T hr1 htx hat hkr hwt tnr tnb tnw ttx tck tof
   by_cases hlt : k < n
   . obtain ⟨bx, ox, x, hA, -, -, hxz, hxk, e0, e1⟩ := (row_slc HWT.out (by decide)).callsAt hlt
     injection hA with hA
     injection hA with hA1 hA2
     subst hA1 hA2
     simp only [Nat.zero_add] at e0 e1
     obtain ⟨i, hoi⟩ := Option.isSome_iff_exists.1 (HTH.out k x (Nat.le_refl _) hxk)
     obtain ⟨d, hd, hdc, -⟩ := openAt_get hoi
     have hxn := HQN.out x (List.mem_of_getElem? hxk)
     have hi := (List.getElem?_eq_some_iff.1 hd).1
     have hi0 : (0 : Int) <= (i : Int) := by omega
     have hi1 : (i : Int) < (r1.recs.length : Int) := by omega
     have i0 : (0 : Int) <= (k : Int) := by omega
     have i1 : (k : Int) < (n : Int) := by omega
     obtain ⟨hdf0, hdf1⟩ := HTF.out d (List.mem_of_getElem? hd)
     have HST := Lib.hid (show tiredTo r m (k + 1) = if r1.o.pt <= r1.clk - d.f then ({ endsF r1 i tiredE with back := r1.back ++ [x] }, tx ++ [32] ++ numT x.c) else (r1, tx) by
       rw [tiredTo_succ hxk, tireF_some (i := i) (d := d) (by rw [<- HR1.out]; exact hoi) (by rw [<- HR1.out]; exact hd), <- HR1.out, <- HTXT.out]; congr 1; rw [HR1.out, HTXT.out])
     have HOI := Lib.hid (posI_some hoi)
     have HD := Lib.hid hd
     have HXK := Lib.hid hxk
     obtain ⟨q, hqq⟩ : ∃ q, q = x.c := ⟨_, rfl⟩
     have HE := Lib.hid (λ nq : Nat => Calls.quiet_of (w := wr) (n := nq) ((l6Open_any lo wr.heap.size r1.recs.length v1.cR (some ⟨v1.gR, 0, none⟩) r1.recs x.c (wr.drewN nq) (have hs := HAT.out.ok.slcR; ⟨hs.len, hs.le, hs.cap, hs.at_⟩) (by omega)).mono λ e w' hh => by rw [HOI.out] at hh; exact ⟨hh.1, 0, hh.2⟩))
     obtain ⟨c0, c1, c2', c3, c4, c5, c6⟩ := HAT.out.ok.recAt hd
     clear hoi hd hdc hxk hqq
     have k := blk_cell HAT.out.blk
     have k0 := k 0
     have k1 := k 1
     have k2 := k 2
     have k3 := k 3
     have k4 := k 4
     have k5 := k 5
     have k6 := k 6
     have k7 := k 7
     clear k
     go_wp2_with fail
     go_quiet ((go_at_call 101; exact HE.out _))
     go_wp2_with fail
     obtain ⟨wq, hwq⟩ : ∃ y, y = wr.drewN nq := ⟨_, rfl⟩
     rw [<- hwq]
     have HATQ := Lib.hid (show RoomAt w wq lo gb 2 v v1 r1 by rw [hwq]; exact HAT.out.keep ⟨rfl, rfl, rfl, Nat.le_refl _, λ _ _ => rfl⟩)
     have HKRQ := Lib.hid (show wq.heap[gb + 1]? = some roomZ by rw [hwq]; exact HKRR.out)
     have HWTQ := Lib.hid (show wq.ownsRow lo 140 2 (.slice (some ⟨v.gW, 0, none⟩) n v.cW) n (calls r.wait) by rw [hwq]; exact row_keep HWT.out (λ _ _ => rfl))
     replace e0 : wq.cell? ⟨v.gW, k * 2, none⟩ = some (.int .i64 x.c) := by rw [hwq]; exact e0
     replace e1 : wq.cell? ⟨v.gW, k * 2 + 1, none⟩ = some (.int .i64 x.p) := by rw [hwq]; exact e1
     have hxq : v.gW < wq.heap.size := by rw [hwq]; exact hxz
     have hgq : gb + 2 <= wq.heap.size := by rw [hwq]; exact hgbz
     clear c0 c1 c2' c3 c4 c5 c6 k0 k1 k2 k3 k4 k5 k6 k7 hwq
     obtain ⟨c0, c1, c2', c3, c4, c5, c6⟩ := HATQ.out.ok.recAt HD.out
     have k := blk_cell HATQ.out.blk
     have k0 := k 0
     have k1 := k 1
     have k2 := k 2
     have k3 := k 3
     have k4 := k 4
     have k5 := k 5
     have k6 := k 6
     have k7 := k 7
     clear k
     have hb0 : 0 <= r1.clk := by have := HC1.out; have := HCK.out; omega
     have hb1 : r1.clk <= 200000 := by have := HC1.out; have := HCK.out; omega
     have hb2 : 1 <= r1.o.pt := by rw [HO1.out]; exact hofp.1
     have hb3 : r1.o.pt <= 60 := by rw [HO1.out]; exact hofp.2
     by_cases hp : r1.o.pt <= r1.clk - d.f
     . replace HST := Lib.hid (show tiredTo r m (k + 1) = ({ endsF r1 i tiredE with back := r1.back ++ [x] }, tx ++ [32] ++ numT x.c) by rw [HST.out, if_pos hp])
       go_quiet (fail)
       go_upto_region 9 with fail
       obtain ⟨wz, hwz⟩ : ∃ y, y = wq.drewN nq := ⟨_, rfl⟩
       rw [<- hwz]
       have HATZ := Lib.hid (show RoomAt w wz lo gb 2 v v1 r1 by rw [hwz]; exact HATQ.out.keep ⟨rfl, rfl, rfl, Nat.le_refl _, λ _ _ => rfl⟩)
       have HKRZ := Lib.hid (show wz.heap[gb + 1]? = some roomZ by rw [hwz]; exact HKRQ.out)
       have HWTZ := Lib.hid (show wz.ownsRow lo 140 2 (.slice (some ⟨v.gW, 0, none⟩) n v.cW) n (calls r.wait) by rw [hwz]; exact row_keep HWTQ.out (λ _ _ => rfl))
       have hxq2 : v.gW < wz.heap.size := by rw [hwz]; exact hxq
       have hgq2 : gb + 2 <= wz.heap.size := by rw [hwz]; exact hgq
       clear c0 c1 c2' c3 c4 c5 c6 k0 k1 k2 k3 k4 k5 k6 k7 e0 e1 hwz
       have k := blk_cell HATZ.out.blk
       have k0 := k 0
       have k1 := k 1
       have k2 := k 2
       have k3 := k 3
       have k4 := k 4
       have k5 := k 5
       have k6 := k 6
       have k7 := k 7
       clear k
       have kf := blk_frozen' HATZ.out.blk
       have a1R : v.gW ≠ v1.gR := by rcases hmR with e | e <;> omega
       have a1B : v.gW ≠ v1.gB := by rcases hmB with e | e <;> omega
       have aR := HATZ.out.aR; have aB := HATZ.out.aB
       have hg1R : gb + 1 ≠ v1.gR := by omega
       have hg1B : gb + 1 ≠ v1.gB := by omega
       have hgR : gb ≠ v1.gR := by omega
       have hgB : gb ≠ v1.gB := by omega
       have HAR := Lib.hid aR
       have HAB := Lib.hid aB
       have hlz : lo <= wz.heap.size := by have := HATZ.out.lob; omega
       clear aR aB
       go_upto_region 10 with (go_at_call 107; refine (l6Ends_any lo i v1 r1 d tiredE wz HATZ.out.ok HD.out (by omega) (by omega) hlz).mono ?_; rintro y w5 ⟨g5, c5, rfl, hok, htn, hg5⟩; obtain ⟨v5, hv5⟩ : ∃ y : RoomV, y = { v1 with gW := g5, cW := c5 } := ⟨_, rfl⟩; obtain ⟨r5, hr5⟩ : ∃ y : RoomD, y = endsF r1 i tiredE := ⟨_, rfl⟩; have kr := htn.blk HATZ.out.blk hgR hgB; have HKB5 := Lib.hid kr; have mv5 : Moved wz.heap.size v1 v5 := (by rw [hv5]; exact ⟨.inl rfl, .inr hg5, .inl rfl, rfl⟩); rw [<- hv5, <- hr5] at hok ⊢; have HV5 := Lib.hid hv5; have HR5 := Lib.hid hr5; have HTN := Lib.hid htn; have HA6 := Lib.hid (HATZ.out.whole hok htn mv5 rfl); have z := blk_cell kr; have r0 := blk_frozen' kr; have z0 := z 0; have z1 := z 1; have z2 := z 2; have z3 := z 3; have z4 := z 4; have z5 := z 5; have z6 := z 6; have z7 := z 7; clear hok htn hg5 kr z hv5 hr5 mv5)
       obtain ⟨W6, hW6⟩ : ∃ y, y = set8 w5 gb (.int .i64 r5.o.ln) (.int .i64 r5.o.op) (.int .i64 r5.o.pt) (.int .i64 r5.clk) (v5.sR r5) (v5.sW r5) (v5.sB r5) (v5.sL r5) := ⟨_, rfl⟩
       have HKR6 := Lib.hid (show W6.heap[gb + 1]? = some roomZ by rw [hW6]; exact blk_set8 (HTN.out.blk HKRZ.out hg1R hg1B) (by omega))
       have HWT6 := Lib.hid (show W6.ownsRow lo 140 2 (.slice (some ⟨v.gW, 0, none⟩) n v.cW) n (calls r.wait) by rw [hW6]; exact row_keep' HWTZ.out ((set8_other (by omega)).trans (HTN.out.block v.gW hxq2 a1R a1B)))
       rw [<- hW6] at HA6
       unfold set8 at hW6
       rw [<- hW6]
       have hgR5 : v5.gR = v1.gR := by rw [HV5.out]
       have hgB5 : v5.gB = v1.gB := by rw [HV5.out]
       have hB6 : r5.back = r1.back := by rw [HR5.out]; rfl
       have hnb6 : r5.back.length <= 6000 := by rw [hB6]; exact hnb1
       have HB6 := Lib.hid hB6
       clear hW6 z0 z1 z2 z3 z4 z5 z6 z7 r0 k0 k1 k2 k3 k4 k5 k6 k7 kf hB6
       obtain ⟨bx, ox, x', hA, -, -, hx6, hxk', e0, e1⟩ := (row_slc HWT6.out (by decide)).callsAt hlt
       injection hA with hA
       injection hA with hA1 hA2
       subst hA1 hA2
       rw [HXK.out] at hxk'
       injection hxk' with hxk'
       subst hxk'
       simp only [Nat.zero_add] at e0 e1
       have k6 := blk_cell HA6.out.blk 6
       have hgb6 : gb + 2 <= W6.heap.size := HA6.out.size
       have HS0 := Lib.hid (show W6.cell? ⟨v.gW, k * 2, none⟩ = some (.int .i64 x.c) /\ W6.cell? ⟨v.gW, k * 2 + 1, none⟩ = some (.int .i64 x.p) from ⟨e0, e1⟩)
       have kB : ∀ o : Obj, (W6.alloc o).cell? ⟨gb, 6, none⟩ = some (v5.sB r5) := λ o => cell_alloc k6 o
       have HB56 := Lib.hid hgB5
       have hB5 : v5.gB ≠ gb := by rw [hgB5]; exact Ne.symm hgB
       have hB51 : v5.gB ≠ gb + 1 := by rw [hgB5]; exact Ne.symm hg1B
       have hB5W : v5.gB ≠ v.gW := by rw [hgB5]; exact Ne.symm a1B
       have hgWb : v.gW ≠ gb := by omega
       obtain ⟨ii, hii, hz0, hz1, hz2⟩ := info_parts info_call6
       have HII := Lib.hid hii
       clear hii hgR5 hgB5 e0 e1
       obtain ⟨g1, c1, w7, hap, hown1, hgr1, B1, hat1⟩ := run_app2 (P := Try.prog) (W6.alloc (.cells #[.int .i64 x.c, .int .i64 x.p] 140)).drew 118 118 lo 140 ii (.agg #[.int .i64 0, .int .i64 0]) 2 16 Try.underlying118 HII.out hz0 hz1 hz2 rfl (by decide) v5.gB v5.cB r5.back.length (calls r5.back) (row_keep HA6.out.ok.bk (λ b hb => Below.heap_alloc _ _ b hb)) ⟨W6.heap.size, 0, none⟩ 1 1 x.cells rfl (World.news_of_block (cs := x.cells.toArray) (heap_alloc_new _ _)) (by intro u hu; simp [CallD.cells] at hu; rcases hu with rfl | rfl <;> rfl) (by unfold maxLen; omega) (by omega) (by have := HA6.out.lob; simp; omega)
       have HG1 := Lib.hid hgr1
       have HOW1 := Lib.hid hown1
       have HAT1 := Lib.hid hat1
       have kx := (blk_grown6 hgr1 (blk_alloc HA6.out.blk _) (Ne.symm hB5)).1
       have kx6 := blk_cell kx 6
       have kxf := blk_frozen' kx
       clear hown1 hgr1 B1 hat1 kx
       refine wp_WT10 W6 w7 gb v.gW _ _ v5.gB r5.back.length v5.cB g1 c1 k x.c x.p rfl rfl rfl rfl k6 HS0.out.1 HS0.out.2 (by omega) hap kx6 (kxf _) rfl ?_
       clear hap
       rw [Go.Mt.fillT_L, opsWT10_dst]
       simp only [Go.Mt.fillL, List.set_cons_zero, List.set_cons_succ, fWT10, List.getD_cons_zero, List.getD_cons_succ]
       go_upto_region 11 with fail
       have HA7 := Lib.hid (((HA6.out.alloc _).drew).appB (x := x) HG1.out HOW1.out rfl HAT1.out)
       have HKR7 := Lib.hid ((Below.heap_setCell w7 ⟨gb, 6, none⟩ (.slice (some ⟨g1, 0, none⟩) (r5.back.length + 1) c1) (gb + 1) (by show gb + 1 ≠ gb; omega)).trans (blk_grown6 HG1.out (blk_drew (blk_alloc HKR6.out _)) (Ne.symm hB51)).1)
       have HWT7 := Lib.hid (row_keep' HWT6.out ((Below.heap_setCell w7 ⟨gb, 6, none⟩ (.slice (some ⟨g1, 0, none⟩) (r5.back.length + 1) c1) v.gW (by show v.gW ≠ gb; omega)).trans ((HG1.out.block v.gW (by first | (simp; done) | (simp; omega)) (by first | (simp; done) | (simp; omega))).trans (Below.heap_alloc _ _ v.gW (by omega)))))
       obtain ⟨W7, hW7⟩ : ∃ y, y = w7.setCell ⟨gb, 6, none⟩ (.slice (some ⟨g1, 0, none⟩) (r5.back.length + 1) c1) := ⟨_, rfl⟩
       rw [<- hW7] at HA7 HKR7 HWT7 ⊢
       clear hW7 kx6 kxf k6 kB
       obtain ⟨bx, ox, x', hA, -, -, hx7, hxk', e0, e1⟩ := (row_slc HWT7.out (by decide)).callsAt hlt
       injection hA with hA
       injection hA with hA1 hA2
       subst hA1 hA2
       rw [HXK.out] at hxk'
       injection hxk' with hxk'
       subst hxk'
       simp only [Nat.zero_add] at e0 e1
       obtain ⟨p, hpx⟩ : ∃ p : Nat, x.c = (p : Int) := ⟨x.c.toNat, by omega⟩
       have hp9 : p <= 100000000 := by omega
       have hlx : (Lib.itoa (p : Int)).length <= 20 := by rw [Lib.itoa_nonneg]; exact dec_len (by omega)
       rw [hpx] at e0
       have HPX := Lib.hid hpx
       clear hpx e1
       go_wp2_with (go_at_call 104; refine (l11Dec_any p hp9 _).mono ?_; rintro y w8 ⟨rfl, hb8⟩; have HB8 := Lib.hid hb8; clear hb8)
       go_roundw
       case rel =>
         refine ⟨k + 1, { v5 with gB := g1, cB := c1 }, by omega, by go_num, ?_, ?_, (blk_below HB8.out HKR7.out).1, row_below' HWT7.out HB8.out⟩
         . rw [HST.out]; simp [bytes_app, numT, HPX.out]
         . rw [HST.out]
           have := HA7.out.keep HB8.out
           rw [HB6.out, HR5.out] at this
           exact this
       case measure => simp [intOf]; omega
     . replace HST := Lib.hid (show tiredTo r m (k + 1) = (r1, tx) by rw [HST.out, if_neg hp])
       go_quiet (fail)
       go_wp2
       go_roundw
       case rel => exact ⟨k + 1, v1, by omega, by go_num, by rw [HST.out], by rw [HST.out]; exact HATQ.out.keep ⟨rfl, rfl, rfl, Nat.le_refl _, λ _ _ => rfl⟩, HKRQ.out, row_keep HWTQ.out (λ _ _ => rfl)⟩
       case measure => simp [intOf]; omega
   . have e : k = n := by omega
     subst e
     have HAL := Lib.hid (show waitsF r m = (r1, tx) by rw [<- tiredTo_all, <- HNN.out, HR1.out, HTXT.out])
     have k := blk_cell HAT.out.blk
     have k0 := k 0
     have k1 := k 1
     have k2 := k 2
     have k3 := k 3
     have k4 := k 4
     have k5 := k 5
     have k6 := k 6
     have k7 := k 7
     clear k
     have z := blk_cell HKRR.out
     have z0 := z 0
     have z1 := z 1
     have z2 := z 2
     have z3 := z 3
     have z4 := z 4
     have z5 := z 5
     have z6 := z 6
     have z7 := z 7
     clear z
     have r0 := blk_frozen' HKRR.out
     go_wp2_with fail
     have er := blk_cell (set8_blk (a0 := .int .i64 (r1).o.ln) (a1 := .int .i64 (r1).o.op) (a2 := .int .i64 (r1).o.pt) (a3 := .int .i64 (r1).clk) (a4 := (v1).sR (r1)) (a5 := (v1).sW (r1)) (a6 := (v1).sB (r1)) (a7 := (v1).sL (r1)) HKRR.out)
     refine bodyPost_ret (v := .tuple #[.agg (roomA (v1) (r1)), .string ⟨(tx : List UInt8).toArray⟩]) ?_ rfl ?_
     . unfold set8 at er
       simp [results, Try.results99, go_sem, er]
     . rw [HAL.out]
       obtain ⟨d1, d2, d3⟩ := HAT.out.done (b := gb + 1) (by omega)
       exact ⟨v1, rfl, d1, d2, d3⟩
end Go.Proofs.Ytjcpjijihajopaa
namespace Go.Proofs.Ytjcpjijihajopaa
open Go.RowKit
structure RoomGood (r : RoomD) : Prop where
 small : RoomSmall r
 waits : WaitsOk r
 nodup : (r.wait.map CallD.c).Nodup
 backs : ∀ x ∈ r.back, 1 <= x.c /\ x.c <= 99
 froms : ∀ d ∈ r.recs, 0 <= d.f /\ d.f <= 100000
theorem event_a {ops : Int} {e : EventD} (h : eventB ops e = true) (ho : ops <= 4) : 0 <= e.a /\ e.a <= 100000 := by
 have h := of_decide_eq_true h
 unfold eventP at h
 omega
abbrev eventO (e : EventD) : Obj := .cells #[.string e.k, .int .i64 e.a, .int .i64 e.b] 132
set_option maxHeartbeats 16000000 in
set_option maxRecDepth 20000 in
theorem l6Step_any (lo : Nat) (v : RoomV) (r : RoomD) (e : EventD) (w : World) (h : RoomOk w lo v r) (hs : RoomGood r) (hlo : lo <= w.heap.size) (he : eventB r.o.op e = true) :
   Calls Try.prog 94 #[.agg (roomA v r), .agg #[.string e.k, .int .i64 e.a, .int .i64 e.b]] w (StepSays lo v w (offStep r e)) := by
 obtain ⟨ha0, ha1⟩ := event_a he (offB_parts hs.small.off).2.2.2.1
 obtain ⟨gb, hgb⟩ : ∃ g, g = w.heap.size := ⟨_, rfl⟩
 have hl := h.lts
 obtain ⟨O, hO⟩ : ∃ O : Obj, O = .cells (roomA v r) 121 := ⟨_, rfl⟩
 obtain ⟨C, hC⟩ : ∃ C : Obj, C = eventO e := ⟨_, rfl⟩
 obtain ⟨Z, hZ⟩ : ∃ Z : Obj, Z = roomZ := ⟨_, rfl⟩
 have hk0 : (((w.alloc O).alloc C).alloc Z).heap[gb]? = some (roomO v r) := by rw [hO, hgb]; exact blk_alloc (blk_alloc (heap_alloc_new _ _) _) _
 have hke : (((w.alloc O).alloc C).alloc Z).heap[gb + 1]? = some (eventO e) := by rw [hC, hgb]; exact blk_alloc (heap_new' _ _ (by simp)) _
 have hk1 : (((w.alloc O).alloc C).alloc Z).heap[gb + 2]? = some roomZ := by rw [<- hZ]; exact heap_new' _ _ (by rw [hgb]; simp)
 have hz1 : (((w.alloc O).alloc C).alloc Z).heap.size = gb + 3 := by rw [hgb]; simp
 have HRA := Lib.hid (show RoomAt w (((w.alloc O).alloc C).alloc Z) lo gb 3 v v r from ⟨((h.alloc O).alloc C).alloc Z, Turn.of_below v (below_al (below_al (below_al (Below.refl _ _) _) _) _), Moved.refl _ _, hgb, hk0, by rw [hz1]; exact Nat.le_refl _, by omega, .inl (by omega), .inl (by omega), .inl (by omega), .inl (by omega), by omega⟩)
 have HZ1 := Lib.hid hz1
 have HKR := Lib.hid hk1
 have HKE := Lib.hid hke
 have HO := Lib.hid hO
 have HC := Lib.hid (show C = .cells #[.string e.k, .int .i64 e.a, .int .i64 e.b] 132 from hC)
 have HZ := Lib.hid (show Z = .cells #[.int .i64 0, .int .i64 0, .int .i64 0, .int .i64 0, .slice none 0 0, .slice none 0 0, .slice none 0 0, .slice none 0 0] 121 from hZ)
 have HGB := Lib.hid hgb
 have HL := Lib.hid (show v.gR < gb /\ v.gW < gb /\ v.gB < gb /\ v.gL < gb by omega)
 clear hO hC hZ hgb hk0 hk1 hke hz1 h hl
 go_enter Try.func94, Try.ntmps94
 go_upto_region 1 with fail
 rw [<- HO.out, <- HC.out, <- HZ.out, <- HGB.out]
 obtain ⟨W1, hW1⟩ : ∃ y, y = ((w.alloc O).alloc C).alloc Z := ⟨_, rfl⟩
 rw [<- hW1] at HRA HKR HKE HZ1 ⊢
 clear hW1
 have k := blk_cell HRA.out.blk
 have k0 := k 0
 have k1 := k 1
 have k2 := k 2
 have k3 := k 3
 have k4 := k 4
 have k5 := k 5
 have k6 := k 6
 have k7 := k 7
 clear k
 have q := blk_cell HKE.out
 have q0 := q 0
 have q1 := q 1
 have q2 := q 2
 clear q
 have hl := HL.out
 have hgR : gb + 2 ≠ v.gR := by omega
 have hgB : gb + 2 ≠ v.gB := by omega
 have hlz : lo <= W1.heap.size := by have := HRA.out.lob; have := HZ1.out; omega
 clear hl
 cases h0 : (e.k.toList == [114, 105, 110, 103])
 case true =>
   have HST := Lib.hid (show offStep r e = ringsF r ⟨e.a, e.b⟩ by unfold offStep; rw [if_pos (show e.k.toList = ringW from eq_of_beq h0)])
   go_wp2_with (go_at_call 95; refine (l6Rings_any lo v r ⟨e.a, e.b⟩ W1 HRA.out.ok hs.small hlz).mono ?_; rintro y w5 ⟨v5, rfl, hok, htn, hmv⟩; obtain ⟨r5, hr5⟩ : ∃ y : RoomD, y = (ringsF r ⟨e.a, e.b⟩).1 := ⟨_, rfl⟩; obtain ⟨t5, ht5⟩ : ∃ y : List UInt8, y = (ringsF r ⟨e.a, e.b⟩).2 := ⟨_, rfl⟩; rw [<- hr5] at hok ⊢; rw [<- ht5]; have HR5 := Lib.hid hr5; have HT5 := Lib.hid ht5; have HOK := Lib.hid hok; have HTN := Lib.hid htn; have HMV := Lib.hid hmv; have kr := htn.blk HKR.out hgR hgB; have HKR5 := Lib.hid kr; have z := blk_cell kr; have r0 := blk_frozen' kr; have z0 := z 0; have z1 := z 1; have z2 := z 2; have z3 := z 3; have z4 := z 4; have z5 := z 5; have z6 := z 6; have z7 := z 7; clear hr5 ht5 hok htn hmv kr z)
   have er := blk_cell (set8_blk (a0 := .int .i64 (r5).o.ln) (a1 := .int .i64 (r5).o.op) (a2 := .int .i64 (r5).o.pt) (a3 := .int .i64 (r5).clk) (a4 := (v5).sR (r5)) (a5 := (v5).sW (r5)) (a6 := (v5).sB (r5)) (a7 := (v5).sL (r5)) HKR5.out)
   refine bodyPost_ret (v := .tuple #[.agg (roomA (v5) (r5)), .string ⟨(t5 : List UInt8).toArray⟩]) ?_ rfl ?_
   . unfold set8 at er
     simp [results, Try.results94, go_sem, er]
   . rw [HST.out]
     have hl := HL.out
     have hz := HZ1.out
     have hgb := HGB.out
     have mr := HMV.out.r; have mw := HMV.out.w; have mb := HMV.out.b; have ml := HMV.out.l
     refine ⟨v5, by rw [HR5.out, HT5.out], by rw [<- HR5.out]; exact HOK.out.set8 (by omega), (HRA.out.turn.same HTN.out).set8 (by omega), ⟨mr.imp id (λ x => by omega), mw.imp id (λ x => by omega), mb.imp id (λ x => by omega), ml⟩⟩
 case false =>
   cases h1 : (e.k.toList == [97, 110, 115, 119, 101, 114])
   case true =>
     have HST := Lib.hid (show offStep r e = answersF r e.a by unfold offStep; rw [if_neg (by intro e2; rw [e2] at h0; exact absurd h0 (by decide))]; rw [if_pos (show e.k.toList = answerW from eq_of_beq h1)])
     go_wp2_with (go_at_call 96; refine (l6Answers_any lo v r e.a W1 HRA.out.ok hs.small hlz hs.waits).mono ?_; rintro y w5 ⟨v5, rfl, hok, htn, hmv⟩; obtain ⟨r5, hr5⟩ : ∃ y : RoomD, y = (answersF r e.a).1 := ⟨_, rfl⟩; obtain ⟨t5, ht5⟩ : ∃ y : List UInt8, y = (answersF r e.a).2 := ⟨_, rfl⟩; rw [<- hr5] at hok ⊢; rw [<- ht5]; have HR5 := Lib.hid hr5; have HT5 := Lib.hid ht5; have HOK := Lib.hid hok; have HTN := Lib.hid htn; have HMV := Lib.hid hmv; have kr := htn.blk HKR.out hgR hgB; have HKR5 := Lib.hid kr; have z := blk_cell kr; have r0 := blk_frozen' kr; have z0 := z 0; have z1 := z 1; have z2 := z 2; have z3 := z 3; have z4 := z 4; have z5 := z 5; have z6 := z 6; have z7 := z 7; clear hr5 ht5 hok htn hmv kr z)
     have er := blk_cell (set8_blk (a0 := .int .i64 (r5).o.ln) (a1 := .int .i64 (r5).o.op) (a2 := .int .i64 (r5).o.pt) (a3 := .int .i64 (r5).clk) (a4 := (v5).sR (r5)) (a5 := (v5).sW (r5)) (a6 := (v5).sB (r5)) (a7 := (v5).sL (r5)) HKR5.out)
     refine bodyPost_ret (v := .tuple #[.agg (roomA (v5) (r5)), .string ⟨(t5 : List UInt8).toArray⟩]) ?_ rfl ?_
     . unfold set8 at er
       simp [results, Try.results94, go_sem, er]
     . rw [HST.out]
       have hl := HL.out
       have hz := HZ1.out
       have hgb := HGB.out
       have mr := HMV.out.r; have mw := HMV.out.w; have mb := HMV.out.b; have ml := HMV.out.l
       refine ⟨v5, by rw [HR5.out, HT5.out], by rw [<- HR5.out]; exact HOK.out.set8 (by omega), (HRA.out.turn.same HTN.out).set8 (by omega), ⟨mr.imp id (λ x => by omega), mw.imp id (λ x => by omega), mb.imp id (λ x => by omega), ml⟩⟩
   case false =>
     cases h2 : (e.k.toList == [114, 101, 116, 117, 114, 110])
     case true =>
       have HST := Lib.hid (show offStep r e = returnsF r e.a by unfold offStep; rw [if_neg (by intro e2; rw [e2] at h0; exact absurd h0 (by decide))]; rw [if_neg (by intro e2; rw [e2] at h1; exact absurd h1 (by decide))]; rw [if_pos (show e.k.toList = returnW from eq_of_beq h2)])
       go_wp2_with (go_at_call 97; refine (l6Returns_any lo v r e.a W1 HRA.out.ok hs.small hlz hs.backs).mono ?_; rintro y w5 ⟨v5, rfl, hok, htn, hmv⟩; obtain ⟨r5, hr5⟩ : ∃ y : RoomD, y = (returnsF r e.a).1 := ⟨_, rfl⟩; obtain ⟨t5, ht5⟩ : ∃ y : List UInt8, y = (returnsF r e.a).2 := ⟨_, rfl⟩; rw [<- hr5] at hok ⊢; rw [<- ht5]; have HR5 := Lib.hid hr5; have HT5 := Lib.hid ht5; have HOK := Lib.hid hok; have HTN := Lib.hid htn; have HMV := Lib.hid hmv; have kr := htn.blk HKR.out hgR hgB; have HKR5 := Lib.hid kr; have z := blk_cell kr; have r0 := blk_frozen' kr; have z0 := z 0; have z1 := z 1; have z2 := z 2; have z3 := z 3; have z4 := z 4; have z5 := z 5; have z6 := z 6; have z7 := z 7; clear hr5 ht5 hok htn hmv kr z)
       have er := blk_cell (set8_blk (a0 := .int .i64 (r5).o.ln) (a1 := .int .i64 (r5).o.op) (a2 := .int .i64 (r5).o.pt) (a3 := .int .i64 (r5).clk) (a4 := (v5).sR (r5)) (a5 := (v5).sW (r5)) (a6 := (v5).sB (r5)) (a7 := (v5).sL (r5)) HKR5.out)
       refine bodyPost_ret (v := .tuple #[.agg (roomA (v5) (r5)), .string ⟨(t5 : List UInt8).toArray⟩]) ?_ rfl ?_
       . unfold set8 at er
         simp [results, Try.results94, go_sem, er]
       . rw [HST.out]
         have hl := HL.out
         have hz := HZ1.out
         have hgb := HGB.out
         have mr := HMV.out.r; have mw := HMV.out.w; have mb := HMV.out.b; have ml := HMV.out.l
         refine ⟨v5, by rw [HR5.out, HT5.out], by rw [<- HR5.out]; exact HOK.out.set8 (by omega), (HRA.out.turn.same HTN.out).set8 (by omega), ⟨mr.imp id (λ x => by omega), mw.imp id (λ x => by omega), mb.imp id (λ x => by omega), ml⟩⟩
     case false =>
       cases h3 : (e.k.toList == [104, 97, 110, 103])
       case true =>
         have HST := Lib.hid (show offStep r e = hangsF r e.a by unfold offStep; rw [if_neg (by intro e2; rw [e2] at h0; exact absurd h0 (by decide))]; rw [if_neg (by intro e2; rw [e2] at h1; exact absurd h1 (by decide))]; rw [if_neg (by intro e2; rw [e2] at h2; exact absurd h2 (by decide))]; rw [if_pos (show e.k.toList = hangW from eq_of_beq h3)])
         go_wp2_with (go_at_call 98; refine (l6Hangs_any lo v r e.a W1 HRA.out.ok hs.small hlz).mono ?_; rintro y w5 ⟨v5, rfl, hok, htn, hmv⟩; obtain ⟨r5, hr5⟩ : ∃ y : RoomD, y = (hangsF r e.a).1 := ⟨_, rfl⟩; obtain ⟨t5, ht5⟩ : ∃ y : List UInt8, y = (hangsF r e.a).2 := ⟨_, rfl⟩; rw [<- hr5] at hok ⊢; rw [<- ht5]; have HR5 := Lib.hid hr5; have HT5 := Lib.hid ht5; have HOK := Lib.hid hok; have HTN := Lib.hid htn; have HMV := Lib.hid hmv; have kr := htn.blk HKR.out hgR hgB; have HKR5 := Lib.hid kr; have z := blk_cell kr; have r0 := blk_frozen' kr; have z0 := z 0; have z1 := z 1; have z2 := z 2; have z3 := z 3; have z4 := z 4; have z5 := z 5; have z6 := z 6; have z7 := z 7; clear hr5 ht5 hok htn hmv kr z)
         have er := blk_cell (set8_blk (a0 := .int .i64 (r5).o.ln) (a1 := .int .i64 (r5).o.op) (a2 := .int .i64 (r5).o.pt) (a3 := .int .i64 (r5).clk) (a4 := (v5).sR (r5)) (a5 := (v5).sW (r5)) (a6 := (v5).sB (r5)) (a7 := (v5).sL (r5)) HKR5.out)
         refine bodyPost_ret (v := .tuple #[.agg (roomA (v5) (r5)), .string ⟨(t5 : List UInt8).toArray⟩]) ?_ rfl ?_
         . unfold set8 at er
           simp [results, Try.results94, go_sem, er]
         . rw [HST.out]
           have hl := HL.out
           have hz := HZ1.out
           have hgb := HGB.out
           have mr := HMV.out.r; have mw := HMV.out.w; have mb := HMV.out.b; have ml := HMV.out.l
           refine ⟨v5, by rw [HR5.out, HT5.out], by rw [<- HR5.out]; exact HOK.out.set8 (by omega), (HRA.out.turn.same HTN.out).set8 (by omega), ⟨mr.imp id (λ x => by omega), mw.imp id (λ x => by omega), mb.imp id (λ x => by omega), ml⟩⟩
       case false =>
         have HST := Lib.hid (show offStep r e = waitsF r e.a by unfold offStep; rw [if_neg (by intro e2; rw [e2] at h0; exact absurd h0 (by decide))]; rw [if_neg (by intro e2; rw [e2] at h1; exact absurd h1 (by decide))]; rw [if_neg (by intro e2; rw [e2] at h2; exact absurd h2 (by decide))]; rw [if_neg (by intro e2; rw [e2] at h3; exact absurd h3 (by decide))])
         go_wp2_with (go_at_call 99; refine (l6Waits_any lo v r e.a W1 HRA.out.ok hs.small hlz hs.waits hs.nodup hs.froms ha0 ha1).mono ?_; rintro y w5 ⟨v5, rfl, hok, htn, hmv⟩; obtain ⟨r5, hr5⟩ : ∃ y : RoomD, y = (waitsF r e.a).1 := ⟨_, rfl⟩; obtain ⟨t5, ht5⟩ : ∃ y : List UInt8, y = (waitsF r e.a).2 := ⟨_, rfl⟩; rw [<- hr5] at hok ⊢; rw [<- ht5]; have HR5 := Lib.hid hr5; have HT5 := Lib.hid ht5; have HOK := Lib.hid hok; have HTN := Lib.hid htn; have HMV := Lib.hid hmv; have kr := htn.blk HKR.out hgR hgB; have HKR5 := Lib.hid kr; have z := blk_cell kr; have r0 := blk_frozen' kr; have z0 := z 0; have z1 := z 1; have z2 := z 2; have z3 := z 3; have z4 := z 4; have z5 := z 5; have z6 := z 6; have z7 := z 7; clear hr5 ht5 hok htn hmv kr z)
         have er := blk_cell (set8_blk (a0 := .int .i64 (r5).o.ln) (a1 := .int .i64 (r5).o.op) (a2 := .int .i64 (r5).o.pt) (a3 := .int .i64 (r5).clk) (a4 := (v5).sR (r5)) (a5 := (v5).sW (r5)) (a6 := (v5).sB (r5)) (a7 := (v5).sL (r5)) HKR5.out)
         refine bodyPost_ret (v := .tuple #[.agg (roomA (v5) (r5)), .string ⟨(t5 : List UInt8).toArray⟩]) ?_ rfl ?_
         . unfold set8 at er
           simp [results, Try.results94, go_sem, er]
         . rw [HST.out]
           have hl := HL.out
           have hz := HZ1.out
           have hgb := HGB.out
           have mr := HMV.out.r; have mw := HMV.out.w; have mb := HMV.out.b; have ml := HMV.out.l
           refine ⟨v5, by rw [HR5.out, HT5.out], by rw [<- HR5.out]; exact HOK.out.set8 (by omega), (HRA.out.turn.same HTN.out).set8 (by omega), ⟨mr.imp id (λ x => by omega), mw.imp id (λ x => by omega), mb.imp id (λ x => by omega), ml⟩⟩
end Go.Proofs.Ytjcpjijihajopaa
namespace Go.Proofs.Ytjcpjijihajopaa
open Go.RowKit
structure RInv (b : RoomD) : Prop where
 off : offB b.o = true
 clk : 0 <= b.clk
 nodup : (b.wait.map CallD.c).Nodup
 hasrec : ∀ x ∈ b.wait, (openAt b.recs x.c).isSome = true
 recB : ∀ d ∈ b.recs, 1 <= d.c /\ d.c <= 99 /\ 1 <= d.l /\ d.l <= 6 /\ 0 <= d.o /\ d.o <= 4 /\ 0 <= d.f /\ d.f <= b.clk
 waitB : ∀ x ∈ b.wait, 1 <= x.c /\ x.c <= 99
 backB : ∀ x ∈ b.back, 1 <= x.c /\ x.c <= 99
structure RCnt (b : RoomD) (k : Nat) : Prop where
 clk : b.clk <= 60 * k
 nrec : b.recs.length <= k
 nw : b.wait.length <= k
 nb : b.back.length <= 60 * k
 nl : b.log.length = k
theorem RInv.good {b : RoomD} {k : Nat} (h : RInv b) (c : RCnt b k) (hk : k <= 60) : RoomGood b :=
 ⟨⟨h.off, by have := c.nrec; omega, by have := c.nw; omega, by have := c.nb; omega, by have := c.nl; omega, ⟨h.clk, by have := c.clk; omega⟩⟩, ⟨h.hasrec, h.waitB⟩, h.nodup, h.backB,
  λ d hd => by have := h.recB d hd; have := c.clk; omega⟩
theorem RInv.zero {o : OffD} (h : offB o = true) : RInv (room0 o) := ⟨h, Int.le_refl _, List.nodup_nil, λ x hx => (by cases hx), λ d hd => (by cases hd), λ x hx => (by cases hx), λ x hx => (by cases hx)⟩
theorem RCnt.zero (o : OffD) : RCnt (room0 o) 0 := ⟨Int.le_refl _, Nat.le_refl _, Nat.le_refl _, Nat.le_refl _, rfl⟩
theorem withoutF_mem {xs : List CallD} {q : Int} {x : CallD} (h : x ∈ withoutF xs q) : x ∈ xs /\ x.c ≠ q := by
 unfold withoutF at h
 rw [List.mem_filter] at h
 exact ⟨h.1, by simpa using h.2⟩
theorem withoutF_nodup {xs : List CallD} {q : Int} (h : (xs.map CallD.c).Nodup) : ((withoutF xs q).map CallD.c).Nodup :=
 List.Nodup.sublist (List.Sublist.map _ List.filter_sublist) h
theorem mem_modify {rs : List RecD} {i : Nat} {f : RecD -> RecD} {z : RecD} (h : z ∈ rs.modify i f) : ∃ d ∈ rs, z = d \/ z = f d := by
 obtain ⟨j, hj⟩ := List.mem_iff_getElem?.1 h
 rw [List.getElem?_modify] at hj
 rcases hrj : rs[j]? with _ | y
 . rw [hrj] at hj; cases hj
 . rw [hrj] at hj
   refine ⟨y, List.mem_of_getElem? hrj, ?_⟩
   simp at hj
   split at hj
   . exact .inr hj.symm
   . exact .inl hj.symm
theorem openAt_append {rs qs : List RecD} {c : Int} (h : (openAt rs c).isSome = true) : (openAt (rs ++ qs) c).isSome = true := by
 rw [openAt_isSome] at *
 rw [List.any_append, h]; rfl
theorem openAt_same {rs : List RecD} {i : Nat} {f : RecD -> RecD} {c : Int} (hf : ∀ d, (f d).c = d.c /\ (f d).e = d.e) (h : (openAt rs c).isSome = true) : (openAt (rs.modify i f) c).isSome = true := by
 rw [openAt_isSome, List.any_eq_true] at *
 obtain ⟨x, hx, hp⟩ := h
 obtain ⟨j, hj, e⟩ := List.mem_iff_getElem.1 hx
 have hp2 : openP c (f x) = true := by unfold openP isOpen at *; rw [(hf x).1, (hf x).2]; exact hp
 by_cases hji : i = j
 . refine ⟨f x, List.mem_iff_getElem?.2 ⟨j, ?_⟩, hp2⟩
   rw [List.getElem?_modify, List.getElem?_eq_getElem hj, e]
   simp [hji]
 . refine ⟨x, List.mem_iff_getElem?.2 ⟨j, ?_⟩, hp⟩
   rw [List.getElem?_modify, List.getElem?_eq_getElem hj, e]
   simp [hji]
theorem RInv.ends {b : RoomD} {i : Nat} {d : RecD} (h : RInv b) (hd : b.recs[i]? = some d) (e : ByteArray) : RInv (endsF b i e) := by
 refine ⟨h.off, h.clk, withoutF_nodup h.nodup, ?_, ?_, λ x hx => h.waitB x (withoutF_mem hx).1, h.backB⟩
 . intro x hx
   have hx : x ∈ withoutF b.wait (callAt b.recs i) := hx
   rw [callAt_some hd] at hx
   obtain ⟨h1, h2⟩ := withoutF_mem hx
   exact openAt_other hd (Ne.symm h2) (h.hasrec x h1)
 . intro z hz
   obtain ⟨y, hy, e1 | e1⟩ := mem_modify hz
   . subst e1; exact h.recB _ hy
   . subst e1; exact h.recB y hy
theorem RInv.tire {b : RoomD} {t : List UInt8} {x : CallD} (h : RInv b) (hx : 1 <= x.c /\ x.c <= 99) : RInv (tireF (b, t) x).1 := by
 rcases ho : openAt b.recs x.c with _ | i
 . have : tireF (b, t) x = (b, t) := by unfold tireF; simp only [ho]
   rw [this]; exact h
 . obtain ⟨d, hd, -, -⟩ := openAt_get ho
   rw [tireF_some (bt := (b, t)) ho hd]
   split
   . have e := h.ends hd tiredE
     exact ⟨e.off, e.clk, e.nodup, e.hasrec, e.recB, e.waitB, λ y hy => by
       rw [List.mem_append] at hy
       rcases hy with hy | hy
       . exact h.backB y hy
       . simp at hy; subst hy; exact hx⟩
   . exact h
theorem RInv.tires : ∀ (xs : List CallD) (b : RoomD) (t : List UInt8), RInv b -> (∀ x ∈ xs, 1 <= x.c /\ x.c <= 99) -> RInv (xs.foldl tireF (b, t)).1
 | [], b, t, h, _ => h
 | x :: xs, b, t, h, hx => by
   rw [List.foldl_cons]
   have h1 := h.tire (t := t) (hx x (by simp))
   obtain ⟨b', t', e⟩ : ∃ b' t', tireF (b, t) x = (b', t') := ⟨_, _, rfl⟩
   rw [e] at h1 ⊢
   exact RInv.tires xs b' t' h1 (λ y hy => hx y (by simp [hy]))
theorem freeF_le {o : OffD} {rs : List RecD} {l : Int} (ho : offB o = true) (h : l ∈ freeF o rs) : 1 <= l /\ l <= 6 := by
 have := freeF_mem h
 have := (offB_parts ho).2.1
 omega
theorem queuedF_perm (xs : List CallD) (c : CallD) : (queuedF xs c).Perm (c :: xs) := by
 unfold queuedF
 refine (List.perm_middle).trans ?_
 rw [List.takeWhile_append_dropWhile]
theorem queuedF_len (xs : List CallD) (c : CallD) : (queuedF xs c).length = xs.length + 1 := by rw [(queuedF_perm xs c).length_eq]; rfl
theorem eventP_ring {ops : Int} {e : EventD} (h : eventB ops e = true) (he : e.k.toList = ringW) : 1 <= e.a /\ e.a <= 99 := by
 have h := of_decide_eq_true h
 unfold eventP at h
 rcases h with h | h | ⟨h | h, _⟩ | h
 . omega
 all_goals (first | (rw [h.1] at he; exact absurd he (by decide)) | (rw [h] at he; exact absurd he (by decide)))
theorem eventP_op {ops : Int} {e : EventD} (h : eventB ops e = true) (he : e.k.toList = answerW \/ e.k.toList = returnW) : 1 <= e.a /\ e.a <= ops := by
 have h := of_decide_eq_true h
 unfold eventP at h
 rcases h with h | h | h | h
 . rw [h.1] at he; exact absurd he (by decide)
 . rw [h.1] at he; exact absurd he (by decide)
 . exact ⟨h.2.1, h.2.2.1⟩
 . rw [h.1] at he; exact absurd he (by decide)
theorem eventP_wait {ops : Int} {e : EventD} (h : eventB ops e = true) (h1 : e.k.toList ≠ ringW) (h2 : e.k.toList ≠ answerW) (h3 : e.k.toList ≠ returnW) (h4 : e.k.toList ≠ hangW) : 1 <= e.a /\ e.a <= 60 := by
 have h := of_decide_eq_true h
 unfold eventP at h
 rcases h with h | h | ⟨h | h, _⟩ | h
 . exact absurd h.1 h1
 . exact absurd h.1 h4
 . exact absurd h h2
 . exact absurd h h3
 . exact ⟨h.2.1, h.2.2.1⟩
theorem openB_list : openB.toList = [111, 112, 101, 110] := by decide +kernel
theorem RInv.step {b : RoomD} {e : EventD} {k : Nat} (h : RInv b) (hc : RCnt b k) (he : eventB b.o.op e = true) (hk : k <= 60) : RInv (offStep b e).1 /\ RCnt (logF (offStep b e)) (k + 1) /\ (offStep b e).1.o = b.o /\ (offStep b e).1.log = b.log := by
 have hob := offB_parts h.off
 have c1 := hc.clk
 have c2 := hc.nrec
 have c3 := hc.nw
 have c4 := hc.nb
 have c5 := hc.nl
 have key : ∀ bt : RoomD × List UInt8, RInv bt.1 -> bt.1.o = b.o -> bt.1.log = b.log -> bt.1.clk <= b.clk + 60 -> bt.1.recs.length <= b.recs.length + 1 -> bt.1.wait.length <= b.wait.length + 1 -> bt.1.back.length <= b.back.length + 60 -> RInv bt.1 /\ RCnt (logF bt) (k + 1) /\ bt.1.o = b.o /\ bt.1.log = b.log := by
   intro bt hi ho hl hclk hr hw hbk
   refine ⟨hi, ⟨by show bt.1.clk <= _; omega, by show bt.1.recs.length <= _; omega, by show bt.1.wait.length <= _; omega, by show bt.1.back.length <= _; omega, ?_⟩, ho, hl⟩
   show (bt.1.log ++ [bt.2]).length = _
   rw [List.length_append, hl, c5]; rfl
 have same : ∀ t, RInv (b, t).1 /\ RCnt (logF (b, t)) (k + 1) /\ (b, t).1.o = b.o /\ (b, t).1.log = b.log := λ t => key (b, t) h rfl rfl (by show b.clk <= _; omega) (by show b.recs.length <= _; omega) (by show b.wait.length <= _; omega) (by show b.back.length <= _; omega)
 unfold offStep
 by_cases e1 : e.k.toList = ringW
 . rw [if_pos e1]
   obtain ⟨a1, a2⟩ := eventP_ring he e1
   unfold ringsF
   split
   . exact same _
   . rename_i hno
     rw [Bool.or_eq_true, not_or] at hno
     rcases hf : freeF b.o b.recs with _ | ⟨l, fs⟩
     . refine key (_, _) ⟨h.off, h.clk, h.nodup, h.hasrec, h.recB, h.waitB, λ x hx => ?_⟩ rfl rfl ?_ ?_ ?_ ?_
       . rw [List.mem_append] at hx
         rcases hx with hx | hx
         . exact h.backB x hx
         . simp at hx; subst hx; exact ⟨a1, a2⟩
       all_goals simp only [List.length_append, List.length_cons, List.length_nil]
       all_goals omega
     . have hlb := freeF_le h.off (l := l) (by rw [hf]; simp)
       refine key (_, _) ⟨h.off, h.clk, ?_, ?_, ?_, ?_, h.backB⟩ rfl rfl ?_ ?_ ?_ ?_
       . show ((queuedF b.wait ⟨e.a, e.b⟩).map CallD.c).Nodup
         refine ((queuedF_perm b.wait ⟨e.a, e.b⟩).map CallD.c).nodup_iff.2 ?_
         rw [List.map_cons, List.nodup_cons]
         refine ⟨λ hm => ?_, h.nodup⟩
         obtain ⟨x, hx, hxe⟩ := List.mem_map.1 hm
         have := h.hasrec x hx
         rw [hxe] at this
         exact hno.1 this
       . intro x hx
         have hx := (queuedF_perm b.wait ⟨e.a, e.b⟩).mem_iff.1 hx
         rcases List.mem_cons.1 hx with rfl | hx
         . show (openAt (b.recs ++ _) e.a).isSome = true
           rw [openAt_isSome, List.any_append]
           have : openP e.a ⟨e.a, l, 0, b.clk, -1, -1, openB⟩ = true := by unfold openP isOpen; simp; exact openB_list
           simp [this]
         . exact openAt_append (h.hasrec x hx)
       . intro d hd
         rcases List.mem_append.1 hd with hd | hd
         . exact h.recB d hd
         . simp at hd; subst hd
           have := h.clk
           simp only; omega
       . intro x hx
         have hx := (queuedF_perm b.wait ⟨e.a, e.b⟩).mem_iff.1 hx
         rcases List.mem_cons.1 hx with rfl | hx
         . exact ⟨a1, a2⟩
         . exact h.waitB x hx
       all_goals simp only [List.length_append, List.length_cons, List.length_nil, queuedF_len]
       all_goals omega
 rw [if_neg e1]
 by_cases e2 : e.k.toList = answerW
 . rw [if_pos e2]
   obtain ⟨a1, a2⟩ := eventP_op he (.inl e2)
   by_cases htk : 0 < talksF b.recs e.a
   . have e9 : answersF b e.a = (b, [116, 97, 108, 107, 115]) := by unfold answersF; rw [if_pos htk]
     rw [e9]; exact same _
   . rcases hw : b.wait with _ | ⟨c, cs⟩
     . have e9 : answersF b e.a = (b, [110, 111, 110, 101]) := by unfold answersF; rw [if_neg htk, hw]
       rw [e9]; exact same _
     . rcases ho : openAt b.recs c.c with _ | i
       . have e9 : answersF b e.a = (b, []) := by unfold answersF; rw [if_neg htk, hw]; simp only [ho]
         rw [e9]; exact same _
       . have e9 : answersF b e.a = ({ b with recs := b.recs.modify i λ d => { d with o := e.a, h := b.clk }, wait := withoutF b.wait c.c }, [99, 97, 108, 108, 32] ++ numT c.c) := by unfold answersF; rw [if_neg htk, hw]; simp only [ho]
         rw [e9]
         refine key (_, _) ⟨h.off, h.clk, withoutF_nodup h.nodup, ?_, ?_, ?_, h.backB⟩ rfl rfl ?_ ?_ ?_ ?_
         . intro x hx
           exact openAt_same (λ d => ⟨rfl, rfl⟩) (h.hasrec x (withoutF_mem hx).1)
         . intro z hz
           obtain ⟨y, hy, q | q⟩ := mem_modify hz
           . subst q; exact h.recB _ hy
           . subst q
             have := h.recB y hy
             simp only; omega
         . intro x hx
           exact h.waitB x (withoutF_mem hx).1
         all_goals simp only [List.length_modify]
         . omega
         . omega
         . have := withoutF_len b.wait c.c; omega
         . omega
 rw [if_neg e2]
 by_cases e3 : e.k.toList = returnW
 . rw [if_pos e3]
   obtain ⟨a1, a2⟩ := eventP_op he (.inr e3)
   by_cases htk : 0 < talksF b.recs e.a
   . have e9 : returnsF b e.a = (b, [116, 97, 108, 107, 115]) := by unfold returnsF; rw [if_pos htk]
     rw [e9]; exact same _
   . rcases hw : b.back with _ | ⟨c, cs⟩
     . have e9 : returnsF b e.a = (b, [110, 111, 110, 101]) := by unfold returnsF; rw [if_neg htk, hw]
       rw [e9]; exact same _
     . rcases hf : freeF b.o b.recs with _ | ⟨l, fs⟩
       . have e9 : returnsF b e.a = (b, [98, 117, 115, 121]) := by unfold returnsF; rw [if_neg htk, hw]; simp only [hf]
         rw [e9]; exact same _
       . have e9 : returnsF b e.a = ({ b with back := withoutF b.back c.c, recs := b.recs ++ [⟨c.c, l, e.a, b.clk, b.clk, -1, openB⟩] }, [99, 97, 108, 108, 32] ++ numT c.c) := by unfold returnsF; rw [if_neg htk, hw]; simp only [hf]
         rw [e9]
         have hlb := freeF_le h.off (l := l) (by rw [hf]; simp)
         have hcb := h.backB c (by rw [hw]; simp)
         refine key (_, _) ⟨h.off, h.clk, h.nodup, λ x hx => openAt_append (h.hasrec x hx), ?_, h.waitB, ?_⟩ rfl rfl ?_ ?_ ?_ ?_
         . intro d hd
           rcases List.mem_append.1 hd with hd | hd
           . exact h.recB d hd
           . simp at hd; subst hd
             have := h.clk
             simp only; omega
         . intro x hx
           exact h.backB x (withoutF_mem hx).1
         all_goals simp only [List.length_append, List.length_cons, List.length_nil]
         . omega
         . omega
         . omega
         . have := withoutF_len b.back c.c; omega
 rw [if_neg e3]
 by_cases e4 : e.k.toList = hangW
 . rw [if_pos e4]
   rcases ho : openAt b.recs e.a with _ | i
   . by_cases hf : (findC6 b.back e.a).isSome = true
     . have e9 : hangsF b e.a = ({ b with back := withoutF b.back e.a }, [111, 102, 102]) := by unfold hangsF; simp only [ho]; rw [if_pos hf]
       rw [e9]
       refine key (_, _) ⟨h.off, h.clk, h.nodup, h.hasrec, h.recB, h.waitB, λ x hx => h.backB x (withoutF_mem hx).1⟩ rfl rfl ?_ ?_ ?_ ?_
       all_goals simp only
       . omega
       . omega
       . omega
       . have := withoutF_len b.back e.a; omega
     . have e9 : hangsF b e.a = (b, [103, 111, 110, 101]) := by unfold hangsF; simp only [ho]; rw [if_neg hf]
       rw [e9]; exact same _
   . obtain ⟨d, hd, -, -⟩ := openAt_get ho
     have hw := withoutF_len b.wait (callAt b.recs i)
     have end1 : ∀ (E : ByteArray) (t : List UInt8), RInv (endsF b i E, t).1 /\ RCnt (logF (endsF b i E, t)) (k + 1) /\ (endsF b i E, t).1.o = b.o /\ (endsF b i E, t).1.log = b.log := λ E t => by
       refine key (_, _) (h.ends hd _) rfl rfl ?_ ?_ ?_ ?_
       . show b.clk <= _; omega
       . show (List.modify _ _ _).length <= _; rw [List.length_modify]; omega
       . show (withoutF b.wait (callAt b.recs i)).length <= _; omega
       . show b.back.length <= _; omega
     by_cases hp : 0 < opAt b.recs i
     . have e9 : hangsF b e.a = (endsF b i doneE, [100, 111, 110, 101]) := by unfold hangsF; simp only [ho]; rw [if_pos hp]
       rw [e9]; exact end1 _ _
     . have e9 : hangsF b e.a = (endsF b i leftE, [108, 101, 102, 116]) := by unfold hangsF; simp only [ho]; rw [if_neg hp]
       rw [e9]; exact end1 _ _
 rw [if_neg e4]
 obtain ⟨a1, a2⟩ := eventP_wait he e1 e2 e3 e4
 have hcl := h.clk
 have T := tiredOk (r := b) (m := e.a) ⟨h.hasrec, h.waitB⟩ h.nodup (λ d hd => by have := h.recB d hd; omega) (by omega) b.wait.length (Nat.le_refl _)
 have t1 := T.nrec; have t2 := T.off; have t3 := T.clk; have t4 := T.nb; have t5 := T.nw
 rw [tiredTo_all] at t1 t2 t3 t4 t5
 have hlog : ∀ (xs : List CallD) (bt : RoomD × List UInt8), (xs.foldl tireF bt).1.log = bt.1.log := by
   intro xs
   induction xs with
   | nil => intro bt; rfl
   | cons x xs ih =>
     intro bt
     rw [List.foldl_cons, ih]
     unfold tireF
     split
     . rfl
     . split <;> rfl
 refine key (waitsF b e.a) ?_ t2 (hlog _ _) ?_ ?_ ?_ ?_
 . unfold waitsF
   refine RInv.tires _ _ _ ⟨h.off, by show 0 <= b.clk + e.a; omega, h.nodup, h.hasrec, λ d hd => ?_, h.waitB, h.backB⟩ h.waitB
   have := h.recB d hd
   show _ /\ _ /\ _ /\ _ /\ _ /\ _ /\ _ /\ d.f <= b.clk + e.a
   omega
 . omega
 . omega
 . omega
 . omega
def offTo (o : OffD) (es : List EventD) (k : Nat) : RoomD := (es.take k).foldl (λ b e => logF (offStep b e)) (room0 o)
theorem offTo_succ {o : OffD} {es : List EventD} {k : Nat} {e : EventD} (h : es[k]? = some e) : offTo o es (k + 1) = logF (offStep (offTo o es k) e) := by
 unfold offTo
 rw [List.take_add_one, h, List.foldl_append]; rfl
theorem offTo_all (o : OffD) (es : List EventD) : offTo o es es.length = offRun o es := by unfold offTo offRun; rw [List.take_of_length_le (Nat.le_refl _)]
theorem offTo_ok {o : OffD} {es : List EventD} (h : officeOk o es = true) : ∀ k, k <= es.length -> RInv (offTo o es k) /\ RCnt (offTo o es k) k /\ (offTo o es k).o = o
 | 0, _ => by
   have h1 : offB o = true := by unfold officeOk at h; simp at h; exact h.1.1
   exact ⟨RInv.zero h1, RCnt.zero o, rfl⟩
 | k + 1, hk => by
   obtain ⟨i1, i2, i3⟩ := offTo_ok h k (by omega)
   obtain ⟨e, he⟩ : ∃ e, es[k]? = some e := ⟨es[k], List.getElem?_eq_getElem (by omega)⟩
   have hv : eventB o.op e = true := by
     unfold officeOk at h
     simp only [Bool.and_eq_true, List.all_eq_true] at h
     exact h.2 e (List.mem_of_getElem? he)
   have hl : es.length <= 60 := by unfold officeOk at h; simp at h; exact h.1.2
   obtain ⟨j1, j2, j3, j4⟩ := i1.step i2 (e := e) (by rw [i3]; exact hv) (by omega)
   rw [offTo_succ he]
   exact ⟨⟨j1.off, j1.clk, j1.nodup, j1.hasrec, j1.recB, j1.waitB, j1.backB⟩, j2, by show (offStep _ e).1.o = o; rw [j3, i3]⟩
end Go.Proofs.Ytjcpjijihajopaa
namespace Go.Proofs.Ytjcpjijihajopaa
open Go.RowKit
set_option maxHeartbeats 4000000 in
theorem OfficeValid_any (o : OffD) (w : World) :
   Calls Try.prog 93 #[.agg #[.int .i64 o.ln, .int .i64 o.op, .int .i64 o.pt]] w λ x w' => x = .returned (.bool (offB o)) /\ Below w.heap.size w w' := by
 go_enter Try.func93, Try.ntmps93
 go_wp2_with ((go_at_call 31; refine (l1In_any _ _ _ _).mono ?_; rintro e w' ⟨rfl, rfl⟩))
 all_goals go_ret
 all_goals refine ⟨ret_bool ?_, ((Below.refl _ _).alloc (Nat.le_refl _) _)⟩
 all_goals rw [Bool.eq_iff_iff]
 all_goals simp [offB, inB] at *
 all_goals grind
set_option maxHeartbeats 8000000 in
theorem l6Event_any (e : EventD) (ops : Int) (w : World) :
   Calls Try.prog 92 #[.agg #[.string e.k, .int .i64 e.a, .int .i64 e.b], .int .i64 ops] w λ x w' => x = .returned (.bool (eventB ops e)) /\ Below w.heap.size w w' := by
 go_enter Try.func92, Try.ntmps92
 go_wp2_with ((go_at_call 31; refine (l1In_any _ _ _ _).mono ?_; rintro e w' ⟨rfl, rfl⟩))
 all_goals go_ret
 all_goals refine ⟨ret_bool ?_, ((Below.refl _ _).alloc (Nat.le_refl _) _)⟩
 all_goals rw [Bool.eq_iff_iff]
 all_goals simp [eventB, eventP, inB, ringW, hangW, answerW, returnW, waitW] at *
 all_goals grind
end Go.Proofs.Ytjcpjijihajopaa
