/-
  The random source of the reference: l11Open, pick, num, of.
-/
import Derived.Test.YtojnnemodikpeaaDoorBase
import Derived.Laws.BitsAllLaws
import Derived.Laws.BitsLemmas
import Derived.Laws.AppendOwn
namespace Go.Proofs.YtojnnemodikpeaaDoor
open Go.RowKit
theorem gb_setCell {w : World} (a : Addr) (v : Value) : w.grownBy (w.setCell a v) (some a.block) :=
  ⟨rfl, rfl, rfl, by simp [World.setCell], fun i hi hne => Below.heap_setCell w a v i (fun e => hne (by rw [e]))⟩
theorem gb_drewN {a w : World} {row : Option Nat} (h : a.grownBy w row) (n : Nat) : a.grownBy (w.drewN n) row := ⟨h.os, h.tape, h.output, h.size, h.block⟩
theorem gb_trans {a b c : World} {row : Option Nat} (h : a.grownBy b row) (k : b.grownBy c row) : a.grownBy c row :=
  ⟨k.os.trans h.os, k.tape.trans h.tape, k.output.trans h.output, Nat.le_trans h.size k.size, fun i hi hne => (k.block i (Nat.lt_of_lt_of_le hi h.size) hne).trans (h.block i hi hne)⟩
theorem gb_below {a w : World} (h : Below a.heap.size a w) (row : Option Nat) : a.grownBy w row := ⟨h.os, h.tape, h.output, h.size, fun i hi _ => h.block i hi⟩
theorem below_of_gb {B g : Nat} {a w : World} (h : a.grownBy w (some g)) (hB : B ≤ g) (hg : B ≤ a.heap.size) : Below B a w :=
  ⟨h.os, h.tape, h.output, h.size, fun i hi => h.block i (Nat.lt_of_lt_of_le hi hg) (by simp; omega)⟩
theorem blk_setCell {w : World} {g i : Nat} {cs : Array Value} {T : TypeId} {fz : Nat × Nat} (h : w.heap[g]? = some (.cells cs T fz)) (v : Value) : (w.setCell ⟨g, i, none⟩ v).heap[g]? = some (.cells (cs.setIfInBounds i v) T fz) := by
  simp [World.setCell, Array.getElem?_modify, h]
/-- The bytes that the source reads: n of them from (b, off) on, in a block other than g. -/
structure Bytes (w : World) (g : Nat) (A : Option Addr) (n : Nat) : Prop where
  le : n ≤ 2000
  at_ : 0 < n → ∃ b off, A = some ⟨b, off, none⟩ ∧ b < g ∧ ∀ j, j < n → ∃ v : Int, w.cell? ⟨b, off + j, none⟩ = some (.int .u8 v) ∧ 0 ≤ v ∧ v ≤ 255
theorem Bytes.keep {w w' : World} {g n : Nat} {A : Option Addr} (h : Bytes w g A n) (k : ∀ b, b < g → w'.heap[b]? = w.heap[b]?) : Bytes w' g A n :=
  ⟨h.le, fun hn => by
    obtain ⟨b, off, e, hb, hj⟩ := h.at_ hn
    refine ⟨b, off, e, hb, fun j hjn => ?_⟩
    obtain ⟨v, hv, h0⟩ := hj j hjn
    exact ⟨v, (World.cell?_of_block (k b hb)).trans hv, h0⟩⟩
/-- The source in block g: its bytes and how many were taken. -/
structure RdX (w : World) (g : Nat) (A : Option Addr) (n c p : Nat) : Prop where
  blk : w.heap[g]? = some (.cells #[.slice A n c, .int .i64 (p : Int)] 104)
  bytes : Bytes w g A n
  lt : p < 1000000000
/-- An answer that is a number with a property, the source some steps on, and all else as it was. -/
def Drew (w : World) (g : Nat) (A : Option Addr) (n c p d : Nat) (K : Int → Prop) (e : Ending) (w' : World) : Prop :=
  ∃ r : Int, e = .returned (.int .i64 r) ∧ K r ∧ w'.heap[g]? = some (.cells #[.slice A n c, .int .i64 ((p + d : Nat) : Int)] 104) ∧ w.grownBy w' (some g)
set_option maxHeartbeats 2000000 in
theorem pick_zero (g p n c : Nat) (A : Option Addr) (m : Int) (w : World) (h : RdX w g A n c p) (hm : m < 1 ∨ n = 0) :
    Calls Tryd.prog 94 #[.pointer (some ⟨g, 0, none⟩), .int .i64 m] w (Drew w g A n c p 1 fun r => r = 0) := by
  have hc := blk_cell h.blk
  have hf : ∀ o, w.frozen? ⟨g, o, none⟩ = false := fun o => by simp [World.frozen?, h.blk]
  have hp := h.lt
  have hb := h.blk
  have hn := h.bytes.le
  have HB := Lib.hid hb
  clear h hb
  by_cases hm1 : m < 1
  · clear hm
    go_enter Tryd.func94, Tryd.ntmps94
    go_wp2
    go_ret
    exact ⟨0, rfl, rfl, (blk_setCell HB.out _).trans (by simp), gb_setCell _ _⟩
  · have hn0 : n = 0 := by rcases hm with h | h; exact absurd h hm1; exact h
    subst hn0
    clear hm
    go_enter Tryd.func94, Tryd.ntmps94
    go_wp2
    go_ret
    exact ⟨0, rfl, rfl, (blk_setCell HB.out _).trans (by simp), gb_setCell _ _⟩
set_option maxHeartbeats 2000000 in
theorem pick_byte (g p n c : Nat) (A : Option Addr) (m : Int) (w : World) (h : RdX w g A n c p) (hm : 1 ≤ m) (hm2 : m ≤ 1000000) (hpn : p < n) :
    Calls Tryd.prog 94 #[.pointer (some ⟨g, 0, none⟩), .int .i64 m] w (Drew w g A n c p 1 fun r => 0 ≤ r ∧ r < m) := by
  have hc := blk_cell h.blk
  have hf : ∀ o, w.frozen? ⟨g, o, none⟩ = false := fun o => by simp [World.frozen?, h.blk]
  have hp := h.lt
  have hb := h.blk
  have hn := h.bytes.le
  have HB := Lib.hid hb
  obtain ⟨b, off, rfl, hbl, hj⟩ := h.bytes.at_ (by omega)
  obtain ⟨v, hv, v0, v1⟩ := hj p hpn
  have hn0 : ((n : Int) == 0) = false := by simp; omega
  have hm0 : (m == 0) = false := by simp; omega
  clear h hb hj
  go_enter Tryd.func94, Tryd.ntmps94
  go_wp2
  go_ret
  exact ⟨_, rfl, ⟨Int.emod_nonneg _ (by omega), Int.emod_lt_of_pos _ (by omega)⟩, (blk_setCell HB.out _).trans (by simp), gb_setCell _ _⟩
theorem xor_nonneg (x y : Int) (hx : 0 ≤ x) (hx2 : x < 9223372036854775808) (hy : 0 ≤ y) (hy2 : y < 9223372036854775808) : 0 ≤ bits .xor .i64 x y := by
  obtain ⟨a, rfl⟩ := Int.eq_ofNat_of_zero_le hx
  obtain ⟨b, rfl⟩ := Int.eq_ofNat_of_zero_le hy
  have ha : a < 9223372036854775808 := by omega
  have hb : b < 9223372036854775808 := by omega
  have e : ∀ z : Nat, z < 9223372036854775808 → (BitVec.ofInt 64 (z : Int)).toNat = z := fun z hz => by
    rw [BitVec.ofInt_natCast, BitVec.toNat_ofNat]; exact Nat.mod_eq_of_lt (by omega)
  have hlt : a ^^^ b < 2 ^ 63 := Nat.xor_lt_two_pow (by omega) (by omega)
  show 0 ≤ IntKind.i64.wrap ((BitVec.ofInt 64 (a : Int) ^^^ BitVec.ofInt 64 (b : Int)).toNat : Int)
  rw [BitVec.toNat_xor, e a ha, e b hb, IntKind.wrap_i64]
  omega
set_option maxHeartbeats 4000000 in
theorem pick_mix (g p n c : Nat) (A : Option Addr) (m : Int) (w : World) (h : RdX w g A n c p) (hm : 1 ≤ m) (hm2 : m ≤ 1000000) (hpn : ¬ p < n) (h0 : 0 < n) :
    Calls Tryd.prog 94 #[.pointer (some ⟨g, 0, none⟩), .int .i64 m] w (Drew w g A n c p 1 fun r => 0 ≤ r ∧ r < m) := by
  have hc := blk_cell h.blk
  have hf : ∀ o, w.frozen? ⟨g, o, none⟩ = false := fun o => by simp [World.frozen?, h.blk]
  have hp := h.lt
  have hb := h.blk
  have hn := h.bytes.le
  have HB := Lib.hid hb
  obtain ⟨b, off, rfl, hbl, hj⟩ := h.bytes.at_ h0
  have hnz : (0 : Int) < n := by omega
  have i1 : (0 : Int) ≤ (p : Int) % n := Int.emod_nonneg _ (by omega)
  have i2 : (p : Int) % n < n := Int.emod_lt_of_pos _ hnz
  have i3 : (0 : Int) ≤ ((p : Int) * 7 + 3) % n := Int.emod_nonneg _ (by omega)
  have i4 : ((p : Int) * 7 + 3) % n < n := Int.emod_lt_of_pos _ hnz
  have q0 : (0 : Int) ≤ (p : Int) / n := Int.ediv_nonneg (by omega) (by omega)
  have q1 : (p : Int) / n ≤ 1000000000 := Int.le_trans (Int.ediv_le_self _ (by omega)) (by omega)
  obtain ⟨v, hv, v0, v1⟩ := hj (p % n) (Nat.mod_lt _ h0)
  obtain ⟨u, hu, u0, u1⟩ := hj ((p * 7 + 3) % n) (Nat.mod_lt _ h0)
  have hn0 : ((n : Int) == 0) = false := by simp; omega
  have hm0 : (m == 0) = false := by simp; omega
  clear h hb hj
  go_enter Tryd.func94, Tryd.ntmps94
  go_wp2
  go_quiet (fail)
  go_wp2
  go_ret
  have hx := xor_nonneg (v * 131 + u * 1117 + ↑p * 29 + ↑p / ↑n * 53) ((v * 131 + u * 1117 + ↑p * 29 + ↑p / ↑n * 53) / 64) (by omega) (by omega) (by omega) (by omega)
  exact ⟨_, rfl, ⟨Int.tmod_nonneg _ hx, Int.tmod_lt_of_pos _ (by omega)⟩, (blk_setCell HB.out _).trans (by simp), gb_drewN (gb_setCell _ _) _⟩
theorem Drew.mono {w w' : World} {g n c p d : Nat} {A : Option Addr} {K K' : Int → Prop} {e : Ending} (h : Drew w g A n c p d K e w') (hk : ∀ r, K r → K' r) : Drew w g A n c p d K' e w' :=
  let ⟨r, he, hr, hb, hg⟩ := h; ⟨r, he, hk r hr, hb, hg⟩
theorem pick_anyX (g p n c : Nat) (A : Option Addr) (m : Int) (w : World) (h : RdX w g A n c p) (hm : 1 ≤ m) (hm2 : m ≤ 1000000) :
    Calls Tryd.prog 94 #[.pointer (some ⟨g, 0, none⟩), .int .i64 m] w (Drew w g A n c p 1 fun r => 0 ≤ r ∧ r < m) := by
  by_cases h0 : n = 0
  · exact (pick_zero g p n c A m w h (.inr h0)).mono fun _ _ hd => hd.mono fun r hr => by omega
  · by_cases hp : p < n
    · exact pick_byte g p n c A m w h hm hm2 hp
    · exact pick_mix g p n c A m w h hm hm2 hp (by omega)
theorem RdX.next {w w' : World} {g n c p d : Nat} {A : Option Addr} (h : RdX w g A n c p) (hb : w'.heap[g]? = some (.cells #[.slice A n c, .int .i64 ((p + d : Nat) : Int)] 104)) (hg : w.grownBy w' (some g)) (hp : p + d < 1000000000) : RdX w' g A n c (p + d) :=
  ⟨hb, h.bytes.keep fun b hl => hg.block b (Nat.lt_trans hl (blk_lt h.blk)) (by simp; omega), hp⟩
theorem gb_cell {w w' : World} {g b o : Nat} (h : w.grownBy w' (some g)) (hb : b < w.heap.size) (hne : b ≠ g) : w'.cell? ⟨b, o, none⟩ = w.cell? ⟨b, o, none⟩ :=
  World.cell?_of_block (h.block b hb (by simp; exact hne))
theorem gb_al {a w : World} {row : Option Nat} (h : a.grownBy w row) (o : Obj) : a.grownBy (w.alloc o) row :=
  ⟨h.os, h.tape, h.output, Nat.le_trans h.size (by simp), fun i hi hne => (Below.heap_alloc w o i (Nat.lt_of_lt_of_le hi h.size)).trans (h.block i hi hne)⟩
theorem blk_grown {W w1 : World} {N g : Nat} {o : Obj} (hb : W.grownBy w1 (some g)) (hN : W.heap[N]? = some o) (hne : N ≠ g) : w1.heap[N]? = some o ∧ N < w1.heap.size :=
  ⟨(hb.block N (blk_lt hN) (by simp; exact hne)).trans hN, Nat.lt_of_lt_of_le (blk_lt hN) hb.size⟩
/-- The source in block g, of which at most q numbers were taken. -/
def Rd (w : World) (g : Nat) (A : Option Addr) (n c q : Nat) : Prop := ∃ p, p ≤ q ∧ RdX w g A n c p
theorem Rd.mono {w : World} {g n c q q' : Nat} {A : Option Addr} (h : Rd w g A n c q) (hq : q ≤ q') : Rd w g A n c q' := let ⟨p, hp, hx⟩ := h; ⟨p, by omega, hx⟩
theorem Rd.keep {w w' : World} {g n c q : Nat} {A : Option Addr} (h : Rd w g A n c q) (k : ∀ b, b ≤ g → w'.heap[b]? = w.heap[b]?) : Rd w' g A n c q :=
  let ⟨p, hp, hx⟩ := h; ⟨p, hp, (k g (Nat.le_refl _)).trans hx.blk, hx.bytes.keep fun b hb => k b (by omega), hx.lt⟩
theorem Rd.gblt {w : World} {g n c q : Nat} {A : Option Addr} (h : Rd w g A n c q) : g < w.heap.size := let ⟨_, _, hx⟩ := h; blk_lt hx.blk
theorem Rd.alloc {w : World} {g n c q : Nat} {A : Option Addr} (h : Rd w g A n c q) (o : Obj) : Rd (w.alloc o) g A n c q :=
  h.keep fun b hb => Below.heap_alloc w o b (Nat.lt_of_le_of_lt hb h.gblt)
theorem Rd.setCell {w : World} {g n c q : Nat} {A : Option Addr} (h : Rd w g A n c q) {a : Addr} (ha : g < a.block) (v : Value) : Rd (w.setCell a v) g A n c q :=
  h.keep fun b hb => Below.heap_setCell w a v b (by omega)
theorem Rd.drewN {w : World} {g n c q : Nat} {A : Option Addr} (h : Rd w g A n c q) (k : Nat) : Rd (w.drewN k) g A n c q := h.keep fun _ _ => rfl
theorem Rd.below {w w' : World} {g n c q : Nat} {A : Option Addr} (h : Rd w g A n c q) (hb : Below w.heap.size w w') : Rd w' g A n c q :=
  h.keep fun b hl => hb.block b (Nat.lt_of_le_of_lt hl h.gblt)
theorem gb_set {a w : World} {row : Option Nat} (h : a.grownBy w row) {p : Addr} (hp : a.heap.size ≤ p.block) (v : Value) : a.grownBy (w.setCell p v) row :=
  ⟨h.os, h.tape, h.output, by simpa [World.setCell] using h.size, fun i hi hne => (Below.heap_setCell w p v i (by omega)).trans (h.block i hi hne)⟩
theorem blk_frozen {w : World} {N : Nat} {cs : Array Value} {T : TypeId} (h : w.heap[N]? = some (.cells cs T)) (o : Nat) : w.frozen? ⟨N, o, none⟩ = false := by simp [World.frozen?, h]
/-- An answer that is a number with a property; at most q numbers are taken then; all else as it was. -/
def Got (w : World) (g : Nat) (A : Option Addr) (n c q : Nat) (K : Int → Prop) (e : Ending) (w' : World) : Prop :=
  ∃ r : Int, e = .returned (.int .i64 r) ∧ K r ∧ Rd w' g A n c q ∧ w.grownBy w' (some g)
theorem got_of {w w' : World} {g n c p q : Nat} {A : Option Addr} {K : Int → Prop} {e : Ending} (hx : RdX w g A n c p) (hp : p ≤ q) (hq : q + 1 < 1000000000) (h : Drew w g A n c p 1 K e w') : Got w g A n c (q + 1) K e w' := by
  obtain ⟨r, he, hr, hb, hg⟩ := h
  exact ⟨r, he, hr, ⟨p + 1, by omega, hx.next hb hg (by omega)⟩, hg⟩
theorem pick_any (g q n c : Nat) (A : Option Addr) (m : Int) (w : World) (h : Rd w g A n c q) (hq : q + 1 < 1000000000) (hm : 1 ≤ m) (hm2 : m ≤ 1000000) :
    Calls Tryd.prog 94 #[.pointer (some ⟨g, 0, none⟩), .int .i64 m] w (Got w g A n c (q + 1) fun r => 0 ≤ r ∧ r < m) := by
  obtain ⟨p, hp, hx⟩ := h
  exact (pick_anyX g p n c A m w hx hm hm2).mono fun _ _ hd => got_of hx hp hq hd
set_option maxHeartbeats 2000000 in
theorem num_any (g q n c l lo k kc : Nat) (A : Option Addr) (w : World) (h : Rd w g A n c q) (hq : q + 1 < 1000000000) (hk : 0 < k) (hk2 : k ≤ 1000000) (hl : l < w.heap.size) (hlg : l ≠ g)
    (hc : ∀ j, j < k → ∃ v : Int, w.cell? ⟨l, lo + j, none⟩ = some (.int .i64 v)) :
    Calls Tryd.prog 81 #[.pointer (some ⟨g, 0, none⟩), .slice (some ⟨l, lo, none⟩) k kc] w (Got w g A n c (q + 1) fun _ => True) := by
  have H := Lib.hid hc
  clear hc
  go_enter Tryd.func81, Tryd.ntmps81
  go_wp2_with fail
  refine (pick_any g q n c A _ _ h hq (by omega) (by omega)).mono ?_
  rintro e w1 ⟨r, rfl, ⟨r0, r1⟩, hr, hg⟩
  obtain ⟨v, hv⟩ := H.out r.toNat (by omega)
  have hv1 := (gb_cell hg hl hlg).trans hv
  clear hv
  go_wp2
  go_ret
  exact ⟨v, rfl, trivial, hr, hg⟩
theorem cells_of_blk {w : World} {l : Nat} {cs : Array Value} {T : TypeId} {fz : Nat × Nat} (h : w.heap[l]? = some (.cells cs T fz)) (k : Nat) (hk : ∀ j, j < k → ∃ v : Int, cs[j]? = some (.int .i64 v)) :
    ∀ j, j < k → ∃ v : Int, w.cell? ⟨l, 0 + j, none⟩ = some (.int .i64 v) := fun j hj => by
  obtain ⟨v, hv⟩ := hk j hj
  exact ⟨v, by rw [Nat.zero_add, blk_cell h, hv]⟩
end Go.Proofs.YtojnnemodikpeaaDoor
