/-
  Lines and deeds: the plain law.
-/
import Derived.Test.YtojnnemodikpeaaDoorDeedS
namespace Go.Proofs.YtojnnemodikpeaaDoor
set_option linter.unusedVariables false
def putA : List UInt8 := [112, 117, 116]
def takeA : List UInt8 := [116, 97, 107, 101]
def endA : List UInt8 := [101, 110, 100]
def lookA : List UInt8 := [108, 111, 111, 107]
/-- A deed that can be done with so many lines. -/
def deedP (lines : Int) (d : DeedD) : Prop :=
  (d.act.toList = putA ∨ d.act.toList = takeA ∨ d.act.toList = endA ∨ d.act.toList = lookA) ∧ 0 ≤ d.a ∧ d.a ≤ lines ∧ 0 ≤ d.b ∧ d.b ≤ 1000 ∧ (d.act.toList = putA ∨ d.b = 0)
instance (lines : Int) (d : DeedD) : Decidable (deedP lines d) := by unfold deedP; infer_instance
def deedB (lines : Int) (d : DeedD) : Bool := decide (deedP lines d)
def roomB (x : Int) : Bool := inB x 0 8
def roomsB (rooms : List Int) : Bool := decide (1 ≤ rooms.length ∧ rooms.length ≤ 6) && rooms.all roomB
def deedsB (rooms : List Int) (ds : List DeedD) : Bool := roomsB rooms && decide (ds.length ≤ 60) && ds.all (deedB rooms.length)
/-- A line: its room, what it holds, whether it is ended, what was taken from it. -/
structure Ln where
  room : Int
  held : List Int
  ended : Bool
  taken : List Int
def tNever : List UInt8 := [110, 101, 118, 101, 114]
def tEnded : List UInt8 := [101, 110, 100, 101, 100]
def tEmpty : List UInt8 := [101, 109, 112, 116, 121]
def tEnd : List UInt8 := [101, 110, 100]
def tFull : List UInt8 := [102, 117, 108, 108]
def tPut : List UInt8 := [112, 117, 116]
def tTook (x : Int) : List UInt8 := [116, 111, 111, 107, 32] ++ Lib.itoa x
/-- A line after a deed, and the answer. -/
def doneF (l : Ln) (d : DeedD) : Ln × List UInt8 :=
  if d.act.toList = lookA then (l, Lib.itoa l.held.length)
  else if d.a = 0 then (l, tNever)
  else match d.act.toList == takeA, l.held with
    | true, x :: xs => ({ l with held := xs, taken := l.taken ++ [x] }, tTook x)
    | t, h =>
      if l.ended then (l, tEnded)
      else if t then (l, tEmpty)
      else if d.act.toList = endA then ({ l with ended := true }, tEnd)
      else if l.room ≤ h.length then (l, tFull)
      else ({ l with held := h ++ [d.b] }, tPut)
def openF (rooms : List Int) : List Ln := ⟨0, [], false, []⟩ :: rooms.map fun r => ⟨r, [], false, []⟩
/-- Lines after one deed more. -/
def stepF (s : List Ln × List (List UInt8)) (d : DeedD) : List Ln × List (List UInt8) :=
  let r := doneF (s.1.getD d.a.toNat ⟨0, [], false, []⟩) d
  (s.1.set d.a.toNat r.1, s.2 ++ [r.2])
def runF (rooms : List Int) (ds : List DeedD) : List Ln × List (List UInt8) := ds.foldl stepF (openF rooms, [])
theorem runF_take {rooms : List Int} {ds : List DeedD} {k : Nat} {d : DeedD} (h : ds[k]? = some d) : runF rooms (ds.take (k + 1)) = stepF (runF rooms (ds.take k)) d := by
  obtain ⟨hk, e⟩ := List.getElem?_eq_some_iff.1 h
  unfold runF
  rw [List.take_succ_eq_append_getElem hk, List.foldl_append, e]; rfl
theorem openF_len (rooms : List Int) : (openF rooms).length = rooms.length + 1 := by simp [openF]
theorem stepF_len (s : List Ln × List (List UInt8)) (d : DeedD) : (stepF s d).1.length = s.1.length := by simp [stepF]
theorem runF_len (rooms : List Int) (ds : List DeedD) : (runF rooms ds).1.length = rooms.length + 1 ∧ (runF rooms ds).2.length = ds.length := by
  unfold runF
  have : ∀ (ds : List DeedD) (s : List Ln × List (List UInt8)), (ds.foldl stepF s).1.length = s.1.length ∧ (ds.foldl stepF s).2.length = s.2.length + ds.length := by
    intro ds
    induction ds with
    | nil => intro s; simp
    | cons d ds ih =>
      intro s
      rw [List.foldl_cons]
      obtain ⟨h1, h2⟩ := ih (stepF s d)
      refine ⟨by rw [h1, stepF_len], ?_⟩
      rw [h2]; simp [stepF]; omega
  obtain ⟨h1, h2⟩ := this ds (openF rooms, [])
  exact ⟨by rw [h1]; exact openF_len rooms, by rw [h2]; simp⟩
theorem deedB_of {lines : Int} {d : DeedD} (h : deedB lines d = true) : deedP lines d := by simpa [deedB] using h
theorem deedsB_of {rooms : List Int} {ds : List DeedD} (h : deedsB rooms ds = true) : (1 ≤ rooms.length ∧ rooms.length ≤ 6) ∧ (∀ r ∈ rooms, 0 ≤ r ∧ r ≤ 8) ∧ ds.length ≤ 60 ∧ ∀ d ∈ ds, deedP rooms.length d := by
  unfold deedsB roomsB at h
  simp only [Bool.and_eq_true, decide_eq_true_eq, List.all_eq_true] at h
  obtain ⟨⟨⟨h1, h2⟩, h3⟩, h4⟩ := h
  exact ⟨h1, fun r hr => by have := h2 r hr; simpa [roomB, inB] using this, h3, fun d hd => deedB_of (h4 d hd)⟩
end Go.Proofs.YtojnnemodikpeaaDoor
