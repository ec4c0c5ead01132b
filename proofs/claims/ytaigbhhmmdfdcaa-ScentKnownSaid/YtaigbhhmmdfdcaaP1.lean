/- Scent, plainly: shops, batches, truths, and what the functions say of them. -/
namespace Go.Proofs.Ytaigbhhmmdfdcaa
structure Thing where
  name : ByteArray
  kind : Int
  limit : Int
  weak : Int
  fade : Int
instance : Inhabited Thing := ⟨⟨ByteArray.empty, 0, 0, 0, 0⟩⟩
structure Lot where
  name : ByteArray
  parts : List (Int × Int)
instance : Inhabited Lot := ⟨⟨ByteArray.empty, []⟩⟩
structure Shop where
  things : List Thing
  lots : List Lot
structure Bat where
  grams : List Int
  back : List Int
  added : List (Int × Int)
instance : Inhabited Bat := ⟨⟨[], [], []⟩⟩
structure Tru where
  lots : List (List Int)
  back : List (List Int)
  added : List Int

def outOne (lo hi n : Int) : Bool := decide (n < lo) || decide (hi < n)
def outB (lo hi : Int) (l : List Int) : Bool := l.any (outOne lo hi)
/-- A letter (its byte), after another one, that makes a string no name. -/
def badN (last c : Int) : Bool := (c != 45 && (decide (c < 97) || decide (122 < c))) || (c == 45 && last == 45)
def nameL : Int → List UInt8 → Bool
  | last, [] => last != 45
  | last, c :: cs => !badN last c.toNat && nameL c.toNat cs
/-- A string is a name. -/
def nameB (s : ByteArray) : Bool := nameL 45 s.data.toList && decide (s.size ≤ 20)

/-- The first thing with an error: its index and its error; else 0, 0. -/
def findE : List Int → Int → Int × Int
  | [], _ => (0, 0)
  | e :: es, i => if e = 0 then findE es (i + 1) else (i, e)
theorem findE_drop (es : List Int) (k : Nat) (h : k < es.length) (i : Int) : findE (es.drop k) i = if es.getD k 0 = 0 then findE (es.drop (k + 1)) (i + 1) else (i, es.getD k 0) := by
  rw [List.drop_eq_getElem_cons h, findE]
  simp [List.getD, h]
/-- The error of a range, of ranges, from 0 to a number. -/
def spanE (hi : Int) (p : Int × Int) : Int := if outB 0 hi [p.1, p.2] then 7 else if p.2 < p.1 then 2 else 0
def spansE (hi : Int) (l : List (Int × Int)) : Int := if l.any (fun p => outB 0 hi [p.1, p.2]) then 7 else if l.any (fun p => decide (p.2 < p.1)) then 2 else 0
def sameN (n m : ByteArray) : Bool := m.toList == n.toList
/-- The error of a thing, of a lot, among those before it. -/
def weakM (x : Thing) : Int := if x.kind = 0 then 100 else 0
def fadeM (x : Thing) : Int := if x.kind = 1 then 1000 else 0
def thingE (before : List Thing) (x : Thing) : Int :=
  if nameB x.name = false then 6 else if before.any (fun y => sameN x.name y.name) then 5 else if outOne 0 2 x.kind then 2
  else if outOne 0 1000000 x.limit || outOne 0 (weakM x) x.weak || outOne 0 (fadeM x) x.fade then 7 else 0
def lotE (many : Nat) (before : List Lot) (x : Lot) : Int :=
  if nameB x.name = false then 6 else if before.any (fun y => sameN x.name y.name) then 5 else if x.parts.length ≠ many then 3 else spansE 1000000 x.parts
def thingEs (s : Shop) : List Int := (List.range s.things.length).map fun i => thingE (s.things.take i) (s.things.getD i default)
def lotEs (s : Shop) : List Int := (List.range s.lots.length).map fun i => lotE s.things.length (s.lots.take i) (s.lots.getD i default)
/-- Check: part, place and error. -/
def checkV (s : Shop) : Int × Int × Int :=
  if outOne 1 5 s.things.length || outOne 1 6 s.lots.length then (1, 0, 3)
  else if (findE (thingEs s) 0).2 ≠ 0 then (2, (findE (thingEs s) 0).1, (findE (thingEs s) 0).2)
  else if (findE (lotEs s) 0).2 ≠ 0 then (3, (findE (lotEs s) 0).1, (findE (lotEs s) 0).2)
  else (0, 0, 0)
def checkE (s : Shop) : Int := (checkV s).2.2

/-- A sum, term by term. -/
def dot (f : Nat → Int) : Nat → Int
  | 0 => 0
  | n + 1 => dot f n + f n
def sumTo (l : List Int) (n : Nat) : Int := dot (fun i => l.getD i 0) n
def sumL (l : List Int) : Int := sumTo l l.length
def weightV (b : Bat) : Int := sumL b.grams + sumL b.back
/-- What the first batches take of a batch. -/
def takenV (l : List Bat) (i : Nat) (many : Nat) : Int := dot (fun k => (l.getD k default).back.getD i 0) many
/-- One end of a range. -/
def sd (e : Bool) (p : Int × Int) : Int := if e then p.2 else p.1
def partsV (w : Int) (p : Int × Int) : Int × Int := (min 1000000 (p.1 / w), min 1000000 ((p.2 + w - 1) / w))
def lotT (s : Shop) (b : Bat) (t : Nat) (e : Bool) (i : Nat) : Int := b.grams.getD i 0 * sd e ((s.lots.getD i default).parts.getD t (0, 0))
def backT (l : List Bat) (prev : List (List (Int × Int))) (b : Bat) (t : Nat) (e : Bool) (i : Nat) : Int :=
  b.back.getD i 0 * sd e (partsV (weightV (l.getD i default)) ((prev.getD i []).getD t (0, 0)))
def cellS (s : Shop) (l : List Bat) (prev : List (List (Int × Int))) (b : Bat) (t : Nat) (e : Bool) : Int :=
  1000 * sd e (b.added.getD t (0, 0)) + dot (lotT s b t e) s.lots.length + dot (backT l prev b t e) b.back.length
def cellV (s : Shop) (l : List Bat) (prev : List (List (Int × Int))) (b : Bat) (t : Nat) : Int × Int := (cellS s l prev b t false, cellS s l prev b t true)
def rowV (s : Shop) (l : List Bat) (prev : List (List (Int × Int))) (b : Bat) : List (Int × Int) := (List.range s.things.length).map (cellV s l prev b)
/-- The ranges of the first batches. -/
def rowsV (s : Shop) (l : List Bat) : Nat → List (List (Int × Int))
  | 0 => []
  | k + 1 => rowsV s l k ++ [rowV s l (rowsV s l k) (l.getD k default)]
def rangesV (s : Shop) (l : List Bat) : List (List (Int × Int)) := rowsV s l l.length
/-- The error of a batch behind valid ones: ahead of its weight, and whole. -/
def batchE0 (s : Shop) (l : List Bat) (k : Nat) : Int :=
  if (l.getD k default).grams.length ≠ s.lots.length ∨ k < (l.getD k default).back.length ∨ (l.getD k default).added.length ≠ s.things.length then 3
  else if outB 0 100000 (l.getD k default).grams || outB 0 100000 (l.getD k default).back then 7 else spansE 10000000 (l.getD k default).added
def overB (l : List Bat) (k many : Nat) : Bool := (List.range many).any fun i => decide (weightV (l.getD i default) < takenV l i (k + 1))
def batchE (s : Shop) (l : List Bat) (k : Nat) : Int :=
  if batchE0 s l k ≠ 0 then batchE0 s l k else if weightV (l.getD k default) = 0 then 8 else if overB l k k then 9 else 0
/-- The error of a shop and batches. -/
def batchEs (s : Shop) (l : List Bat) : List Int := (List.range l.length).map (batchE s l)
def batchesE (s : Shop) (l : List Bat) : Int :=
  if checkE s ≠ 0 then checkE s else if outOne 1 6 l.length then 3 else (findE (batchEs s l) 0).2
/-- A truth of a batch. -/
def truthIn (s : Shop) (l : List Bat) (prev : List (List (Int × Int))) (b : Bat) (x : Tru) (t : Nat) : Bool :=
  !outOne (b.added.getD t (0, 0)).1 (b.added.getD t (0, 0)).2 (x.added.getD t 0) &&
  (List.range s.lots.length).all (fun i => !outOne ((s.lots.getD i default).parts.getD t (0, 0)).1 ((s.lots.getD i default).parts.getD t (0, 0)).2 ((x.lots.getD i []).getD t 0)) &&
  (List.range b.back.length).all (fun i => !outOne (partsV (weightV (l.getD i default)) ((prev.getD i []).getD t (0, 0))).1 (partsV (weightV (l.getD i default)) ((prev.getD i []).getD t (0, 0))).2 ((x.back.getD i []).getD t 0))
def lensB (s : Shop) (b : Bat) (x : Tru) : Bool :=
  decide (x.lots.length = s.lots.length) && x.lots.all (fun y => decide (y.length = s.things.length)) && decide (x.back.length = b.back.length) && x.back.all (fun y => decide (y.length = s.things.length)) && decide (x.added.length = s.things.length)
def truthE (s : Shop) (l : List Bat) (k : Nat) (x : Tru) : Int :=
  if lensB s (l.getD k default) x = false then 3 else if (List.range s.things.length).all (truthIn s l (rangesV s l) (l.getD k default) x) then 0 else 7
def madeT (s : Shop) (b : Bat) (x : Tru) (t : Nat) : Int :=
  1000 * x.added.getD t 0 + dot (fun i => b.grams.getD i 0 * (x.lots.getD i []).getD t 0) s.lots.length + dot (fun i => b.back.getD i 0 * (x.back.getD i []).getD t 0) b.back.length
def madeE (s : Shop) (l : List Bat) (k : Int) (x : Tru) : Int :=
  if batchesE s l ≠ 0 then batchesE s l else if outOne 0 (l.length - 1) k then 4 else truthE s l k.toNat x
def madeV (s : Shop) (l : List Bat) (k : Int) (x : Tru) : List Int :=
  if madeE s l k x ≠ 0 then [] else (List.range s.things.length).map (madeT s (l.getD k.toNat default) x)
def contentV (s : Shop) (l : List Bat) : List (List (Int × Int)) := if batchesE s l ≠ 0 then [] else rangesV s l
def leftV (s : Shop) (l : List Bat) : List Int := if batchesE s l ≠ 0 then [] else (List.range l.length).map fun k => weightV (l.getD k default) - takenV l k l.length
/-- The first thing of a batch, and the first batch, above a limit. -/
def aboveB (s : Shop) (b : Bat) (row : List (Int × Int)) (t : Nat) : Bool := decide ((s.things.getD t default).limit * weightV b < (row.getD t (0, 0)).2)
def firstOf (f : Nat → Bool) : Nat → Option Nat
  | 0 => none
  | n + 1 => match firstOf f n with
    | some i => some i
    | none => if f n then some n else none
def keepsT (s : Shop) (l : List Bat) (k : Nat) : Option Nat := firstOf (aboveB s (l.getD k default) ((rangesV s l).getD k [])) s.things.length
def keepsTo (s : Shop) (l : List Bat) : Nat → Int × Int
  | 0 => (-1, -1)
  | k + 1 => if (keepsTo s l k).1 = -1 then (match keepsT s l k with | some t => ((k : Int), (t : Int)) | none => (-1, -1)) else keepsTo s l k
def keepsV (s : Shop) (l : List Bat) : Int × Int × Int := if batchesE s l ≠ 0 then (0, 0, batchesE s l) else ((keepsTo s l l.length).1, (keepsTo s l l.length).2, 0)
/-- How many grams more. -/
def takeStep (limit weight : Int) (m p : Int × Int) (g : Int × Int) : Int × Int :=
  if 0 < p.2 - limit then (g.1, min g.2 ((limit * weight - m.2) / (p.2 - limit)))
  else if p.2 - limit < 0 then (max g.1 (-((limit * weight - m.2) / (limit - p.2))), g.2)
  else if limit * weight - m.2 < 0 then (g.1, -1) else g
def takeTo (s : Shop) (b : Bat) (row : List (Int × Int)) (lot : Nat) : Nat → Int × Int
  | 0 => (0, 100000 - b.grams.getD lot 0)
  | t + 1 => takeStep (s.things.getD t default).limit (weightV b) (row.getD t (0, 0)) ((s.lots.getD lot default).parts.getD t (0, 0)) (takeTo s b row lot t)
def takeV (s : Shop) (l : List Bat) (lot : Int) : (Int × Int) × Int :=
  if batchesE s l ≠ 0 then ((0, 0), batchesE s l) else if outOne 0 (s.lots.length - 1) lot then ((0, 0), 4)
  else if (takeTo s (l.getD (l.length - 1) default) ((rangesV s l).getD (l.length - 1) []) lot.toNat s.things.length).2 < (takeTo s (l.getD (l.length - 1) default) ((rangesV s l).getD (l.length - 1) []) lot.toNat s.things.length).1 then ((0, 0), 9)
  else (takeTo s (l.getD (l.length - 1) default) ((rangesV s l).getD (l.length - 1) []) lot.toNat s.things.length, 0)
/-- What weakens a wick. -/
def weakS (s : Shop) (micro : Nat → Int) (n : Nat) : Int := dot (fun t => (s.things.getD t default).weak * micro t) n
def pullOf (s : Shop) (b : Bat) (row : List (Int × Int)) : Int × Int :=
  ((max 0 (1000 * (1000 * weightV b) - weakS s (fun t => (row.getD t (0, 0)).2) s.things.length)) / (1000 * weightV b),
   (max 0 (1000 * (1000 * weightV b) - weakS s (fun t => (row.getD t (0, 0)).1) s.things.length) + 1000 * weightV b - 1) / (1000 * weightV b))
def pullV (s : Shop) (l : List Bat) : List (Int × Int) :=
  if batchesE s l ≠ 0 then [] else (List.range l.length).map fun k => pullOf s (l.getD k default) ((rangesV s l).getD k [])
def paleB (fade micro weight shows days : Int) : Bool := decide (micro * max 0 (1000 - fade * days) < 1000 * weight * shows)
/-- The first day of some at which it is pale; if none, the day past MaxDay. -/
def paleV (fade micro weight shows : Int) : Int := match firstOf (fun d => paleB fade micro weight shows (d : Int)) 1001 with | some d => (d : Int) | none => 40001
def paleE (s : Shop) (l : List Bat) (dye shows : Int) : Int :=
  if batchesE s l ≠ 0 then batchesE s l else if outOne 0 (s.things.length - 1) dye then 4 else if (s.things.getD dye.toNat default).kind ≠ 1 then 2 else if outOne 0 1000000 shows then 7 else 0
def paleVV (s : Shop) (l : List Bat) (dye shows : Int) : Int × Int × Int :=
  if paleE s l dye shows ≠ 0 then (0, 0, paleE s l dye shows)
  else (paleV (s.things.getD dye.toNat default).fade (((rangesV s l).getD (l.length - 1) []).getD dye.toNat (0, 0)).1 (weightV (l.getD (l.length - 1) default)) shows,
    paleV (s.things.getD dye.toNat default).fade (((rangesV s l).getD (l.length - 1) []).getD dye.toNat (0, 0)).2 (weightV (l.getD (l.length - 1) default)) shows, 0)
end Go.Proofs.Ytaigbhhmmdfdcaa
