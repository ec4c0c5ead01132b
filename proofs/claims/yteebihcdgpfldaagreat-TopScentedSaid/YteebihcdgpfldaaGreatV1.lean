/- Wicks, plainly: shops of wicks, candles, how they burn, and what can be wrong with them. -/
import Derived.Test.YteebihcdgpfldaaGreatK1
namespace Go.Proofs.YteebihcdgpfldaaGreat
structure Wick where
 name : ByteArray
 threads : Int
 pull : Int × Int
instance : Inhabited Wick := ⟨⟨ByteArray.empty, 0, (0, 0)⟩⟩
structure Wax where
 name : ByteArray
 flow : Int × Int
 rise : Int × Int
 spread : Int × Int
 chill : Int
instance : Inhabited Wax := ⟨⟨ByteArray.empty, (0, 0), (0, 0), (0, 0), 0⟩⟩
structure WShop where
 wicks : List Wick
 waxes : List Wax
 flame : Int × Int
 pool : Int × Int
structure Candle where
 wax : Int
 dia : Int
 draught : Int
 cold : Int × Int
structure WTru where
 pull : Int
 flow : Int
 rise : Int
 spread : Int
 draught : Int
 cold : Int
structure Burn where
 rate : Int
 flame : Int
 pool : Int
def rangeE (lo hi : Int) (p : Int × Int) : Int := if outOne lo hi p.1 || outOne lo hi p.2 then 7 else if p.2 < p.1 then 2 else 0
/-- The error of two, of three ranges. -/
def twoE (a b : Int) : Int := if a = 7 ∨ b = 7 then 7 else if a ≠ 0 then a else b
def wickE (before : List Wick) (x : Wick) : Int :=
 if nameB x.name = false then 6 else if before.any (fun y => sameN x.name y.name) then 5 else if outOne 1 100 x.threads then 7 else rangeE 1 1000 x.pull
def waxE (before : List Wax) (x : Wax) : Int :=
 if nameB x.name = false then 6 else if before.any (fun y => sameN x.name y.name) then 5 else if outOne 0 50 x.chill then 7
 else twoE (twoE (rangeE 1 300 x.flow) (rangeE 1 1000 x.rise)) (rangeE 1 2000 x.spread)
def wickEs (s : WShop) : List Int := (List.range s.wicks.length).map fun i => wickE (s.wicks.take i) (s.wicks.getD i default)
def waxEs (s : WShop) : List Int := (List.range s.waxes.length).map fun i => waxE (s.waxes.take i) (s.waxes.getD i default)
def wcheckV (s : WShop) : Int × Int × Int :=
 if outOne 1 12 s.wicks.length || outOne 1 6 s.waxes.length then (1, 0, 3)
 else if twoE (rangeE 0 2000 s.flame) (rangeE 0 2000 s.pool) ≠ 0 then (1, 0, twoE (rangeE 0 2000 s.flame) (rangeE 0 2000 s.pool))
 else if (findE (wickEs s) 0).2 ≠ 0 then (2, (findE (wickEs s) 0).1, (findE (wickEs s) 0).2)
 else if (findE (waxEs s) 0).2 ≠ 0 then (3, (findE (waxEs s) 0).1, (findE (waxEs s) 0).2)
 else (0, 0, 0)
def candleE (s : WShop) (c : Candle) : Int :=
 if (wcheckV s).2.2 ≠ 0 then (wcheckV s).2.2 else if outOne 0 ((s.waxes.length : Int) - 1) c.wax then 4
 else if outOne 1 2000 c.dia || outOne 0 90 c.draught then 7 else rangeE 0 300 c.cold
def waxOf (s : WShop) (c : Candle) : Wax := s.waxes.getD c.wax.toNat default
def burnV (x : Wax) (t : WTru) : Burn :=
 ⟨t.pull * t.flow * (100 + t.draught) * 100, t.pull * t.flow * (100 + t.draught) * t.rise, t.pull * t.flow * (100 + t.draught) * t.spread - t.cold * x.chill * 100000⟩
def leastT (x : Wax) (c : Candle) (p : Int × Int) : WTru := ⟨p.1, x.flow.1, x.rise.1, x.spread.1, -c.draught, c.cold.2⟩
def mostT (x : Wax) (c : Candle) (p : Int × Int) : WTru := ⟨p.2, x.flow.2, x.rise.2, x.spread.2, c.draught, c.cold.1⟩
def wpull (s : WShop) (k : Nat) : Int × Int := (s.wicks.getD k default).pull
def leastB (s : WShop) (c : Candle) (k : Nat) : Burn := burnV (waxOf s c) (leastT (waxOf s c) c (wpull s k))
def mostB (s : WShop) (c : Candle) (k : Nat) : Burn := burnV (waxOf s c) (mostT (waxOf s c) c (wpull s k))
def trueW (x : Wax) (c : Candle) (p : Int × Int) (t : WTru) : Bool :=
 !outOne p.1 p.2 t.pull && !outOne x.flow.1 x.flow.2 t.flow && !outOne x.rise.1 x.rise.2 t.rise && !outOne x.spread.1 x.spread.2 t.spread && !outOne (-c.draught) c.draught t.draught && !outOne c.cold.1 c.cold.2 t.cold
/-- What is wrong with a candle that burns so. -/
def smokes (s : WShop) (b : Burn) : Bool := decide (s.flame.2 * 1000000 < b.flame)
def goesOut (s : WShop) (b : Burn) : Bool := decide (b.flame < s.flame.1 * 1000000)
def tunnels (s : WShop) (c : Candle) (b : Burn) : Bool := decide (b.pool < s.pool.1 * c.dia * 1000)
def runs (s : WShop) (c : Candle) (b : Burn) : Bool := decide (s.pool.2 * c.dia * 1000 < b.pool)
def wrongV (s : WShop) (c : Candle) (lo hi : Burn) : List Int :=
 (if smokes s hi then [1] else []) ++ (if goesOut s lo then [2] else []) ++ (if tunnels s c lo then [3] else []) ++ (if runs s c hi then [4] else [])
def faultsV (s : WShop) (c : Candle) (k : Nat) : List Int := wrongV s c (leastB s c k) (mostB s c k)
def suitsB (s : WShop) (c : Candle) (k : Nat) : Bool := (faultsV s c k).isEmpty
def suitsTo (s : WShop) (c : Candle) (n : Nat) : List Int := ((List.range n).filter (suitsB s c)).map (fun (i : Nat) => (i : Int))
def suitsV (s : WShop) (c : Candle) : List Int := suitsTo s c s.wicks.length
/-- The thinnest one of the first wicks that suit; -1: none. -/
def thinTo (s : WShop) (c : Candle) : Nat → Int
 | 0 => -1
 | n + 1 => if suitsB s c n = true ∧ (thinTo s c n < 0 ∨ (s.wicks.getD n default).threads < (s.wicks.getD (thinTo s c n).toNat default).threads) then (n : Int) else thinTo s c n
def sizesHi (s : WShop) (lo : Burn) : Int := if lo.pool < 0 then 0 else if 0 < s.pool.1 then min 2000 (lo.pool / (s.pool.1 * 1000)) else 2000
def sizesV0 (s : WShop) (lo hi : Burn) : Int × Int :=
 if hi.pool ≤ 0 then (1, sizesHi s lo) else if s.pool.2 = 0 then (1, 0) else (max 1 ((hi.pool + s.pool.2 * 1000 - 1) / (s.pool.2 * 1000)), sizesHi s lo)
/-- The diameters for which a wick suits. -/
def sizesE (s : WShop) (c : Candle) (k : Nat) : Int :=
 if (sizesV0 s (leastB s c k) (mostB s c k)).2 < (sizesV0 s (leastB s c k) (mostB s c k)).1 ∨ goesOut s (leastB s c k) = true ∨ smokes s (mostB s c k) = true then 9 else 0
def sizesV (s : WShop) (c : Candle) (k : Nat) : Int × Int := if sizesE s c k ≠ 0 then (0, 0) else sizesV0 s (leastB s c k) (mostB s c k)
def minutesV (s : WShop) (c : Candle) (k : Nat) (grams : Int) : Int × Int :=
 (600 * grams * 1000000 / (mostB s c k).rate, (600 * grams * 1000000 + (leastB s c k).rate - 1) / (leastB s c k).rate)
/-- What a valid shop and candle are. -/
structure WOk (s : WShop) (c : Candle) : Prop where
 nw1 : 1 ≤ s.wicks.length
 nw12 : s.wicks.length ≤ 12
 nx1 : 1 ≤ s.waxes.length
 nx6 : s.waxes.length ≤ 6
 flame : 0 ≤ s.flame.1 ∧ s.flame.1 ≤ s.flame.2 ∧ s.flame.2 ≤ 2000
 pool : 0 ≤ s.pool.1 ∧ s.pool.1 ≤ s.pool.2 ∧ s.pool.2 ≤ 2000
 wname : ∀ i, i < s.wicks.length → nameB (s.wicks.getD i default).name = true
 wtwice : ∀ i, i < s.wicks.length → (s.wicks.take i).any (fun y => sameN (s.wicks.getD i default).name y.name) = false
 threads : ∀ i, i < s.wicks.length → 1 ≤ (s.wicks.getD i default).threads ∧ (s.wicks.getD i default).threads ≤ 100
 pull : ∀ i, i < s.wicks.length → 1 ≤ (s.wicks.getD i default).pull.1 ∧ (s.wicks.getD i default).pull.1 ≤ (s.wicks.getD i default).pull.2 ∧ (s.wicks.getD i default).pull.2 ≤ 1000
 xname : ∀ i, i < s.waxes.length → nameB (s.waxes.getD i default).name = true
 xtwice : ∀ i, i < s.waxes.length → (s.waxes.take i).any (fun y => sameN (s.waxes.getD i default).name y.name) = false
 chill : ∀ i, i < s.waxes.length → 0 ≤ (s.waxes.getD i default).chill ∧ (s.waxes.getD i default).chill ≤ 50
 flow : ∀ i, i < s.waxes.length → 1 ≤ (s.waxes.getD i default).flow.1 ∧ (s.waxes.getD i default).flow.1 ≤ (s.waxes.getD i default).flow.2 ∧ (s.waxes.getD i default).flow.2 ≤ 300
 rise : ∀ i, i < s.waxes.length → 1 ≤ (s.waxes.getD i default).rise.1 ∧ (s.waxes.getD i default).rise.1 ≤ (s.waxes.getD i default).rise.2 ∧ (s.waxes.getD i default).rise.2 ≤ 1000
 spread : ∀ i, i < s.waxes.length → 1 ≤ (s.waxes.getD i default).spread.1 ∧ (s.waxes.getD i default).spread.1 ≤ (s.waxes.getD i default).spread.2 ∧ (s.waxes.getD i default).spread.2 ≤ 2000
 wax : 0 ≤ c.wax ∧ c.wax < s.waxes.length
 dia : 1 ≤ c.dia ∧ c.dia ≤ 2000
 draught : 0 ≤ c.draught ∧ c.draught ≤ 90
 cold : 0 ≤ c.cold.1 ∧ c.cold.1 ≤ c.cold.2 ∧ c.cold.2 ≤ 300
theorem outOne_ff {lo hi n : Int} : outOne lo hi n = false ↔ lo ≤ n ∧ n ≤ hi := by unfold outOne; simp
theorem rangeE_zero {lo hi : Int} {p : Int × Int} (h : rangeE lo hi p = 0) : lo ≤ p.1 ∧ p.1 ≤ p.2 ∧ p.2 ≤ hi := by
 unfold rangeE at h
 split at h
 ·cases h
 ·rename_i h1
  simp only [Bool.or_eq_true, not_or, Bool.not_eq_true, outOne_ff] at h1
  split at h
  ·cases h
  ·omega
theorem twoE_zero {a b : Int} (h : twoE a b = 0) : a = 0 ∧ b = 0 := by
 unfold twoE at h
 split at h
 ·cases h
 ·split at h
  ·exact absurd h ‹_›
  ·rename_i h2; exact ⟨by simpa using h2, h⟩
theorem findE_ok : ∀ (es : List Int) (i : Int), (findE es i).2 = 0 → ∀ k, es.getD k 0 = 0
 | [], _, _, k => by simp
 | e :: es, i, h, k => by
  rw [findE] at h
  split at h
  ·rename_i h0
   cases k with
   | zero => simpa using h0
   | succ k => simpa using findE_ok es (i + 1) h k
  ·rename_i h0; exact absurd h h0
theorem getD_map_range {α : Type} (f : Nat → α) (d : α) {n k : Nat} (h : k < n) : ((List.range n).map f).getD k d = f k := by simp [List.getD, h]
theorem candle_ok {s : WShop} {c : Candle} (h : candleE s c = 0) : WOk s c := by
 unfold candleE at h
 split at h
 ·rename_i h1; exact absurd h h1
 ·rename_i h1
  have h1 : (wcheckV s).2.2 = 0 := by simpa using h1
  split at h
  ·cases h
  ·rename_i h2
   split at h
   ·cases h
   ·rename_i h3
    have h4 := rangeE_zero h
    simp only [Bool.not_eq_true, Bool.or_eq_true, not_or, outOne_ff] at h2 h3
    unfold wcheckV at h1
    split at h1
    ·cases h1
    ·rename_i g1
     simp only [Bool.or_eq_true, not_or, Bool.not_eq_true, outOne_ff] at g1
     split at h1
     ·rename_i g2; exact absurd h1 g2
     ·rename_i g2
      obtain ⟨ga, gb⟩ := twoE_zero (by simpa using g2)
      have ga := rangeE_zero ga
      have gb := rangeE_zero gb
      split at h1
      ·rename_i g3; exact absurd h1 g3
      ·rename_i g3
       split at h1
       ·rename_i g4; exact absurd h1 g4
       ·rename_i g4
        have g3 := findE_ok _ _ (by simpa using g3)
        have g4 := findE_ok _ _ (by simpa using g4)
        have g3 : ∀ i, i < s.wicks.length → wickE (s.wicks.take i) (s.wicks.getD i default) = 0 := fun i hi => by
         have := g3 i; rwa [wickEs, getD_map_range _ _ hi] at this
        have g4 : ∀ i, i < s.waxes.length → waxE (s.waxes.take i) (s.waxes.getD i default) = 0 := fun i hi => by
         have := g4 i; rwa [waxEs, getD_map_range _ _ hi] at this
        have a3 : ∀ i, i < s.wicks.length → nameB (s.wicks.getD i default).name = true ∧ (s.wicks.take i).any (fun y => sameN (s.wicks.getD i default).name y.name) = false ∧ (1 ≤ (s.wicks.getD i default).threads ∧ (s.wicks.getD i default).threads ≤ 100) ∧ rangeE 1 1000 (s.wicks.getD i default).pull = 0 := fun i hi => by
         have := g3 i hi
         unfold wickE at this
         split at this; · cases this
         split at this; · cases this
         split at this; · cases this
         rename_i k1 k2 k3
         exact ⟨by simpa using k1, by simpa using k2, outOne_ff.1 (by simpa using k3), this⟩
        have a4 : ∀ i, i < s.waxes.length → nameB (s.waxes.getD i default).name = true ∧ (s.waxes.take i).any (fun y => sameN (s.waxes.getD i default).name y.name) = false ∧ (0 ≤ (s.waxes.getD i default).chill ∧ (s.waxes.getD i default).chill ≤ 50) ∧ rangeE 1 300 (s.waxes.getD i default).flow = 0 ∧ rangeE 1 1000 (s.waxes.getD i default).rise = 0 ∧ rangeE 1 2000 (s.waxes.getD i default).spread = 0 := fun i hi => by
         have := g4 i hi
         unfold waxE at this
         split at this; · cases this
         split at this; · cases this
         split at this; · cases this
         rename_i k1 k2 k3
         obtain ⟨m1, m2⟩ := twoE_zero this
         obtain ⟨m3, m4⟩ := twoE_zero m1
         exact ⟨by simpa using k1, by simpa using k2, outOne_ff.1 (by simpa using k3), m3, m4, m2⟩
        exact ⟨by omega, by omega, by omega, by omega, ga, gb, fun i hi => (a3 i hi).1, fun i hi => (a3 i hi).2.1, fun i hi => (a3 i hi).2.2.1, fun i hi => rangeE_zero (a3 i hi).2.2.2,
         fun i hi => (a4 i hi).1, fun i hi => (a4 i hi).2.1, fun i hi => (a4 i hi).2.2.1, fun i hi => rangeE_zero (a4 i hi).2.2.2.1, fun i hi => rangeE_zero (a4 i hi).2.2.2.2.1, fun i hi => rangeE_zero (a4 i hi).2.2.2.2.2,
         by omega, h3.1, h3.2, h4⟩
end Go.Proofs.YteebihcdgpfldaaGreat
