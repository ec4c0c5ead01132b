/- Wicks, plainly: shops of wicks, candles, how they burn, and what can be wrong with them. -/
import Derived.Test.YtpkggjobdmchlaaGreatDoorK1
namespace Go.Proofs.YtpkggjobdmchlaaGreatDoor
structure Wick where
  name : ByteArray
  threads : Int
  pull : Int × Int
instance : Inhabited Wick := ⟨⟨ByteArray.empty, 0, (0, 0)⟩⟩
structure Wax where
  name : ByteArray
  flow : Int × Int
  rise : Int × Int
  spread : Int × Int
  chill : Int
instance : Inhabited Wax := ⟨⟨ByteArray.empty, (0, 0), (0, 0), (0, 0), 0⟩⟩
structure WShop where
  wicks : List Wick
  waxes : List Wax
  flame : Int × Int
  pool : Int × Int
structure Candle where
  wax : Int
  dia : Int
  draught : Int
  cold : Int × Int
structure WTru where
  pull : Int
  flow : Int
  rise : Int
  spread : Int
  draught : Int
  cold : Int
structure Burn where
  rate : Int
  flame : Int
  pool : Int
def rangeE (lo hi : Int) (p : Int × Int) : Int := if outOne lo hi p.1 || outOne lo hi p.2 then 7 else if p.2 < p.1 then 2 else 0
/-- The error of two, of three ranges. -/
def twoE (a b : Int) : Int := if a = 7 ∨ b = 7 then 7 else if a ≠ 0 then a else b
def wickE (before : List Wick) (x : Wick) : Int :=
  if nameB x.name = false then 6 else if before.any (fun y => sameN x.name y.name) then 5 else if outOne 1 100 x.threads then 7 else rangeE 1 1000 x.pull
def waxE (before : List Wax) (x : Wax) : Int :=
  if nameB x.name = false then 6 else if before.any (fun y => sameN x.name y.name) then 5 else if outOne 0 50 x.chill then 7
  else twoE (twoE (rangeE 1 300 x.flow) (rangeE 1 1000 x.rise)) (rangeE 1 2000 x.spread)
def wickEs (s : WShop) : List Int := (List.range s.wicks.length).map fun i => wickE (s.wicks.take i) (s.wicks.getD i default)
def waxEs (s : WShop) : List Int := (List.range s.waxes.length).map fun i => waxE (s.waxes.take i) (s.waxes.getD i default)
def wcheckV (s : WShop) : Int × Int × Int :=
  if outOne 1 12 s.wicks.length || outOne 1 6 s.waxes.length then (1, 0, 3)
  else if twoE (rangeE 0 2000 s.flame) (rangeE 0 2000 s.pool) ≠ 0 then (1, 0, twoE (rangeE 0 2000 s.flame) (rangeE 0 2000 s.pool))
  else if (findE (wickEs s) 0).2 ≠ 0 then (2, (findE (wickEs s) 0).1, (findE (wickEs s) 0).2)
  else if (findE (waxEs s) 0).2 ≠ 0 then (3, (findE (waxEs s) 0).1, (findE (waxEs s) 0).2)
  else (0, 0, 0)
def candleE (s : WShop) (c : Candle) : Int :=
  if (wcheckV s).2.2 ≠ 0 then (wcheckV s).2.2 else if outOne 0 ((s.waxes.length : Int) - 1) c.wax then 4
  else if outOne 1 2000 c.dia || outOne 0 90 c.draught then 7 else rangeE 0 300 c.cold
def waxOf (s : WShop) (c : Candle) : Wax := s.waxes.getD c.wax.toNat default
def burnV (x : Wax) (t : WTru) : Burn :=
  ⟨t.pull * t.flow * (100 + t.draught) * 100, t.pull * t.flow * (100 + t.draught) * t.rise, t.pull * t.flow * (100 + t.draught) * t.spread - t.cold * x.chill * 100000⟩
def leastT (x : Wax) (c : Candle) (p : Int × Int) : WTru := ⟨p.1, x.flow.1, x.rise.1, x.spread.1, -c.draught, c.cold.2⟩
def mostT (x : Wax) (c : Candle) (p : Int × Int) : WTru := ⟨p.2, x.flow.2, x.rise.2, x.spread.2, c.draught, c.cold.1⟩
def wpull (s : WShop) (k : Nat) : Int × Int := (s.wicks.getD k default).pull
def leastB (s : WShop) (c : Candle) (k : Nat) : Burn := burnV (waxOf s c) (leastT (waxOf s c) c (wpull s k))
def mostB (s : WShop) (c : Candle) (k : Nat) : Burn := burnV (waxOf s c) (mostT (waxOf s c) c (wpull s k))
def trueW (x : Wax) (c : Candle) (p : Int × Int) (t : WTru) : Bool :=
  !outOne p.1 p.2 t.pull && !outOne x.flow.1 x.flow.2 t.flow && !outOne x.rise.1 x.rise.2 t.rise && !outOne x.spread.1 x.spread.2 t.spread && !outOne (-c.draught) c.draught t.draught && !outOne c.cold.1 c.cold.2 t.cold
/-- What is wrong with a candle that burns so. -/
def smokes (s : WShop) (b : Burn) : Bool := decide (s.flame.2 * 1000000 < b.flame)
def goesOut (s : WShop) (b : Burn) : Bool := decide (b.flame < s.flame.1 * 1000000)
def tunnels (s : WShop) (c : Candle) (b : Burn) : Bool := decide (b.pool < s.pool.1 * c.dia * 1000)
def runs (s : WShop) (c : Candle) (b : Burn) : Bool := decide (s.pool.2 * c.dia * 1000 < b.pool)
def wrongV (s : WShop) (c : Candle) (lo hi : Burn) : List Int :=
  (if smokes s hi then [1] else []) ++ (if goesOut s lo then [2] else []) ++ (if tunnels s c lo then [3] else []) ++ (if runs s c hi then [4] else [])
def faultsV (s : WShop) (c : Candle) (k : Nat) : List Int := wrongV s c (leastB s c k) (mostB s c k)
def suitsB (s : WShop) (c : Candle) (k : Nat) : Bool := (faultsV s c k).isEmpty
def suitsTo (s : WShop) (c : Candle) (n : Nat) : List Int := ((List.range n).filter (suitsB s c)).map (fun (i : Nat) => (i : Int))
def suitsV (s : WShop) (c : Candle) : List Int := suitsTo s c s.wicks.length
/-- The thinnest one of the first wicks that suit; -1: none. -/
def thinTo (s : WShop) (c : Candle) : Nat → Int
  | 0 => -1
  | n + 1 => if suitsB s c n = true ∧ (thinTo s c n < 0 ∨ (s.wicks.getD n default).threads < (s.wicks.getD (thinTo s c n).toNat default).threads) then (n : Int) else thinTo s c n
def sizesHi (s : WShop) (lo : Burn) : Int := if lo.pool < 0 then 0 else if 0 < s.pool.1 then min 2000 (lo.pool / (s.pool.1 * 1000)) else 2000
def sizesV0 (s : WShop) (lo hi : Burn) : Int × Int :=
  if hi.pool ≤ 0 then (1, sizesHi s lo) else if s.pool.2 = 0 then (1, 0) else (max 1 ((hi.pool + s.pool.2 * 1000 - 1) / (s.pool.2 * 1000)), sizesHi s lo)
/-- The diameters for which a wick suits. -/
def sizesE (s : WShop) (c : Candle) (k : Nat) : Int :=
  if (sizesV0 s (leastB s c k) (mostB s c k)).2 < (sizesV0 s (leastB s c k) (mostB s c k)).1 ∨ goesOut s (leastB s c k) = true ∨ smokes s (mostB s c k) = true then 9 else 0
def sizesV (s : WShop) (c : Candle) (k : Nat) : Int × Int := if sizesE s c k ≠ 0 then (0, 0) else sizesV0 s (leastB s c k) (mostB s c k)
def minutesV (s : WShop) (c : Candle) (k : Nat) (grams : Int) : Int × Int :=
  (600 * grams * 1000000 / (mostB s c k).rate, (600 * grams * 1000000 + (leastB s c k).rate - 1) / (leastB s c k).rate)

/-- What a valid shop and candle are. -/
structure WOk (s : WShop) (c : Candle) : Prop where
  nw1 : 1 ≤ s.wicks.length
  nw12 : s.wicks.length ≤ 12
  nx1 : 1 ≤ s.waxes.length
  nx6 : s.waxes.length ≤ 6
  flame : 0 ≤ s.flame.1 ∧ s.flame.1 ≤ s.flame.2 ∧ s.flame.2 ≤ 2000
  pool : 0 ≤ s.pool.1 ∧ s.pool.1 ≤ s.pool.2 ∧ s.pool.2 ≤ 2000
  wname : ∀ i, i < s.wicks.length → nameB (s.wicks.getD i default).name = true
  wtwice : ∀ i, i < s.wicks.length → (s.wicks.take i).any (fun y => sameN (s.wicks.getD i default).name y.name) = false
  threads : ∀ i, i < s.wicks.length → 1 ≤ (s.wicks.getD i default).threads ∧ (s.wicks.getD i default).threads ≤ 100
  pull : ∀ i, i < s.wicks.length → 1 ≤ (s.wicks.getD i default).pull.1 ∧ (s.wicks.getD i default).pull.1 ≤ (s.wicks.getD i default).pull.2 ∧ (s.wicks.getD i default).pull.2 ≤ 1000
  xname : ∀ i, i < s.waxes.length → nameB (s.waxes.getD i default).name = true
  xtwice : ∀ i, i < s.waxes.length → (s.waxes.take i).any (fun y => sameN (s.waxes.getD i default).name y.name) = false
  chill : ∀ i, i < s.waxes.length → 0 ≤ (s.waxes.getD i default).chill ∧ (s.waxes.getD i default).chill ≤ 50
  flow : ∀ i, i < s.waxes.length → 1 ≤ (s.waxes.getD i default).flow.1 ∧ (s.waxes.getD i default).flow.1 ≤ (s.waxes.getD i default).flow.2 ∧ (s.waxes.getD i default).flow.2 ≤ 300
  rise : ∀ i, i < s.waxes.length → 1 ≤ (s.waxes.getD i default).rise.1 ∧ (s.waxes.getD i default).rise.1 ≤ (s.waxes.getD i default).rise.2 ∧ (s.waxes.getD i default).rise.2 ≤ 1000
  spread : ∀ i, i < s.waxes.length → 1 ≤ (s.waxes.getD i default).spread.1 ∧ (s.waxes.getD i default).spread.1 ≤ (s.waxes.getD i default).spread.2 ∧ (s.waxes.getD i default).spread.2 ≤ 2000
  wax : 0 ≤ c.wax ∧ c.wax < s.waxes.length
  dia : 1 ≤ c.dia ∧ c.dia ≤ 2000
  draught : 0 ≤ c.draught ∧ c.draught ≤ 90
  cold : 0 ≤ c.cold.1 ∧ c.cold.1 ≤ c.cold.2 ∧ c.cold.2 ≤ 300
theorem outOne_ff {lo hi n : Int} : outOne lo hi n = false ↔ lo ≤ n ∧ n ≤ hi := by unfold outOne; simp
theorem rangeE_zero {lo hi : Int} {p : Int × Int} (h : rangeE lo hi p = 0) : lo ≤ p.1 ∧ p.1 ≤ p.2 ∧ p.2 ≤ hi := by
  unfold rangeE at h
  split at h
  · cases h
  · rename_i h1
    simp only [Bool.or_eq_true, not_or, Bool.not_eq_true, outOne_ff] at h1
    split at h
    · cases h
    · omega
theorem twoE_zero {a b : Int} (h : twoE a b = 0) : a = 0 ∧ b = 0 := by
  unfold twoE at h
  split at h
  · cases h
  · split at h
    · exact absurd h ‹_›
    · rename_i h2; exact ⟨by simpa using h2, h⟩
theorem findE_ok : ∀ (es : List Int) (i : Int), (findE es i).2 = 0 → ∀ k, es.getD k 0 = 0
  | [], _, _, k => by simp
  | e :: es, i, h, k => by
    rw [findE] at h
    split at h
    · rename_i h0
      cases k with
      | zero => simpa using h0
      | succ k => simpa using findE_ok es (i + 1) h k
    · rename_i h0; exact absurd h h0
theorem getD_map_range {α : Type} (f : Nat → α) (d : α) {n k : Nat} (h : k < n) : ((List.range n).map f).getD k d = f k := by simp [List.getD, h]
theorem candle_ok {s : WShop} {c : Candle} (h : candleE s c = 0) : WOk s c := by
  unfold candleE at h
  split at h
  · rename_i h1; exact absurd h h1
  · rename_i h1
    have h1 : (wcheckV s).2.2 = 0 := by simpa using h1
    split at h
    · cases h
    · rename_i h2
      split at h
      · cases h
      · rename_i h3
        have h4 := rangeE_zero h
        simp only [Bool.not_eq_true, Bool.or_eq_true, not_or, outOne_ff] at h2 h3
        unfold wcheckV at h1
        split at h1
        · cases h1
        · rename_i g1
          simp only [Bool.or_eq_true, not_or, Bool.not_eq_true, outOne_ff] at g1
          split at h1
          · rename_i g2; exact absurd h1 g2
          · rename_i g2
            obtain ⟨ga, gb⟩ := twoE_zero (by simpa using g2)
            have ga := rangeE_zero ga
            have gb := rangeE_zero gb
            split at h1
            · rename_i g3; exact absurd h1 g3
            · rename_i g3
              split at h1
              · rename_i g4; exact absurd h1 g4
              · rename_i g4
                have g3 := findE_ok _ _ (by simpa using g3)
                have g4 := findE_ok _ _ (by simpa using g4)
                have g3 : ∀ i, i < s.wicks.length → wickE (s.wicks.take i) (s.wicks.getD i default) = 0 := fun i hi => by
                  have := g3 i; rwa [wickEs, getD_map_range _ _ hi] at this
                have g4 : ∀ i, i < s.waxes.length → waxE (s.waxes.take i) (s.waxes.getD i default) = 0 := fun i hi => by
                  have := g4 i; rwa [waxEs, getD_map_range _ _ hi] at this
                have a3 : ∀ i, i < s.wicks.length → nameB (s.wicks.getD i default).name = true ∧ (s.wicks.take i).any (fun y => sameN (s.wicks.getD i default).name y.name) = false ∧ (1 ≤ (s.wicks.getD i default).threads ∧ (s.wicks.getD i default).threads ≤ 100) ∧ rangeE 1 1000 (s.wicks.getD i default).pull = 0 := fun i hi => by
                  have := g3 i hi
                  unfold wickE at this
                  split at this; · cases this
                  split at this; · cases this
                  split at this; · cases this
                  rename_i k1 k2 k3
                  exact ⟨by simpa using k1, by simpa using k2, outOne_ff.1 (by simpa using k3), this⟩
                have a4 : ∀ i, i < s.waxes.length → nameB (s.waxes.getD i default).name = true ∧ (s.waxes.take i).any (fun y => sameN (s.waxes.getD i default).name y.name) = false ∧ (0 ≤ (s.waxes.getD i default).chill ∧ (s.waxes.getD i default).chill ≤ 50) ∧ rangeE 1 300 (s.waxes.getD i default).flow = 0 ∧ rangeE 1 1000 (s.waxes.getD i default).rise = 0 ∧ rangeE 1 2000 (s.waxes.getD i default).spread = 0 := fun i hi => by
                  have := g4 i hi
                  unfold waxE at this
                  split at this; · cases this
                  split at this; · cases this
                  split at this; · cases this
                  rename_i k1 k2 k3
                  obtain ⟨m1, m2⟩ := twoE_zero this
                  obtain ⟨m3, m4⟩ := twoE_zero m1
                  exact ⟨by simpa using k1, by simpa using k2, outOne_ff.1 (by simpa using k3), m3, m4, m2⟩
                exact ⟨by omega, by omega, by omega, by omega, ga, gb, fun i hi => (a3 i hi).1, fun i hi => (a3 i hi).2.1, fun i hi => (a3 i hi).2.2.1, fun i hi => rangeE_zero (a3 i hi).2.2.2,
                  fun i hi => (a4 i hi).1, fun i hi => (a4 i hi).2.1, fun i hi => (a4 i hi).2.2.1, fun i hi => rangeE_zero (a4 i hi).2.2.2.1, fun i hi => rangeE_zero (a4 i hi).2.2.2.2.1, fun i hi => rangeE_zero (a4 i hi).2.2.2.2.2,
                  by omega, h3.1, h3.2, h4⟩
end Go.Proofs.YtpkggjobdmchlaaGreatDoor
/- Wicks, plainly: in any truth a candle burns between the least and the most; a scented candle. -/
namespace Go.Proofs.YtpkggjobdmchlaaGreatDoor
theorem mul3_le {a b c a' b' c' : Int} (ha : 0 ≤ a) (hb : 0 ≤ b) (hc : 0 ≤ c) (h1 : a ≤ a') (h2 : b ≤ b') (h3 : c ≤ c') : a * b * c ≤ a' * b' * c' :=
  Int.mul_le_mul (Int.mul_le_mul h1 h2 hb (by omega)) h3 hc (Int.mul_nonneg (by omega) (by omega))
theorem trueW_iff {x : Wax} {c : Candle} {p : Int × Int} {t : WTru} : trueW x c p t = true ↔
    (p.1 ≤ t.pull ∧ t.pull ≤ p.2) ∧ (x.flow.1 ≤ t.flow ∧ t.flow ≤ x.flow.2) ∧ (x.rise.1 ≤ t.rise ∧ t.rise ≤ x.rise.2) ∧ (x.spread.1 ≤ t.spread ∧ t.spread ≤ x.spread.2) ∧
    (-c.draught ≤ t.draught ∧ t.draught ≤ c.draught) ∧ (c.cold.1 ≤ t.cold ∧ t.cold ≤ c.cold.2) := by
  unfold trueW
  simp only [Bool.and_eq_true, Bool.not_eq_true', outOne_ff]
  constructor
  · rintro ⟨⟨⟨⟨⟨h1, h2⟩, h3⟩, h4⟩, h5⟩, h6⟩; exact ⟨h1, h2, h3, h4, h5, h6⟩
  · rintro ⟨h1, h2, h3, h4, h5, h6⟩; exact ⟨⟨⟨⟨⟨h1, h2⟩, h3⟩, h4⟩, h5⟩, h6⟩
/-- What bounds a wax, a pull and a candle have. -/
structure BOk (x : Wax) (c : Candle) (p : Int × Int) : Prop where
  pull : 1 ≤ p.1 ∧ p.1 ≤ p.2 ∧ p.2 ≤ 1000
  flow : 1 ≤ x.flow.1 ∧ x.flow.1 ≤ x.flow.2 ∧ x.flow.2 ≤ 300
  rise : 1 ≤ x.rise.1 ∧ x.rise.1 ≤ x.rise.2 ∧ x.rise.2 ≤ 1000
  spread : 1 ≤ x.spread.1 ∧ x.spread.1 ≤ x.spread.2 ∧ x.spread.2 ≤ 2000
  chill : 0 ≤ x.chill ∧ x.chill ≤ 50
  draught : 0 ≤ c.draught ∧ c.draught ≤ 90
  cold : 0 ≤ c.cold.1 ∧ c.cold.1 ≤ c.cold.2 ∧ c.cold.2 ≤ 300
theorem WOk.bok {s : WShop} {c : Candle} (h : WOk s c) {k : Nat} (hk : k < s.wicks.length) : BOk (waxOf s c) c (wpull s k) := by
  have hx : c.wax.toNat < s.waxes.length := by have := h.wax; omega
  exact ⟨h.pull k hk, h.flow _ hx, h.rise _ hx, h.spread _ hx, h.chill _ hx, h.draught, h.cold⟩
theorem BOk.least {x : Wax} {c : Candle} {p : Int × Int} (h : BOk x c p) : trueW x c p (leastT x c p) = true := by
  have := h.pull; have := h.flow; have := h.rise; have := h.spread; have := h.draught; have := h.cold
  rw [trueW_iff]; simp only [leastT]; omega
theorem BOk.most {x : Wax} {c : Candle} {p : Int × Int} (h : BOk x c p) : trueW x c p (mostT x c p) = true := by
  have := h.pull; have := h.flow; have := h.rise; have := h.spread; have := h.draught; have := h.cold
  rw [trueW_iff]; simp only [mostT]; omega
/-- What burns in a truth, in bounds. -/
theorem drawn_bounds {x : Wax} {c : Candle} {p : Int × Int} (h : BOk x c p) {t : WTru} (ht : trueW x c p t = true) :
    (1 ≤ t.pull ∧ t.pull ≤ 1000) ∧ (1 ≤ t.flow ∧ t.flow ≤ 300) ∧ (10 ≤ 100 + t.draught ∧ 100 + t.draught ≤ 190) ∧ (1 ≤ t.rise ∧ t.rise ≤ 1000) ∧ (1 ≤ t.spread ∧ t.spread ≤ 2000) ∧ (0 ≤ t.cold ∧ t.cold ≤ 300) := by
  rw [trueW_iff] at ht
  have := h.pull; have := h.flow; have := h.rise; have := h.spread; have := h.draught; have := h.cold
  omega
theorem burn_le {x : Wax} {c : Candle} {p : Int × Int} (h : BOk x c p) {t u : WTru} (ht : trueW x c p t = true) (hu : trueW x c p u = true)
    (h1 : t.pull ≤ u.pull) (h2 : t.flow ≤ u.flow) (h3 : t.draught ≤ u.draught) (h4 : t.rise ≤ u.rise) (h5 : t.spread ≤ u.spread) (h6 : u.cold ≤ t.cold) :
    (burnV x t).rate ≤ (burnV x u).rate ∧ (burnV x t).flame ≤ (burnV x u).flame ∧ (burnV x t).pool ≤ (burnV x u).pool := by
  obtain ⟨a1, a2, a3, a4, a5, a6⟩ := drawn_bounds h ht
  obtain ⟨b1, b2, b3, b4, b5, b6⟩ := drawn_bounds h hu
  have hd : t.pull * t.flow * (100 + t.draught) ≤ u.pull * u.flow * (100 + u.draught) := mul3_le (by omega) (by omega) (by omega) h1 h2 (by omega)
  have h0 : 0 ≤ t.pull * t.flow * (100 + t.draught) := Int.mul_nonneg (Int.mul_nonneg (by omega) (by omega)) (by omega)
  have hc := h.chill
  simp only [burnV]
  refine ⟨by omega, Int.mul_le_mul hd h4 (by omega) (by omega), ?_⟩
  have e1 := Int.mul_le_mul hd h5 (by omega) (by omega)
  have e2 := Int.mul_le_mul_of_nonneg_right (c := x.chill) h6 hc.1
  omega
theorem burn_least {x : Wax} {c : Candle} {p : Int × Int} (h : BOk x c p) {t : WTru} (ht : trueW x c p t = true) :
    (burnV x (leastT x c p)).rate ≤ (burnV x t).rate ∧ (burnV x (leastT x c p)).flame ≤ (burnV x t).flame ∧ (burnV x (leastT x c p)).pool ≤ (burnV x t).pool := by
  have h' := trueW_iff.1 ht
  exact burn_le h h.least ht h'.1.1 h'.2.1.1 h'.2.2.2.2.1.1 h'.2.2.1.1 h'.2.2.2.1.1 h'.2.2.2.2.2.2
theorem burn_most {x : Wax} {c : Candle} {p : Int × Int} (h : BOk x c p) {t : WTru} (ht : trueW x c p t = true) :
    (burnV x t).rate ≤ (burnV x (mostT x c p)).rate ∧ (burnV x t).flame ≤ (burnV x (mostT x c p)).flame ∧ (burnV x t).pool ≤ (burnV x (mostT x c p)).pool := by
  have h' := trueW_iff.1 ht
  exact burn_le h ht h.most h'.1.2 h'.2.1.2 h'.2.2.2.2.1.2 h'.2.2.1.2 h'.2.2.2.1.2 h'.2.2.2.2.2.1
theorem faults_nil {s : WShop} {c : Candle} {k : Nat} : faultsV s c k = [] ↔
    smokes s (mostB s c k) = false ∧ goesOut s (leastB s c k) = false ∧ tunnels s c (leastB s c k) = false ∧ runs s c (mostB s c k) = false := by
  unfold faultsV wrongV
  simp only [List.append_eq_nil_iff, ite_eq_right_iff, List.cons_ne_nil, imp_false, Bool.not_eq_true]
  constructor
  · rintro ⟨⟨⟨h1, h2⟩, h3⟩, h4⟩; exact ⟨h1, h2, h3, h4⟩
  · rintro ⟨h1, h2, h3, h4⟩; exact ⟨⟨⟨h1, h2⟩, h3⟩, h4⟩
/-- With a wick that suits nothing is wrong in any truth. -/
theorem wrong_none {s : WShop} {c : Candle} (h : WOk s c) {k : Nat} (hk : k < s.wicks.length) (hf : faultsV s c k = []) {t : WTru} (ht : trueW (waxOf s c) c (wpull s k) t = true) :
    wrongV s c (burnV (waxOf s c) t) (burnV (waxOf s c) t) = [] := by
  have hb := h.bok hk
  obtain ⟨h1, h2, h3, h4⟩ := faults_nil.1 hf
  have l1 := burn_least hb ht
  have l2 := burn_most hb ht
  unfold smokes at h1; unfold goesOut at h2; unfold tunnels at h3; unfold runs at h4
  have h1 := of_decide_eq_false h1
  have h2 := of_decide_eq_false h2
  have h3 := of_decide_eq_false h3
  have h4 := of_decide_eq_false h4
  unfold leastB at h2 h3
  unfold mostB at h1 h4
  have e1 : smokes s (burnV (waxOf s c) t) = false := decide_eq_false (by omega)
  have e2 : goesOut s (burnV (waxOf s c) t) = false := decide_eq_false (by omega)
  have e3 : tunnels s c (burnV (waxOf s c) t) = false := decide_eq_false (by omega)
  have e4 : runs s c (burnV (waxOf s c) t) = false := decide_eq_false (by omega)
  unfold wrongV
  rw [e1, e2, e3, e4]
  rfl
/-- A number of a range, by turns. -/
def amongW (p : Int × Int) (n : Int) : Int := p.1 + n % (p.2 - p.1 + 1)
theorem among_in {p : Int × Int} (h : p.1 ≤ p.2) (n : Int) : p.1 ≤ amongW p n ∧ amongW p n ≤ p.2 := by
  unfold amongW
  have h1 := Int.emod_nonneg n (show p.2 - p.1 + 1 ≠ 0 by omega)
  have h2 := Int.emod_lt_of_pos n (show 0 < p.2 - p.1 + 1 by omega)
  omega
def wtruthV (s : WShop) (k : Nat) (c : Candle) (x : Nat → Int) : WTru :=
  ⟨amongW (wpull s k) (x 0), amongW (waxOf s c).flow (x 1), amongW (waxOf s c).rise (x 2), amongW (waxOf s c).spread (x 3), amongW (-c.draught, c.draught) (x 4), amongW c.cold (x 5)⟩
theorem wtruth_true {s : WShop} {c : Candle} (h : WOk s c) {k : Nat} (hk : k < s.wicks.length) (x : Nat → Int) : trueW (waxOf s c) c (wpull s k) (wtruthV s k c x) = true := by
  have hb := h.bok hk
  rw [trueW_iff]
  exact ⟨among_in hb.pull.2.1 _, among_in hb.flow.2.1 _, among_in hb.rise.2.1 _, among_in hb.spread.2.1 _, among_in (p := (-c.draught, c.draught)) (by have := hb.draught; simp only; omega) _, among_in hb.cold.2.1 _⟩
/-- The pull of a wick of which some parts of 1000 are left. -/
def weakP (pull left : Int × Int) : Int × Int := (max 1 (pull.1 * left.1 / 1000), max 1 ((pull.2 * left.2 + 999) / 1000))
def weakW (s : WShop) (k : Nat) (left : Int × Int) : WShop :=
  { s with wicks := s.wicks.set k { (s.wicks.getD k default) with pull := weakP (s.wicks.getD k default).pull left } }
theorem weakP_ok {pull left : Int × Int} (h1 : 1 ≤ pull.1 ∧ pull.1 ≤ pull.2 ∧ pull.2 ≤ 1000) (h2 : 0 ≤ left.1 ∧ left.1 ≤ left.2 ∧ left.2 ≤ 1000) :
    1 ≤ (weakP pull left).1 ∧ (weakP pull left).1 ≤ (weakP pull left).2 ∧ (weakP pull left).2 ≤ 1000 := by
  have e1 : pull.1 * left.1 ≤ pull.2 * left.2 := Int.mul_le_mul h1.2.1 h2.2.1 (by omega) (by omega)
  have e2 : pull.2 * left.2 ≤ 1000 * 1000 := Int.mul_le_mul h1.2.2 h2.2.2 (by omega) (by omega)
  simp only [weakP]
  omega
theorem getD_set_if {α : Type} (l : List α) (k i : Nat) (a d : α) (hk : k < l.length) : (l.set k a).getD i d = if i = k then a else l.getD i d := by
  simp only [List.getD_eq_getElem?_getD, List.getElem?_set]
  by_cases h : k = i
  · subst h; simp [hk]
  · rw [if_neg h, if_neg (fun e => h e.symm)]
theorem weak_name (s : WShop) {k : Nat} (hk : k < s.wicks.length) (left : Int × Int) (i : Nat) : ((weakW s k left).wicks.getD i default).name = (s.wicks.getD i default).name := by
  simp only [weakW]
  rw [getD_set_if _ _ _ _ _ hk]
  split
  · rename_i h; rw [h]
  · rfl
theorem any_take_names {f : ByteArray → Bool} (l : List Wick) (i : Nat) (hi : i ≤ l.length) : (l.take i).any (fun y => f y.name) = (List.range i).any (fun j => f (l.getD j default).name) := by
  induction i with
  | zero => simp
  | succ i ih =>
    have : l.take (i + 1) = l.take i ++ [l.getD i default] := by
      rw [List.take_add_one]
      simp [List.getD, show i < l.length by omega]
    rw [this, List.any_append, ih (by omega), List.range_succ, List.any_append]
    simp
theorem weak_ok {s : WShop} {c : Candle} (h : WOk s c) {k : Nat} (hk : k < s.wicks.length) {left : Int × Int} (h2 : 0 ≤ left.1 ∧ left.1 ≤ left.2 ∧ left.2 ≤ 1000) : WOk (weakW s k left) c := by
  have hl : (weakW s k left).wicks.length = s.wicks.length := by simp [weakW]
  have hn := weak_name s hk left
  refine ⟨by rw [hl]; exact h.nw1, by rw [hl]; exact h.nw12, h.nx1, h.nx6, h.flame, h.pool, fun i hi => by rw [hn]; exact h.wname i (by omega), fun i hi => ?_, fun i hi => ?_, fun i hi => ?_,
    h.xname, h.xtwice, h.chill, h.flow, h.rise, h.spread, h.wax, h.dia, h.draught, h.cold⟩
  · have := h.wtwice i (by omega)
    rw [hn, any_take_names (f := fun m => sameN (s.wicks.getD i default).name m) _ _ (by omega)]
    rw [any_take_names (f := fun m => sameN (s.wicks.getD i default).name m) _ _ (by omega)] at this
    simp only [hn]
    exact this
  · have := h.threads i (by omega)
    simp only [weakW]
    rw [getD_set_if _ _ _ _ _ hk]
    split
    · rename_i e; rw [← e]; exact this
    · exact this
  · have h1 := h.pull i (by omega)
    simp only [weakW]
    rw [getD_set_if _ _ _ _ _ hk]
    split
    · rename_i e; rw [← e]; exact weakP_ok h1 h2
    · exact h1
/-- A pull that is drawn, with what is left in a truth, rounded down and up. -/
theorem scented_pull {T w M : Int} {pull left : Int × Int} (hp : 1 ≤ pull.1) (h1 : pull.1 ≤ T) (h2 : T ≤ pull.2) (hw : 0 < w) (hl0 : 0 ≤ left.1)
    (hl : w * left.1 ≤ M) (hh : M ≤ w * left.2) :
    ((weakP pull left).1 ≤ max 1 (T * M / (1000 * w)) ∧ max 1 (T * M / (1000 * w)) ≤ (weakP pull left).2) ∧
    ((weakP pull left).1 ≤ max 1 ((T * M + 1000 * w - 1) / (1000 * w)) ∧ max 1 ((T * M + 1000 * w - 1) / (1000 * w)) ≤ (weakP pull left).2) := by
  have hM : 0 ≤ M := Int.le_trans (Int.mul_nonneg (by omega) hl0) hl
  have hl2 : 0 ≤ left.2 := by
    refine Int.not_lt.1 fun hlt => ?_
    have : w * left.2 < 0 := Int.mul_neg_of_pos_of_neg hw hlt
    omega
  have e1 : pull.1 * (w * left.1) ≤ T * M := Int.mul_le_mul h1 hl (Int.mul_nonneg (by omega) hl0) (by omega)
  have e2 : T * M ≤ pull.2 * (w * left.2) := Int.mul_le_mul h2 hh hM (by omega)
  have e3 : pull.1 * (w * left.1) = w * (pull.1 * left.1) := by rw [← Int.mul_assoc, Int.mul_comm pull.1 w, Int.mul_assoc]
  have e4 : pull.2 * (w * left.2) = w * (pull.2 * left.2) := by rw [← Int.mul_assoc, Int.mul_comm pull.2 w, Int.mul_assoc]
  rw [e3] at e1
  rw [e4] at e2
  simp only [weakP]
  generalize pull.1 * left.1 = A at *
  generalize pull.2 * left.2 = B at *
  generalize T * M = D at *
  have q1 : A / 1000 ≤ D / (1000 * w) := by
    rw [Int.le_ediv_iff_mul_le (by omega)]
    have : A / 1000 * (1000 * w) = w * (A / 1000 * 1000) := by rw [← Int.mul_assoc, Int.mul_comm]
    rw [this]
    have : A / 1000 * 1000 ≤ A := by omega
    have := Int.mul_le_mul_of_nonneg_left this (show 0 ≤ w by omega)
    omega
  have q2 : (D + 1000 * w - 1) / (1000 * w) ≤ (B + 999) / 1000 := by
    have : (D + 1000 * w - 1) / (1000 * w) < (B + 999) / 1000 + 1 := by
      rw [Int.ediv_lt_iff_lt_mul (by omega)]
      have e : ((B + 999) / 1000 + 1) * (1000 * w) = w * ((B + 999) / 1000 * 1000) + 1000 * w := by
        rw [Int.add_mul, Int.one_mul, ← Int.mul_assoc, Int.mul_comm w]
      rw [e]
      have : B ≤ (B + 999) / 1000 * 1000 := by omega
      have := Int.mul_le_mul_of_nonneg_left this (show 0 ≤ w by omega)
      omega
    omega
  have q3 : D / (1000 * w) ≤ (D + 1000 * w - 1) / (1000 * w) := Int.ediv_le_ediv (by omega) (by omega)
  omega
end Go.Proofs.YtpkggjobdmchlaaGreatDoor
/- The shop of wicks of the examples, and its values. -/
namespace Go.Proofs.YtpkggjobdmchlaaGreatDoor
set_option maxRecDepth 100000
def exThin : Wick := ⟨⟨#[116, 104, 105, 110]⟩, 10, (16, 18)⟩
def exMid : Wick := ⟨⟨#[109, 105, 100]⟩, 14, (20, 24)⟩
def exFat : Wick := ⟨⟨#[102, 97, 116]⟩, 20, (30, 36)⟩
def exBeesW : Wax := ⟨⟨#[98, 101, 101, 115]⟩, (100, 100), (150, 160), (1000, 1100), 1⟩
def exW : WShop := ⟨[exThin, exMid, exFat], [exBeesW], (20, 45), (500, 1000)⟩
def exC (d : Int) : Candle := ⟨0, d, 10, (0, 20)⟩
theorem exw_e : candleE exW (exC 300) = 0 := by kernel_rfl
theorem exw_e2 : candleE exW (exC 285) = 0 := by kernel_rfl
def exT22 : WTru := ⟨22, 100, 150, 1000, 0, 10⟩
theorem exw_true : trueW (waxOf exW (exC 300)) (exC 300) (wpull exW 1) exT22 = true := by kernel_rfl
theorem exw_at : burnV (waxOf exW (exC 300)) exT22 = ⟨22000000, 33000000, 219000000⟩ := by kernel_rfl
theorem exw_least : leastB exW (exC 300) 1 = ⟨18000000, 27000000, 178000000⟩ := by kernel_rfl
theorem exw_most : mostB exW (exC 300) 1 = ⟨26400000, 42240000, 290400000⟩ := by kernel_rfl
theorem exw_faults : faultsV exW (exC 300) 2 = [1, 4] := by kernel_rfl
theorem exw_suits : suitsV exW (exC 300) = [1] := by kernel_rfl
theorem exw_thin : thinTo exW (exC 300) 3 = 1 := by kernel_rfl
theorem exw_down : thinTo exW (exC 285) 3 = -1 := by kernel_rfl
theorem exw_sizes : sizesV exW (exC 300) 1 = (291, 356) := by kernel_rfl
theorem exw_sizesE : sizesE exW (exC 300) 1 = 0 := by kernel_rfl
theorem exw_minutes : minutesV exW (exC 300) 1 100 = (2272, 3334) := by kernel_rfl
end Go.Proofs.YtpkggjobdmchlaaGreatDoor
/- Shops of wicks in cells. -/
namespace Go.Proofs.YtpkggjobdmchlaaGreatDoor
open Go.RowKit
def rdWick : Rd Wick where
  sz := 4
  rd _ w b o x := w.cell? ⟨b, o, none⟩ = some (.string x.name) ∧ w.cell? ⟨b, o + 1, none⟩ = some (.int .i64 x.threads) ∧ w.cell? ⟨b, o + 2, none⟩ = some (.int .i64 x.pull.1) ∧
    w.cell? ⟨b, o + 3, none⟩ = some (.int .i64 x.pull.2) ∧ x.name.size ≤ 1000000000000000
  below hbb hb h := ⟨(hb.cell (p := ⟨_, _, none⟩) hbb).trans h.1, (hb.cell (p := ⟨_, _, none⟩) hbb).trans h.2.1, (hb.cell (p := ⟨_, _, none⟩) hbb).trans h.2.2.1,
    (hb.cell (p := ⟨_, _, none⟩) hbb).trans h.2.2.2.1, h.2.2.2.2⟩
  mono _ h := h
def rdWax : Rd Wax where
  sz := 8
  rd _ w b o x := w.cell? ⟨b, o, none⟩ = some (.string x.name) ∧ w.cell? ⟨b, o + 1, none⟩ = some (.int .i64 x.flow.1) ∧ w.cell? ⟨b, o + 2, none⟩ = some (.int .i64 x.flow.2) ∧
    w.cell? ⟨b, o + 3, none⟩ = some (.int .i64 x.rise.1) ∧ w.cell? ⟨b, o + 4, none⟩ = some (.int .i64 x.rise.2) ∧ w.cell? ⟨b, o + 5, none⟩ = some (.int .i64 x.spread.1) ∧
    w.cell? ⟨b, o + 6, none⟩ = some (.int .i64 x.spread.2) ∧ w.cell? ⟨b, o + 7, none⟩ = some (.int .i64 x.chill) ∧ x.name.size ≤ 1000000000000000
  below hbb hb h := ⟨(hb.cell (p := ⟨_, _, none⟩) hbb).trans h.1, (hb.cell (p := ⟨_, _, none⟩) hbb).trans h.2.1, (hb.cell (p := ⟨_, _, none⟩) hbb).trans h.2.2.1,
    (hb.cell (p := ⟨_, _, none⟩) hbb).trans h.2.2.2.1, (hb.cell (p := ⟨_, _, none⟩) hbb).trans h.2.2.2.2.1, (hb.cell (p := ⟨_, _, none⟩) hbb).trans h.2.2.2.2.2.1,
    (hb.cell (p := ⟨_, _, none⟩) hbb).trans h.2.2.2.2.2.2.1, (hb.cell (p := ⟨_, _, none⟩) hbb).trans h.2.2.2.2.2.2.2.1, h.2.2.2.2.2.2.2.2⟩
  mono _ h := h
abbrev WicksIn := SlIn rdWick
abbrev WaxesIn := SlIn rdWax
/-- Two slices are those of a shop. -/
def WShopAt (B : Nat) (w : World) (vw vx : Value) (s : WShop) : Prop := WicksIn B w vw s.wicks ∧ WaxesIn B w vx s.waxes
theorem WShopAt.below {B : Nat} {w w' : World} {vw vx : Value} {s : WShop} (h : WShopAt B w vw vx s) (hb : Below B w w') : WShopAt B w' vw vx s := ⟨h.1.below hb, h.2.below hb⟩
theorem WShopAt.mono {B B' : Nat} {w : World} {vw vx : Value} {s : WShop} (h : WShopAt B w vw vx s) (hb : B ≤ B') : WShopAt B' w vw vx s := ⟨h.1.mono hb, h.2.mono hb⟩
theorem WShopAt.next {w w' : World} {vw vx : Value} {s : WShop} (h : WShopAt w.heap.size w vw vx s) (hb : Below w.heap.size w w') : WShopAt w'.heap.size w' vw vx s := (h.below hb).mono hb.size
abbrev wshopC (vw vx : Value) (s : WShop) : Array Value := #[vw, vx, .int .i64 s.flame.1, .int .i64 s.flame.2, .int .i64 s.pool.1, .int .i64 s.pool.2]
abbrev candC (c : Candle) : Array Value := #[.int .i64 c.wax, .int .i64 c.dia, .int .i64 c.draught, .int .i64 c.cold.1, .int .i64 c.cold.2]
abbrev wtruC (t : WTru) : Array Value := #[.int .i64 t.pull, .int .i64 t.flow, .int .i64 t.rise, .int .i64 t.spread, .int .i64 t.draught, .int .i64 t.cold]
abbrev burnC (b : Burn) : Array Value := #[.int .i64 b.rate, .int .i64 b.flame, .int .i64 b.pool]
abbrev waxC (x : Wax) : Array Value := #[.string x.name, .int .i64 x.flow.1, .int .i64 x.flow.2, .int .i64 x.rise.1, .int .i64 x.rise.2, .int .i64 x.spread.1, .int .i64 x.spread.2, .int .i64 x.chill]
end Go.Proofs.YtpkggjobdmchlaaGreatDoor
/- A scented candle, plainly: with what is left of a wick's pull, in any truth, nothing is wrong. -/
namespace Go.Proofs.YtpkggjobdmchlaaGreatDoor
theorem wpull_weak (s : WShop) {k : Nat} (hk : k < s.wicks.length) (left : Int × Int) : wpull (weakW s k left) k = weakP (wpull s k) left := by
  unfold wpull
  simp only [weakW]
  rw [getD_set_if _ _ _ _ _ hk, if_pos rfl]
theorem scented_true {s : WShop} {c : Candle} (h : WOk s c) {k : Nat} (hk : k < s.wicks.length) {left : Int × Int} (x : Nat → Int) {e : Int}
    (he : (weakP (wpull s k) left).1 ≤ e ∧ e ≤ (weakP (wpull s k) left).2) :
    trueW (waxOf (weakW s k left) c) c (wpull (weakW s k left) k) { wtruthV s k c x with pull := e } = true := by
  have h1 := trueW_iff.1 (wtruth_true h hk x)
  rw [wpull_weak s hk, trueW_iff]
  exact ⟨he, h1.2⟩
theorem scented_wrong {s : WShop} {c : Candle} (h : WOk s c) {k : Nat} (hk : k < s.wicks.length) {left : Int × Int} (h2 : 0 ≤ left.1 ∧ left.1 ≤ left.2 ∧ left.2 ≤ 1000) (x : Nat → Int) {e : Int}
    (he : (weakP (wpull s k) left).1 ≤ e ∧ e ≤ (weakP (wpull s k) left).2) (hf : faultsV (weakW s k left) c k = []) :
    wrongV (weakW s k left) c (burnV (waxOf (weakW s k left) c) { wtruthV s k c x with pull := e }) (burnV (waxOf (weakW s k left) c) { wtruthV s k c x with pull := e }) = [] :=
  wrong_none (weak_ok h hk h2) (by simpa [weakW] using hk) hf (scented_true h hk x he)
end Go.Proofs.YtpkggjobdmchlaaGreatDoor
/- A wick suits a candle of each diameter in its Sizes. -/
namespace Go.Proofs.YtpkggjobdmchlaaGreatDoor
theorem sizes_suit {s : WShop} {c : Candle} (hs : WOk s c) {k : Nat} (h : sizesE s c k = 0) :
    (1 ≤ (sizesV s c k).1 ∧ (sizesV s c k).1 ≤ (sizesV s c k).2 ∧ (sizesV s c k).2 ≤ 2000) ∧ ∀ dia, (sizesV s c k).1 ≤ dia → dia ≤ (sizesV s c k).2 → faultsV s { c with dia := dia } k = [] ∧ WOk s { c with dia := dia } := by
  have hv : sizesV s c k = sizesV0 s (leastB s c k) (mostB s c k) := by unfold sizesV; rw [if_neg (by simp [h])]
  unfold sizesE at h
  split at h
  · cases h
  rename_i h1
  simp only [not_or, Bool.not_eq_true] at h1
  obtain ⟨h1, h2, h3⟩ := h1
  rw [← hv] at h1
  have hp := hs.pool
  have h4 : 1 ≤ (sizesV s c k).1 ∧ (sizesV s c k).2 ≤ 2000 := by
    rw [hv]
    unfold sizesV0 sizesHi
    constructor
    · split
      · simp
      · split
        · simp
        · simp; omega
    · split
      · simp only; split
        · omega
        · split <;> omega
      · split
        · simp
        · simp only; split
          · omega
          · split <;> omega
  refine ⟨by omega, fun dia hl hh => ?_⟩
  have e1 : leastB s { c with dia := dia } k = leastB s c k := rfl
  have e2 : mostB s { c with dia := dia } k = mostB s c k := rfl
  have ok : WOk s { c with dia := dia } := { hs with dia := by simp only; omega, wax := hs.wax, draught := hs.draught, cold := hs.cold }
  refine ⟨?_, ok⟩
  unfold faultsV wrongV
  rw [e1, e2, h2, h3]
  have t1 : tunnels s { c with dia := dia } (leastB s c k) = false := by
    unfold tunnels
    simp only [decide_eq_false_iff_not, Int.not_lt]
    rw [hv] at hl hh h1 h4
    generalize leastB s c k = lo at *
    generalize mostB s c k = hi at *
    have hhi : sizesHi s lo ≥ dia := by
      unfold sizesV0 at hh hl
      split at hh
      · exact hh
      · rename_i hx
        rw [if_neg hx] at hl
        split at hh
        · rename_i hy
          rw [if_pos hy] at hl
          simp only at hl hh
          omega
        · exact hh
    have hd1 : 1 ≤ dia := by omega
    unfold sizesHi at hhi
    split at hhi
    · omega
    · split at hhi
      · have h5 : dia ≤ lo.pool / (s.pool.1 * 1000) := by omega
        have h6 := Int.mul_le_mul_of_nonneg_right h5 (show 0 ≤ s.pool.1 * 1000 by omega)
        have h7 := Int.ediv_mul_le lo.pool (show s.pool.1 * 1000 ≠ 0 by omega)
        have h8 : s.pool.1 * dia * 1000 = dia * (s.pool.1 * 1000) := by rw [Int.mul_comm s.pool.1 dia, Int.mul_assoc]
        omega
      · have h9 : s.pool.1 = 0 := by omega
        rw [h9]
        omega
  have t2 : runs s { c with dia := dia } (mostB s c k) = false := by
    unfold runs
    simp only [decide_eq_false_iff_not, Int.not_lt]
    rw [hv] at hl hh h1 h4
    generalize leastB s c k = lo at *
    generalize mostB s c k = hi at *
    have hd1 : 1 ≤ dia := by omega
    unfold sizesV0 at hl hh
    split at hl
    · have : 0 ≤ s.pool.2 * dia := Int.mul_nonneg (by omega) (by omega)
      omega
    · rename_i hx
      rw [if_neg hx] at hh
      split at hl
      · rename_i hy
        rw [if_pos hy] at hh
        simp only at hl hh
        omega
      · rename_i hy
        have hq : 0 < s.pool.2 * 1000 := by omega
        have h5 : (hi.pool + s.pool.2 * 1000 - 1) / (s.pool.2 * 1000) ≤ dia := by simp only at hl; omega
        have h6 := Int.lt_ediv_add_one_mul_self (hi.pool + s.pool.2 * 1000 - 1) hq
        have h7 := Int.mul_le_mul_of_nonneg_right h5 (Int.le_of_lt hq)
        rw [Int.add_mul, Int.one_mul] at h6
        have h8 : s.pool.2 * dia * 1000 = dia * (s.pool.2 * 1000) := by rw [Int.mul_comm s.pool.2 dia, Int.mul_assoc]
        omega
  rw [t1, t2]
  rfl
end Go.Proofs.YtpkggjobdmchlaaGreatDoor
