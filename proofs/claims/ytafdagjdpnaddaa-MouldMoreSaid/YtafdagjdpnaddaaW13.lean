/- mould.when. -/
import Derived.Test.YtafdagjdpnaddaaW11
import Derived.Test.YtafdagjdpnaddaaW12
import Derived.Test.YtafdagjdpnaddaaW2
import Derived.Test.YtafdagjdpnaddaaW7
import Derived.Carry
import Derived.Scope
import Derived.WalkMore
namespace Go.Proofs.Ytafdagjdpnaddaa
open Go.RowKit Go.Shelf
attribute [local go_sem] Oper.semAt_some
/-- When each ring sets, 601: never. -/
def setAtE (m : Mou) (hot : Bool) (i : Nat) : Int := if firstTo (setP m hot i) 601 < 0 then 601 else firstTo (setP m hot i) 601
def whenP (m : Mou) (hot : Bool) : List Int := (List.range m.rings.toNat).map (setAtE m hot)
/-- A row of ints in a block of its own, from B on. -/
def FrI (B : Nat) (w : World) (v : Value) (l : List Int) : Prop := ∃ g n, n = l.length ∧ v = .slice (some ⟨g, 0, none⟩) n n ∧ w.heap[g]? = some (.cells (ints l) 3) ∧ B ≤ g
theorem FrI.ints {B : Nat} {w : World} {v : Value} {l : List Int} (h : FrI B w v l) (hl : l.length ≤ 1000) : IntsIn .i64 w.heap.size w v l := by
  obtain ⟨g, n, rfl, rfl, hg, -⟩ := h
  exact intsIn_row hg hl
theorem FrI.call {B : Nat} {w w' : World} {v : Value} {l : List Int} (h : FrI B w v l) (hb : Below w.heap.size w w') : FrI B w' v l := by
  obtain ⟨g, n, e1, e2, hg, hB⟩ := h
  exact ⟨g, n, e1, e2, block_keep hg hb, hB⟩
theorem FrI.mono {B B' : Nat} {w : World} {v : Value} {l : List Int} (h : FrI B w v l) (hB : B' ≤ B) : FrI B' w v l := by
  obtain ⟨g, n, e1, e2, hg, h⟩ := h
  exact ⟨g, n, e1, e2, hg, by omega⟩
theorem FrI.keep {B : Nat} {w w' : World} {v : Value} {l : List Int} (h : FrI B w v l) (hk : ∀ k, B ≤ k → k < w.heap.size → w'.heap[k]? = w.heap[k]?) : FrI B w' v l := by
  obtain ⟨g, n, e1, e2, hg, hB⟩ := h
  exact ⟨g, n, e1, e2, (hk g hB (block_lt hg)).trans hg, hB⟩
def RetF (l : List Int) (w : World) (e : Ending) (w' : World) : Prop := ∃ v, e = .returned v ∧ FrI w.heap.size w' v l ∧ Below w.heap.size w w'
def RetI (l : List Int) (w : World) (e : Ending) (w' : World) : Prop := ∃ v, e = .returned v ∧ IntsIn .i64 w'.heap.size w' v l ∧ Below w.heap.size w w'
theorem minutes_gives {α : Type} (encs : α → Array Value) (day : Nat → α) (hot : Bool) (m : Mou) (hm : Valid m) (n : Nat) (hn : 1 ≤ n) (f bm bo : Nat) (hf : f = if hot then 56 else 55) (w : World) (hen : ∀ k, k < 601 → encs (day k) = #[.int .i64 k, .agg (ints (pad (warmL m hot k)))])
    (hbm : w.heap[bm]? = some (.cells #[.int .i64 m.rings, .int .i64 m.give, .int .i64 m.pl, .int .i64 m.ph, .int .i64 m.wl, .int .i64 m.wh, .int .i64 m.set, .int .i64 m.shrink, .int .i64 m.skin, .int .i64 m.fill, .int .i64 m.gap, .int .i64 m.deep] 85)) (hbo : w.heap[bo]? = some (.cells #[.func (.func f) #[] #[]] 96)) :
    IterGives Fence.wide n Try.prog 69 #[.pointer (some ⟨bm, 0, none⟩), .pointer (some ⟨bo, 0, none⟩)] encs (MiK w.heap.size bm bo) (fun xs => xs = upA day 601) (fun pre => ∃ k, k ≤ 601 ∧ pre = upA day k) 601 w := by
  subst hf
  cases hot
  · exact minutes1_cold encs day m hm n hn bm bo w hen hbm hbo
  · exact minutes1_hot encs day m hm n hn bm bo w hen hbm hbo
theorem minutes_f (f : Nat) (m : Mou) (w : World) : Calls Try.prog 57 #[.agg #[.int .i64 m.rings, .int .i64 m.give, .int .i64 m.pl, .int .i64 m.ph, .int .i64 m.wl, .int .i64 m.wh, .int .i64 m.set, .int .i64 m.shrink, .int .i64 m.skin, .int .i64 m.fill, .int .i64 m.gap, .int .i64 m.deep], .func (.func f) #[] #[]] w
    fun e w' => e = .returned (.func (.func 69) #[] #[.pointer (some ⟨w.heap.size, 0, none⟩), .pointer (some ⟨w.heap.size + 1, 0, none⟩)]) ∧
      w' = (w.alloc (.cells #[.int .i64 m.rings, .int .i64 m.give, .int .i64 m.pl, .int .i64 m.ph, .int .i64 m.wl, .int .i64 m.wh, .int .i64 m.set, .int .i64 m.shrink, .int .i64 m.skin, .int .i64 m.fill, .int .i64 m.gap, .int .i64 m.deep] 85)).alloc (.cells #[.func (.func f) #[] #[]] 96) := by
  go_enter Try.func57, Try.ntmps57
  go_wp2
  go_ret
  exact ⟨rfl, rfl⟩
def encM (m : Mou) (hot : Bool) (x : Mi) : Array Value := #[.int .i64 (x.1 : Int), .agg (ints (pad (warmL m hot x.1)))]
/-- The blocks of when. -/
structure WhenW (w : World) (m : Mou) (r : Nat) (f : Nat → Int) (W : World) : Prop where
  bx : W.heap[w.heap.size]? = some (.cells #[.int .i64 m.rings, .int .i64 m.give, .int .i64 m.pl, .int .i64 m.ph, .int .i64 m.wl, .int .i64 m.wh, .int .i64 m.set, .int .i64 m.shrink, .int .i64 m.skin, .int .i64 m.fill, .int .i64 m.gap, .int .i64 m.deep] 85)
  mp : SetM (w.heap.size + 1) r f W
  va : W.heap[w.heap.size + 1 + 1]? = some (.cells #[.map (some (w.heap.size + 1))] 118)
  bel : Below w.heap.size w W
theorem WhenW.cong {w W : World} {m : Mou} {r : Nat} {f g : Nat → Int} (h : WhenW w m r f W) (e : ∀ i, i < r → f i = g i) : WhenW w m r g W := ⟨h.bx, h.mp.congr e, h.va, h.bel⟩
theorem WhenW.firm {w : World} {m : Mou} {r : Nat} {f : Nat → Int} {B : Nat} (hB : w.heap.size + 3 ≤ B) : Firm B (WhenW w m r f) := fun _ _ h hb =>
  ⟨(hb.block _ (by omega)).trans h.bx, h.mp.keep (hb.block _ (by omega)), (hb.block _ (by omega)).trans h.va, h.bel.trans (hb.mono (by omega))⟩
theorem wpIn_world {P : Program} {Fe : Fence} {n : Nat} {c : Code} {Q : Exit → Act → World → Prop} {a : Act} {w : World} (S : World → Prop) (h : S w) (k : ∀ w', S w' → c.wpIn Fe n P Q a w') : c.wpIn Fe n P Q a w := k w h
theorem five_allocs (w : World) (a b c d e : Obj) : ((((((w.alloc a).alloc b).alloc c).alloc d).alloc e).heap[w.heap.size]? = some a ∧ (((((w.alloc a).alloc b).alloc c).alloc d).alloc e).heap[w.heap.size + 1]? = some b) ∧ (((((w.alloc a).alloc b).alloc c).alloc d).alloc e).heap[w.heap.size + 1 + 1]? = some c ∧
    (((((w.alloc a).alloc b).alloc c).alloc d).alloc e).heap[w.heap.size + 1 + 1 + 1]? = some d ∧ (((((w.alloc a).alloc b).alloc c).alloc d).alloc e).heap[w.heap.size + 1 + 1 + 1 + 1]? = some e ∧ (((((w.alloc a).alloc b).alloc c).alloc d).alloc e).heap.size = w.heap.size + 5 := by
  have k : ∀ {x : World} {i : Nat} {o : Obj} (p : Obj), x.heap[i]? = some o → (x.alloc p).heap[i]? = some o := fun {x} {i} {o} p h => (Below.heap_alloc x p i (block_lt h)).trans h
  have a1 := heap_alloc_new w a
  have b1 := heap_alloc_new (w.alloc a) b
  have c1 := heap_alloc_new ((w.alloc a).alloc b) c
  have d1 := heap_alloc_new (((w.alloc a).alloc b).alloc c) d
  have e1 := heap_alloc_new ((((w.alloc a).alloc b).alloc c).alloc d) e
  simp only [World.size_alloc] at b1 c1 d1 e1
  exact ⟨⟨k e (k d (k c (k b a1))), k e (k d (k c b1))⟩, k e (k d c1), k e d1, e1, by simp only [World.size_alloc]⟩
theorem wpIn_scope_wide {P : Program} {n : Nat} {c : Code} {Q : Exit → Act → World → Prop} {a : Act} {w : World} (h : c.wpIn Fence.wide n P (Exit.noGoto Q) a w) : (Code.scope c).wpIn Fence.wide n P Q a w :=
  wpIn_wide.2 (wp_scope_straight (wpIn_wide.1 h))
/-- Rings up to k have seen minute x. -/
def mixF (m : Mou) (hot : Bool) (pre : List Mi) (x : Mi) (k i : Nat) : Int := if i < k then stepW m hot i (whenF m hot pre i) x else whenF m hot pre i
theorem mixF_zero (m : Mou) (hot : Bool) (pre : List Mi) (x : Mi) (i : Nat) : mixF m hot pre x 0 i = whenF m hot pre i := by simp [mixF]
theorem mixF_all (m : Mou) (hot : Bool) (pre : List Mi) (x : Mi) {r i : Nat} (h : i < r) : mixF m hot pre x r i = whenF m hot (pre ++ [x]) i := by rw [whenF_snoc]; simp [mixF, h]
theorem mixF_succ (m : Mou) (hot : Bool) (pre : List Mi) (x : Mi) (k i : Nat) : mixF m hot pre x (k + 1) i = if i = k then stepW m hot k (whenF m hot pre k) x else mixF m hot pre x k i := by
  unfold mixF
  by_cases e : i = k
  · subst e; simp
  · by_cases h : i < k
    · rw [if_pos (by omega), if_neg e, if_pos h]
    · rw [if_neg (by omega), if_neg e, if_neg h]
theorem mixF_stay {m : Mou} {hot : Bool} {pre : List Mi} {x : Mi} {k : Nat} (h : ¬ (whenF m hot pre k < 0 ∧ (warmL m hot x.1).getD k 0 ≤ m.set)) (i : Nat) : mixF m hot pre x k i = mixF m hot pre x (k + 1) i := by
  rw [mixF_succ]
  by_cases e : i = k
  · subst e
    rw [if_pos rfl, stepW, if_neg h]
    simp [mixF]
  · rw [if_neg e]
theorem mixF_put {m : Mou} {hot : Bool} {pre : List Mi} {x : Mi} {k : Nat} (h : whenF m hot pre k < 0 ∧ (warmL m hot x.1).getD k 0 ≤ m.set) (i : Nat) : putF (mixF m hot pre x k) k (x.1 : Int) i = mixF m hot pre x (k + 1) i := by
  rw [mixF_succ]
  unfold putF
  by_cases e : i = k
  · rw [if_pos e, if_pos e, stepW, if_pos h]
  · rw [if_neg e, if_neg e]
theorem mixF_at (m : Mou) (hot : Bool) (pre : List Mi) (x : Mi) (k : Nat) : mixF m hot pre x k k = whenF m hot pre k := by simp [mixF]
def setAtF (m : Mou) (hot : Bool) (i : Nat) : Int := firstTo (setP m hot i) 601
/-- The row while the entries that are left are still to come. -/
def rowL (D : DataW Unit) (f : Nat → Int) (r : Nat) (left : Lit → Bool) : List Int := (List.range r).map fun (i : Nat) => if Maps.has D (.int .i64 (i : Int)) = true ∧ left (.int .i64 (i : Int)) = false then f i else 601
theorem rowL_start (D : DataW Unit) (f : Nat → Int) (r : Nat) : rowL D f r (Maps.has D) = List.replicate r 601 := by
  apply List.ext_getElem?
  intro i
  by_cases h : i < r
  · simp only [rowL, List.getElem?_map, List.getElem?_range h, Option.map_some, List.getElem?_replicate, if_pos h]
    cases Maps.has D (.int .i64 (i : Int)) <;> simp
  · simp [rowL, h]
theorem rowL_end {D : DataW Unit} {m : Mou} {hot : Bool} {r : Nat} {left : Lit → Bool} (hh : ∀ i : Nat, i < r → Maps.has D (.int .i64 (i : Int)) = decide (0 ≤ setAtF m hot i)) (hl : ∀ kl, left kl = false) :
    rowL D (setAtF m hot) r left = (List.range r).map (setAtE m hot) := by
  unfold rowL
  apply List.map_congr_left
  intro i hi
  have := hh i (List.mem_range.1 hi)
  unfold setAtE
  rw [this, hl]
  show _ = if setAtF m hot i < 0 then 601 else setAtF m hot i
  by_cases h : setAtF m hot i < 0
  · rw [if_pos h, if_neg (by simp; omega)]
  · rw [if_neg h, if_pos (by simp; omega)]
theorem grown_cell (w : World) (g i : Nat) (v : Value) : w.grownBy (w.setCell ⟨g, i, none⟩ v) (some g) := ⟨rfl, rfl, rfl, by simp, fun k _ hk => heap_setCell_other _ _ _ _ (fun e => hk (by rw [e]))⟩
theorem rowL_step (D : DataW Unit) (f : Nat → Int) (r : Nat) (left : Lit → Bool) {i : Nat} (hi : i < r) (hd : Maps.has D (.int .i64 (i : Int)) = true) :
    (rowL D f r left).set i (f i) = rowL D f r (fun z => left z && !z.sameKey (.int .i64 (i : Int))) := by
  apply List.ext_getElem?
  intro j
  by_cases hj : j < r
  · by_cases e : i = j
    · subst e
      rw [List.getElem?_set_self (by simp [rowL, hi])]
      simp [rowL, hi, hd, WideAt.sameKey_self (a := Lit.int .i64 (i : Int)) trivial]
    · rw [List.getElem?_set_ne e]
      simp only [rowL, List.getElem?_map, List.getElem?_range hj, Option.map_some, Maps.sameKey_ne (lit_ne (fun h => e h.symm)), Bool.not_false, Bool.and_true]
  · simp [rowL, hj]
set_option maxRecDepth 100000 in
set_option maxHeartbeats 8000000 in
theorem when_any (hot : Bool) (m : Mou) (hm : Valid m) (w : World) : Calls Try.prog 70 #[.agg #[.int .i64 m.rings, .int .i64 m.give, .int .i64 m.pl, .int .i64 m.ph, .int .i64 m.wl, .int .i64 m.wh, .int .i64 m.set, .int .i64 m.shrink, .int .i64 m.skin, .int .i64 m.fill, .int .i64 m.gap, .int .i64 m.deep], .func (.func (if hot then 56 else 55)) #[] #[]] w (RetF (whenP m hot) w) := by
  obtain ⟨f, hf⟩ : ∃ f : Nat, f = if hot then 56 else 55 := ⟨_, rfl⟩
  rw [← hf]
  have HF := Lib.hid hf
  have HM := Lib.hid hm
  obtain ⟨r, hr⟩ : ∃ r : Nat, m.rings = r := ⟨m.rings.toNat, by have := hm.r1; omega⟩
  have hr1 : 1 ≤ r := by have := hm.r1; omega
  have hr8 : r ≤ 8 := by have := hm.r8; omega
  have HR := Lib.hid hr
  clear hf hm hr
  refine (callsIn_wide (n := 3)).1 ?_
  refine callsIn_of_wp_marks Try.func70 rfl trivial ?_ rfl
  simp only [Try.ntmps70, List.size_toArray, List.length_cons, List.length_nil, Nat.reduceAdd, Nat.reduceSub, Array.replicate_succ, Array.replicate_zero, List.push_toArray, List.append_toArray, List.nil_append, List.cons_append]
  have hmm := @run_makeMap Try.prog
  gi_wp2_with fail
  refine wpIn_scope_wide ?_
  gi_wp2_with fail
  refine wpIn_label ?_
  gi_wp2_with fail
  refine ⟨trivial, (callsIn_wide.2 (minutes_f f m _)).mono ?_⟩
  rintro e' w2 ⟨rfl, rfl⟩
  gi_wp2_with fail
  refine wpIn_world (fun W0 => WhenW w m r (fun _ => -1) W0 ∧ W0.heap[w.heap.size + 1 + 1 + 1]? = some (.cells #[.int .i64 m.rings, .int .i64 m.give, .int .i64 m.pl, .int .i64 m.ph, .int .i64 m.wl, .int .i64 m.wh, .int .i64 m.set, .int .i64 m.shrink, .int .i64 m.skin, .int .i64 m.fill, .int .i64 m.gap, .int .i64 m.deep] 85) ∧ W0.heap[w.heap.size + 1 + 1 + 1 + 1]? = some (.cells #[.func (.func f) #[] #[]] 96) ∧ W0.heap.size = w.heap.size + 5) ?_ ?_
  · have h5 := five_allocs w (.cells #[.int .i64 m.rings, .int .i64 m.give, .int .i64 m.pl, .int .i64 m.ph, .int .i64 m.wl, .int .i64 m.wh, .int .i64 m.set, .int .i64 m.shrink, .int .i64 m.skin, .int .i64 m.fill, .int .i64 m.gap, .int .i64 m.deep] 85) (.map #[] 0) (.cells #[.map (some (w.heap.size + 1))] 118) (.cells #[.int .i64 m.rings, .int .i64 m.give, .int .i64 m.pl, .int .i64 m.ph, .int .i64 m.wl, .int .i64 m.wh, .int .i64 m.set, .int .i64 m.shrink, .int .i64 m.skin, .int .i64 m.fill, .int .i64 m.gap, .int .i64 m.deep] 85) (.cells #[.func (.func f) #[] #[]] 96)
    have hb5 : Below w.heap.size w (((((w.alloc (.cells #[.int .i64 m.rings, .int .i64 m.give, .int .i64 m.pl, .int .i64 m.ph, .int .i64 m.wl, .int .i64 m.wh, .int .i64 m.set, .int .i64 m.shrink, .int .i64 m.skin, .int .i64 m.fill, .int .i64 m.gap, .int .i64 m.deep] 85)).alloc (.map #[] 0)).alloc (.cells #[.map (some (w.heap.size + 1))] 118)).alloc (.cells #[.int .i64 m.rings, .int .i64 m.give, .int .i64 m.pl, .int .i64 m.ph, .int .i64 m.wl, .int .i64 m.wh, .int .i64 m.set, .int .i64 m.shrink, .int .i64 m.skin, .int .i64 m.fill, .int .i64 m.gap, .int .i64 m.deep] 85)).alloc (.cells #[.func (.func f) #[] #[]] 96)) := (((((Below.refl w.heap.size w).alloc (Nat.le_refl _) _).alloc (by simp) _).alloc (by simp; omega) _).alloc (by simp; omega) _).alloc (by simp; omega) _
    refine ⟨⟨h5.1.1, ?_, h5.2.1, hb5⟩, h5.2.2.1, h5.2.2.2.1, h5.2.2.2.2⟩
    have hs := SetM.start (w.alloc (.cells #[.int .i64 m.rings, .int .i64 m.give, .int .i64 m.pl, .int .i64 m.ph, .int .i64 m.wl, .int .i64 m.wh, .int .i64 m.set, .int .i64 m.shrink, .int .i64 m.skin, .int .i64 m.fill, .int .i64 m.gap, .int .i64 m.deep] 85)) r (f := fun _ => -1) (fun _ _ => by omega)
    rw [World.size_alloc] at hs
    refine hs.keep ?_
    rw [h5.1.2]
    exact (heap_alloc2_new w _ _).symm
  rintro W0 ⟨hI0, hbm, hbo, hsz⟩
  have HI0 := Lib.hid hI0
  have HBM := Lib.hid hbm
  have HBO := Lib.hid hbo
  clear hI0 hbm hbo
  refine wpIn_range_firm (α := Mi) rfl (by omega) (gf := 69) (lb := #[.pointer (some ⟨w.heap.size + 1 + 1 + 1, 0, none⟩), .pointer (some ⟨w.heap.size + 1 + 1 + 1 + 1, 0, none⟩)]) rfl trivial (enters_of Try.func69 (by kernel_rfl) rfl)
    (minutes_gives (encM m hot) dayM hot m HM.out 2 (by omega) f (w.heap.size + 1 + 1 + 1) (w.heap.size + 1 + 1 + 1 + 1) HF.out W0 (fun k hk => by unfold encM; rw [dayM_val hk]) HBM.out HBO.out)
    (fun h k => MiK.t h k) (MiK.b (by omega) (by omega)) (fun _ => rfl)
    (fun pre W => WhenW w m r (whenF m hot pre) W) (fun c pre W => c = .exit 0 ∧ WhenW w m r (whenF m hot pre) W ∧ ∀ i, i < r → 0 ≤ whenF m hot pre i)
    (fun _ => WhenW.firm (by omega)) (fun _ _ W W' h hb => ⟨h.1, WhenW.firm (by omega) _ _ h.2.1 hb, h.2.2⟩) HI0.out
    (fun x a' W => ∃ Bx, W0.heap.size ≤ Bx ∧ W.heap[Bx]? = some (.cells (ints (pad (warmL m hot x.1))) 87) ∧ a' = { tmps := #[.agg #[.int .i64 m.rings, .int .i64 m.give, .int .i64 m.pl, .int .i64 m.ph, .int .i64 m.wl, .int .i64 m.wh, .int .i64 m.set, .int .i64 m.shrink, .int .i64 m.skin, .int .i64 m.fill, .int .i64 m.gap, .int .i64 m.deep], .func (.func f) #[] #[], .pointer (some ⟨w.heap.size, 0, none⟩), undef, .slice none 0 0, .pointer (some ⟨w.heap.size + 1 + 1, 0, none⟩), .int .i64 (x.1 : Int), .pointer (some ⟨Bx, 0, none⟩), undef, undef, undef, undef, undef, undef, undef, .map (some (w.heap.size + 1)), .agg #[.int .i64 m.rings, .int .i64 m.give, .int .i64 m.pl, .int .i64 m.ph, .int .i64 m.wl, .int .i64 m.wh, .int .i64 m.set, .int .i64 m.shrink, .int .i64 m.skin, .int .i64 m.fill, .int .i64 m.gap, .int .i64 m.deep], .func (.func f) #[] #[], .func (.func 69) #[] #[.pointer (some ⟨w.heap.size + 1 + 1 + 1, 0, none⟩), .pointer (some ⟨w.heap.size + 1 + 1 + 1 + 1, 0, none⟩)], .int .i64 (x.1 : Int), .agg (ints (pad (warmL m hot x.1))), undef, undef, undef, undef, undef, undef, undef, undef, undef, undef, undef, undef, undef, undef, undef, undef, undef, undef, undef, undef, undef, undef, undef, undef, undef, undef, undef, undef, undef, undef, undef, undef, undef, undef, undef, undef, undef, undef, undef, undef, undef, undef, undef, undef, undef, undef, undef, undef, undef, undef, undef, undef], defers := [] })
    (fun x a' W l o o' h _ hl hc => by
      obtain ⟨Bx, h1, h2, h3⟩ := h
      refine ⟨Bx, h1, ?_, h3⟩
      by_cases e : Bx = l
      · subst e
        rw [h2] at hl
        cases hl
        simp [Obj.isCells] at hc
      · exact (World.putObj_heap_other e).trans h2)
    ?assign ?body ?done ?stop
  case assign =>
    rintro l pre x W K hI hsz0 hK
    have hp8 : (pad (warmL m hot x.1)).length = 8 := pad_length (by rw [warmL_length, HR.out, Int.toNat_natCast]; exact hr8)
    have HP8 := Lib.hid hp8
    have HK := Lib.hid hK
    have HI := Lib.hid hI
    clear hp8 hK hI
    have hz : (W.alloc (.cells (ints (List.replicate 8 0)) 87)).heap[W.heap.size]? = some (.cells (ints (List.replicate 8 0)) 87) := heap_alloc_new W _
    have HZ := Lib.hid hz
    clear hz
    simp only [encM]
    gi_wp2_with (refine wpListIn_store_row rfl 87 _ _ rfl W.heap.size (ints (pad (warmL m hot x.1))) rfl rfl 87 _ HZ.out (by rw [ints_size, HP8.out]; exact info87) (by rw [ints_size, ints_size, HP8.out]; rfl) (ints_oneCell _) ?_)
    have hb : Below W.heap.size W ((W.alloc (.cells (ints (List.replicate 8 0)) 87)).setRow W.heap.size (ints (pad (warmL m hot x.1)))) := below_setRow ((Below.refl _ _).alloc (Nat.le_refl _) _) (Nat.le_refl _) _
    exact HK.out _ _ ⟨hb.size, fun k o _ hk _ => block_keep hk hb⟩ (MiK.below (by omega) (by omega) hb) (WhenW.firm (B := W.heap.size) (by omega) _ _ HI.out hb) ⟨W.heap.size, hsz0, setRow_heap _ _ _ _ _ _ HZ.out, rfl⟩
  case body =>
    rintro l pre x a' W hszW hI ⟨Bx, hBx, hbx, rfl⟩ hlen
    have HI := Lib.hid hI
    have HBX := Lib.hid hbx
    have hmr : m.rings = (r : Int) := HR.out
    have c0 := fun i => cell_of_row W _ i _ _ _ hI.bx
    have hp8 : (pad (warmL m hot x.1)).length = 8 := pad_length (by rw [warmL_length, HR.out, Int.toNat_natCast]; exact hr8)
    have HP8 := Lib.hid hp8
    have hr8i : (r : Int) ≤ 8 := by omega
    have hn1 : 1 ≤ 3 - 1 - 1 := by omega
    have hx601 := x.2
    clear hI hbx hp8 hlen
    gi_wp2_with fail
    clear c0
    gi_loopw [26] (fun i W' => ∃ k : Nat, k ≤ r ∧ i = .int .i64 k ∧ SetM (w.heap.size + 1) r (mixF m hot pre x k) W' ∧ W.grownBy W' (some (w.heap.size + 1))) (fun i _ => r - (intOf i).toNat)
    case atStart => exact ⟨0, by omega, rfl, HI.out.mp.congr (fun i _ => (mixF_zero m hot pre x i).symm), World.grownBy.refl _ _⟩
    case round =>
      obtain ⟨k, hk, rfl, hS, hG⟩ := hrel
      have HG := Lib.hid hG
      have HS := Lib.hid hS
      have hvb : wr.heap[w.heap.size + 1 + 1]? = some (.cells #[.map (some (w.heap.size + 1))] 118) := (hG.block _ (by omega) (by simp)).trans HI.out.va
      have hbb : wr.heap[w.heap.size]? = some (.cells #[.int .i64 m.rings, .int .i64 m.give, .int .i64 m.pl, .int .i64 m.ph, .int .i64 m.wl, .int .i64 m.wh, .int .i64 m.set, .int .i64 m.shrink, .int .i64 m.skin, .int .i64 m.fill, .int .i64 m.gap, .int .i64 m.deep] 85) := (hG.block _ (by omega) (by simp)).trans HI.out.bx
      have c0 := fun i => cell_of_row wr _ i _ _ _ hbb
      have c1 := fun i => cell_of_row wr _ i _ _ _ hvb
      clear hG hS
      by_cases hlt : k < r
      · obtain ⟨D, ho, hT, hsz, hh, ha, hkk⟩ := HS.out
        have HO := Lib.hid ho
        have HT := Lib.hid hT
        have HSZ := Lib.hid hsz
        have HH := Lib.hid hh
        have HA := Lib.hid ha
        have HKK := Lib.hid hkk
        have HLT := Lib.hid hlt
        obtain ⟨wk, hwk⟩ : ∃ y, (warmL m hot x.1).getD k 0 = y := ⟨_, rfl⟩
        have HWK := Lib.hid hwk
        have hck : wr.cell? ⟨Bx, k, none⟩ = some (.int .i64 wk) := by
          rw [cell_of_row wr Bx k _ _ _ ((HG.out.block _ (block_lt HBX.out) (by simp; omega)).trans HBX.out), ints_get _ _ (by rw [HP8.out]; omega), pad_at (by rw [warmL_length, HR.out, Int.toNat_natCast]; exact hlt), hwk]
        have hki : (k : Int) < (r : Int) := by omega
        have hfr := whenF_range m hot k pre
        clear ho hT hsz hh ha hkk hwk
        obtain ⟨f0, hf0⟩ : ∃ y, whenF m hot pre k = y := ⟨_, rfl⟩
        have HF0 := Lib.hid hf0
        rw [hf0] at hfr
        have hhk := HH.out k hlt
        rw [mixF_at, hf0] at hhk
        clear hf0
        by_cases h0 : 0 ≤ f0
        · rw [decide_eq_true h0] at hhk
          have HHK := Lib.hid hhk
          clear hhk
          gi_wp2_with (gi_at_lookup; refine wpListIn_lookup_own_ok_int _ rfl _ _ 118 rfl 3 3 .i64 law3 Try.underlying118 Try.underlying3 (zeroValue3 _) (w.heap.size + 1) _ D rfl HO.out _ _ rfl (keyI k (by omega)) ?_; intro c hat hwc; rw [HHK.out])
          go_roundw
          case rel => exact ⟨k + 1, HLT.out, by simp, HS.out.congr (fun i _ => mixF_stay (by have := HF0.out; omega) i), HG.out⟩
          case measure => have := HLT.out; simp [intOf]; omega
        · rw [decide_eq_false h0] at hhk
          have HHK := Lib.hid hhk
          clear hhk
          by_cases hws : wk ≤ m.set
          · have hd : decide (wk ≤ m.set) = true := decide_eq_true hws
            gi_wp2_with (first | (gi_at_lookup; refine wpListIn_lookup_own_ok_int _ rfl _ _ 118 rfl 3 3 .i64 law3 Try.underlying118 Try.underlying3 (zeroValue3 _) (w.heap.size + 1) _ D rfl HO.out _ _ rfl (keyI k (by omega)) ?_; intro c hat hwc; rw [HHK.out]) | (gi_at_mapUpdate; refine wpListIn_mapUpdate_own _ rfl _ _ _ 118 rfl 3 3 law3 Try.underlying118 _ (w.heap.size + 1) _ D rfl HO.out (by have := found_le (mixF m hot pre x k) r; unfold maxLen; omega) _ _ _ rfl rfl (keyI k (by omega)) _ [] (plainElem_int Try.underlying3 (WalkArith.wf_i64 (by omega))) ?_; intro w1 hown1 hgrow1))
            have HS2 : Hid (SetM (w.heap.size + 1) r (mixF m hot pre x (k + 1)) w1) := (SetM.put HT.out HSZ.out HH.out HA.out HKK.out HLT.out (by omega) (by rw [mixF_at]; have := HF0.out; omega) hown1).congr (fun i _ => mixF_put (by have := HF0.out; have := HWK.out; omega) i)
            have HG2 := Lib.hid (HG.out.trans hgrow1)
            clear hown1 hgrow1
            go_roundw
            case rel => exact ⟨k + 1, HLT.out, by simp, HS2.out, HG2.out⟩
            case measure => have := HLT.out; simp [intOf]; omega
          · have hd : decide (wk ≤ m.set) = false := decide_eq_false hws
            gi_wp2_with (gi_at_lookup; refine wpListIn_lookup_own_ok_int _ rfl _ _ 118 rfl 3 3 .i64 law3 Try.underlying118 Try.underlying3 (zeroValue3 _) (w.heap.size + 1) _ D rfl HO.out _ _ rfl (keyI k (by omega)) ?_; intro c hat hwc; rw [HHK.out])
            go_roundw
            case rel => exact ⟨k + 1, HLT.out, by simp, HS.out.congr (fun i _ => mixF_stay (by have := HWK.out; omega) i), HG.out⟩
            case measure => have := HLT.out; simp [intOf]; omega
      · obtain rfl : k = r := by omega
        obtain ⟨D, ho, hT, hsz, hh, ha, hkk⟩ := HS.out
        have HO := Lib.hid ho
        have HSZ := Lib.hid hsz
        clear ho hT hsz hh ha hkk
        have HS2 := Lib.hid (HS.out.congr (fun i hi => mixF_all m hot pre x hi))
        have HW2 : Hid (WhenW w m k (whenF m hot (pre ++ [x])) wr) := ⟨hbb, HS2.out, hvb, HI.out.bel.grown HG.out HI.out.bel.size (fun j e => by cases e; exact Nat.le_succ _)⟩
        have HKF : Hid (KeepsFrom W0.heap.size W wr) := KeepsFrom.of_grownBy HG.out (fun j e => by cases e; omega)
        have HKM : Hid (MiK W0.heap.size (w.heap.size + 1 + 1 + 1) (w.heap.size + 1 + 1 + 1 + 1) W wr) := ⟨HG.out.size, fun i cs t fr hB hi => (HG.out.block i (block_lt hi) (by simp; omega)).trans hi, HG.out.block _ (by omega) (by simp; omega), HG.out.block _ (by omega) (by simp; omega)⟩
        clear hvb hbb
        obtain ⟨c, hc⟩ : ∃ c, Maps.size D = c := ⟨_, rfl⟩
        have HC := Lib.hid hc
        clear hc
        by_cases hck : c = k
        · have hd : ((c : Int) == (k : Int)) = true := by simp [hck]
          gi_wp2_with (gi_at_len; refine wpListIn_len_map rfl _ 118 rfl 3 3 Try.underlying118 _ (w.heap.size + 1) _ D rfl HO.out ?_; rw [HC.out])
          exact ⟨HKF.out, rfl, HW2.out, fun i hi => by
            have h1 := HSZ.out
            have h2 := HC.out
            have h3 := (found_all (f := mixF m hot pre x k) (r := k)).1 (by omega) i hi
            rwa [mixF_all m hot pre x hi] at h3⟩
        · have hd : ((c : Int) == (k : Int)) = false := by simp; omega
          gi_wp2_with (gi_at_len; refine wpListIn_len_map rfl _ 118 rfl 3 3 Try.underlying118 _ (w.heap.size + 1) _ D rfl HO.out ?_; rw [HC.out])
          exact ⟨HKF.out, HKM.out, HW2.out⟩
  case' done =>
    rintro D xs W hD rfl hI hK
    have HI := Lib.hid (hI)
    have HFF : Hid (∀ i, i < r → whenF m hot (upA dayM 601) i = firstTo (setP m hot i) 601) := fun i _ => whenF_up m hot i 601 (by omega)
    have HWW := Lib.hid (HI.out.cong HFF.out)
    have HK := Lib.hid hK
    clear hI hK HFF HI
    simp only [Exit.inBlock, Exit.then]
  case' stop =>
    rintro D c pre W hD ⟨q, hq, rfl⟩ ⟨rfl, hI, hall⟩ hK
    have HI := Lib.hid (hI)
    have HFF : Hid (∀ i, i < r → whenF m hot (upA dayM q) i = firstTo (setP m hot i) 601) := fun i hi => by
      have := hall i hi
      rw [whenF_up m hot i q hq] at this ⊢
      exact (firstTo_stay this 601 hq).symm
    have HWW := Lib.hid (HI.out.cong HFF.out)
    have HK := Lib.hid hK
    clear hI hK HFF HI hall
    refine wpIn_exit ?_
    simp only [Exit.inBlock, if_true, Exit.then]
  all_goals
    have hbox := HWW.out.bx
    have c0 := fun i => cell_of_row W _ i _ _ _ hbox
    have hmr : m.rings = (r : Int) := HR.out
    have hD2 : D < W.heap.size := block_lt HK.out
    have hwW : w.heap.size < W.heap.size := block_lt HWW.out.bx
    have hr8i : (r : Int) ≤ 8 := by omega
    clear hbox
    gi_wp2_with fail
    refine ⟨trivial, (callsIn_wide.2 (repI_any (.int .i64 601) rfl W.heap.size 0 1 r hr1 hr8 (W.alloc (.cells #[.int .i64 601] 3)) (by simp) (by simp))).mono ?_⟩
    rintro e' w3 ⟨g, rfl, hg, hgl, hbw⟩
    rw [World.size_alloc] at hgl
    have hb3 : Below W.heap.size W w3 := ((Below.refl _ _).alloc (Nat.le_refl _) _).trans (hbw.mono (by simp))
    have HB3 := Lib.hid hb3
    have HG3 := Lib.hid hg
    have HW3 := Lib.hid (WhenW.firm (B := W.heap.size) (by omega) _ _ HWW.out hb3)
    have HK3 := Lib.hid ((hb3.block _ hD2).trans HK.out)
    have hgz : g < w3.heap.size := block_lt hg
    have hb3s := hb3.size
    clear hbw hb3 hg c0
    have c1 := fun i => cell_of_row w3 _ i _ _ _ HW3.out.va
    obtain ⟨DM, ho, hT, hsz', hh, ha, hkk⟩ := HW3.out.mp
    have HO := Lib.hid ho
    have HH := Lib.hid hh
    have HA := Lib.hid ha
    have HKK := Lib.hid hkk
    clear ho hT hsz' hh ha hkk
    gi_wp2_with (refine wpListIn_range_map rfl _ 118 rfl 3 3 law3 Try.underlying118 _ (w.heap.size + 1) _ DM rfl HO.out ?_; intro w4 hrg0 hg0 hs0)
    go_frame
    have hL0 : rowL DM (setAtF m hot) r (Maps.has DM) = List.replicate r 601 := rowL_start DM _ r
    have hg4 : Hid (w4.heap[g]? = some (.cells (ints (rowL DM (setAtF m hot) r (Maps.has DM))) 3)) := by
      unfold Hid
      rw [hL0, hg0.block g hgz (by simp), HG3.out]
      unfold ints
      rw [List.map_replicate]
    have hk4 : Hid (w4.heap[D]? = some (.deferred (some []))) := (hg0.block _ (by omega) (by simp)).trans HK3.out
    have hb4 : Hid (Below w.heap.size w w4) := HW3.out.bel.grown hg0 HW3.out.bel.size (fun k e => by cases e)
    have HRG0 := Lib.hid hrg0
    have hsz4 : w3.heap.size < w4.heap.size := by omega
    clear hrg0 hg0 hs0 c1 hL0
    gi_loopw [13] (fun _ wr => ∃ (left : Lit → Bool) (cnt : Nat), wr.ranges Try.prog 3 (plainElem Try.prog 3) (w.heap.size + 1) w3.heap.size (found (setAtF m hot) r) DM left cnt ∧ (∀ kl, left kl = true → Maps.has DM kl = true) ∧
        wr.heap[g]? = some (.cells (ints (rowL DM (setAtF m hot) r left)) 3) ∧ wr.heap[D]? = some (.deferred (some [])) ∧ Below w.heap.size w wr) (fun _ wr => wr.rangeLeft (w.heap.size + 1) w3.heap.size)
    case atStart => exact ⟨_, _, HRG0.out, fun _ h => h, hg4.out, hk4.out, hb4.out⟩
    case round =>
      obtain ⟨left, cnt, hrg, hlf, hgr, hkr, hbr⟩ := hrel
      have HRG := Lib.hid hrg
      have HLF := Lib.hid hlf
      have HGR := Lib.hid hgr
      have HKR := Lib.hid hkr
      have HBR := Lib.hid hbr
      clear hrg hlf hgr hkr hbr hg4 hk4 hb4 HRG0
      gi_wp2_with (refine wpListIn_next_ranges_ii _ rfl _ rfl 3 3 .i64 .i64 law3 Try.underlying3 Try.underlying3 (w.heap.size + 1) w3.heap.size _ _ _ _ rfl HRG.out ?_ ?_)
      · intro _ hl0
        have HL0 := Lib.hid hl0
        clear hl0
        gi_wp2_with fail
        rw [Exit.noGoto_ret]
        refine ⟨by simp, .inl ⟨_, _, rfl, run_takeDeferred HKR.out, ?_⟩⟩
        simp only [LeavesInM, LeavesIn]
        have hgD : g ≠ D := by omega
        have hgp : (wr.putObj D (.deferred none)).heap[g]? = some (.cells (ints (whenP m hot)) 3) := by
          rw [World.putObj_heap_other hgD, HGR.out, rowL_end (fun i hi => HH.out i hi) HL0.out]
          simp only [whenP, HR.out, Int.toNat_natCast]
        refine ⟨.slice (some ⟨g, 0, none⟩) r r, by rw [results_tmp (fn := Try.f70) rfl]; rfl, _, rfl, ?_, HBR.out.trans (below_turn (by omega) _ _)⟩
        have hlen : (whenP m hot).length = r := by simp [whenP, HR.out]
        exact ⟨g, r, hlen.symm, rfl, hgp, by omega⟩
      · intro x c w1 cnt1 hwx hwc hlx hat hrg1 hlt hg1 hs1 hen
        obtain ⟨i, hi, hxi⟩ := HKK.out _ (HLF.out _ hlx)
        obtain rfl : x = (i : Int) := by injection hxi
        have hhi := HH.out i hi
        rw [HLF.out _ hlx] at hhi
        have h0 : 0 ≤ setAtF m hot i := of_decide_eq_true hhi.symm
        have hce := (hat (.lit (.int .i64 0))).symm.trans (HA.out i hi h0 _)
        obtain rfl : c = setAtF m hot i := by injection hce with e; injection e
        have hg1g : w1.heap[g]? = some (.cells (ints (rowL DM (setAtF m hot) r left)) 3) := (hg1.block g (block_lt HGR.out) (by simp; omega)).trans HGR.out
        have HG1 := Lib.hid hg1g
        have hrl : (rowL DM (setAtF m hot) r left).length = r := by simp [rowL]
        have HRL := Lib.hid hrl
        have c2 : w1.cell? ⟨g, i, none⟩ = some (.int .i64 ((rowL DM (setAtF m hot) r left).getD i 0)) := by rw [cell_of_row w1 g i _ _ _ hg1g, ints_get _ _ (by rw [hrl]; exact hi)]
        have f2 := frozen_of_row w1 g i _ _ hg1g
        have HSTEP := Lib.hid (rowL_step DM (setAtF m hot) r left hi (HLF.out _ hlx))
        have HRG1 := Lib.hid hrg1
        have HGW1 := Lib.hid hg1
        have HLTC := Lib.hid hlt
        have hir : (i : Int) < (r : Int) := by omega
        obtain ⟨fv, hfv⟩ : ∃ y, setAtF m hot i = y := ⟨_, rfl⟩
        rw [hfv] at HSTEP h0 hen
        clear hrg1 hg1 hlt hg1g hrl hat hce hhi hlx hxi hwx hwc
        rw [hfv]
        clear hfv
        gi_wp2_with fail
        have hgs := grown_cell w1 g i (.int .i64 fv)
        have hrg2 := HRG1.out.kept hgs (by simp; omega) (by simp; omega)
        refine ⟨⟨_, cnt1, hrg2, fun kl h => HLF.out kl (Bool.and_eq_true_iff.1 h).1, ?_, ?_, (HBR.out.grown HGW1.out HBR.out.size (fun k e => by cases e; omega)).setCell (p := ⟨g, i, none⟩) (by show w.heap.size ≤ g; omega) _⟩, ?_⟩
        · rw [heap_setCell_same _ _ _ _ _ _ HG1.out, ints_set, HSTEP.out]
        · rw [heap_setCell_other _ _ _ _ (show D ≠ g by omega), HGW1.out.block D (block_lt HKR.out) (by simp; omega)]
          exact HKR.out
        · rw [hrg2.left_eq, HRG.out.left_eq]
          exact HLTC.out
end Go.Proofs.Ytafdagjdpnaddaa
