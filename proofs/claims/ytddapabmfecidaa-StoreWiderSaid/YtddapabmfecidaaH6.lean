/- from: a season from a day on. -/
import Derived.Test.YtddapabmfecidaaAp
import Derived.Test.YtddapabmfecidaaP3
import Derived.Test.YtddapabmfecidaaW21
namespace Go.Proofs.Ytddapabmfecidaa
open Go.RowKit
/-- A season from a day on. -/
def fromS (s : Sea) (day : Nat) : Sea := { s with stores := s.stores.map fun x => { x with warm := x.warm.drop day } }
/-- The cells of stores whose lists of spans lie at these values. -/
def stoCells (l : List Sto) (vs : List Value) : List Value := (l.zip vs).flatMap fun p => [.string p.1.name, .int .i64 p.1.rent, p.2]
theorem stoCells_at : ∀ (l : List Sto) (vs : List Value) (i : Nat), i < l.length → l.length = vs.length → (stoCells l vs)[i * 3]? = some (.string (l.getD i default).name) ∧ (stoCells l vs)[i * 3 + 1]? = some (.int .i64 (l.getD i default).rent) ∧ (stoCells l vs)[i * 3 + 2]? = some (vs.getD i (.bool false))
  | [], _, i, h, _ => by simp at h
  | x :: l, [], i, h, hl => by simp at hl
  | x :: l, v :: vs, 0, _, _ => by simp [stoCells]
  | x :: l, v :: vs, i + 1, h, hl => by
    have := stoCells_at l vs i (by simpa using h) (by simpa using hl)
    simp only [stoCells, List.zip_cons_cons, List.flatMap_cons, List.cons_append, List.nil_append] at this ⊢
    rw [show (i + 1) * 3 = i * 3 + 3 by omega]
    simpa using this
theorem stoCells_snoc : ∀ (l : List Sto) (vs : List Value) (x : Sto) (v : Value), l.length = vs.length → stoCells (l ++ [x]) (vs ++ [v]) = stoCells l vs ++ [.string x.name, .int .i64 x.rent, v] := by
  intro l vs x v h
  simp only [stoCells]
  rw [List.zip_append h]
  simp
/-- Stores that lie in a row of their own. -/
theorem ownsRow_stos {w : World} {base : Nat} {v : Value} {l : List Sto} {vs : List Value} (h : w.ownsRow base 66 3 v l.length (stoCells l vs)) (hl : l.length ≤ 1000) (hlv : l.length = vs.length)
    (hs : ∀ i, i < l.length → (l.getD i default).name.size ≤ 1000000000000000 ∧ SpansIn w.heap.size w (vs.getD i (.bool false)) (l.getD i default).warm) : StosIn w.heap.size w v l := by
  obtain ⟨_, h⟩ := h
  rcases h with ⟨rfl, h0⟩ | ⟨g, cap, cur, rfl, hb, hg, hn, hm, hc, ht⟩
  · have : l = [] := List.eq_nil_of_length_eq_zero h0
    subst this
    exact ⟨none, 0, rfl, by simp, by simp, .inl rfl⟩
  · refine ⟨_, cap, rfl, by omega, hn, .inr ⟨g, 0, rfl, block_lt hg, fun i hi => ?_⟩⟩
    have hat := stoCells_at l vs i hi hlv
    have get : ∀ j, j < l.length * 3 → cur[j]? = (stoCells l vs)[j]? := by
      intro j hj
      have := congrArg (·[j]?) ht
      simp only [List.getElem?_take] at this
      rw [if_pos (by omega), Array.getElem?_toList] at this
      exact this
    have hsi := hs i hi
    rw [Nat.zero_add]
    refine ⟨?_, ?_, hsi.1, vs.getD i (.bool false), ?_, hsi.2⟩
    · rw [cell_of_row w g _ _ _ _ hg, get _ (by omega), hat.1]
    · rw [cell_of_row w g _ _ _ _ hg, get _ (by omega), hat.2.1]
    · rw [cell_of_row w g _ _ _ _ hg, get _ (by omega), hat.2.2]
theorem ownsRow_stos' {w : World} {base n : Nat} {v : Value} {l : List Sto} {vs : List Value} (h : w.ownsRow base 66 3 v n (stoCells l vs)) (hn : l.length = n) (hl : l.length ≤ 1000) (hlv : l.length = vs.length)
    (hs : ∀ i, i < l.length → (l.getD i default).name.size ≤ 1000000000000000 ∧ SpansIn w.heap.size w (vs.getD i (.bool false)) (l.getD i default).warm) : StosIn w.heap.size w v l := by
  subst hn
  exact ownsRow_stos h hl hlv hs
theorem info31f : (Try.prog.info? 31).map (·.size) = some 6 := by kernel_rfl
theorem setCell_at6 {w : World} {b : Nat} {cs : Array Value} {t : TypeId} (h : w.heap[b]? = some (.cells cs t)) (i : Nat) (u : Value) : (w.setCell ⟨b, i, none⟩ u).heap[b]? = some (.cells (cs.setIfInBounds i u) t) := by
  simp only [World.setCell, Array.getElem?_modify, if_true, h]; simp
theorem cell_three_new (w : World) (x y z : Value) (t : TypeId) : ∀ j u, [x, y, z][j]? = some u → (w.alloc (.cells #[x, y, z] t)).cell? ((⟨w.heap.size, 0, none⟩ : Addr).add j) = some u := by
  intro j u hj
  exact cell_news (w.alloc (.cells #[x, y, z] t)) w.heap.size [x, y, z] t (heap_alloc_new _ _) j u hj
theorem info66' : ∃ i, Try.prog.info? 66 = some i ∧ i.zero = some (.agg #[.string .empty, .int .i64 0, .slice none 0 0]) ∧ i.size = 3 ∧ i.bytes = 48 := by
  obtain ⟨i, h1, h2⟩ := Option.map_eq_some_iff.1 (show (Try.prog.info? 66).map (fun i => (i.zero, i.size, i.bytes)) = some (some (.agg #[.string .empty, .int .i64 0, .slice none 0 0]), 3, 48) by kernel_rfl)
  simp only [Prod.mk.injEq] at h2
  exact ⟨i, h1, h2⟩
theorem SpansIn.drop {B : Nat} {w : World} {b o n c : Nat} {l : List (Int × Int)} (h : SpansIn B w (.slice (some ⟨b, o, none⟩) n c) l) (k : Nat) (hk : k < l.length) :
    SpansIn B w (.slice (some ⟨b, o + k * 2, none⟩) (n - k) (c - k)) (l.drop k) := by
  obtain ⟨a, c', hv, hl, hlc, h⟩ := h
  simp only [Value.slice.injEq] at hv
  obtain ⟨rfl, rfl, rfl⟩ := hv
  obtain ⟨b', o', ho, hb, hc⟩ := h.resolve_left (by intro e; rw [e] at hk; simp at hk)
  simp only [Option.some.injEq, Addr.mk.injEq, and_true] at ho
  obtain ⟨rfl, rfl⟩ := ho
  refine ⟨_, c - k, by rw [List.length_drop], by rw [List.length_drop]; omega, by rw [List.length_drop]; omega, .inr ⟨b, o + k * 2, rfl, hb, fun i hi => ?_⟩⟩
  rw [List.length_drop] at hi
  have := hc (k + i) (by omega)
  have e : (l.drop k).getD i (0, 0) = l.getD (k + i) (0, 0) := by rw [List.getD_eq_getElem?_getD, List.getD_eq_getElem?_getD, List.getElem?_drop]
  rw [e, show o + k * 2 + i * 2 = o + (k + i) * 2 by omega]
  exact this
/-- The worlds of from. -/
structure FrW (s : Sea) (w : World) (S : Array Value) (bz bo : Nat) (v : Value) (k day : Nat) (wr : World) : Prop where
  rS : wr.heap[w.heap.size]? = some (.cells S 31)
  rZ : ∃ Z, wr.heap[bz]? = some (.cells Z 31) ∧ Z.size = 6
  rO : wr.heap[bo]? = some (.cells #[.int .i64 s.bend, .int .i64 s.days, .int .i64 s.jump, .int .i64 s.times, .int .i64 s.move, v] 31)
  bel : Below w.heap.size w wr
  ge : w.heap.size < bz ∧ bz < bo
  own : ∃ us : List Value, us.length = k ∧ wr.ownsRow (bo + 1) 66 3 v k (stoCells ((fromS s day).stores.take k) us) ∧ ∀ i, i < k → SpansIn w.heap.size w (us.getD i (.bool false)) ((fromS s day).stores.getD i default).warm
theorem FrW.below {s : Sea} {w : World} {S : Array Value} {bz bo : Nat} {v : Value} {k day : Nat} {wr wr' : World} (h : FrW s w S bz bo v k day wr) (hb : Below wr.heap.size wr wr') : FrW s w S bz bo v k day wr' := by
  obtain ⟨Z, hZ, hz6⟩ := h.rZ
  obtain ⟨us, h1, h2, h3⟩ := h.own
  exact ⟨block_keep h.rS hb, ⟨Z, block_keep hZ hb, hz6⟩, block_keep h.rO hb, h.bel.trans (hb.mono h.bel.size), h.ge, us, h1, ownsRow.below h2 hb, h3⟩
theorem FrW.keeps {s : Sea} {w : World} {S : Array Value} {bz bo X : Nat} {v : Value} {k day : Nat} {wr wr' : World} (h : FrW s w S bz bo v k day wr) (hb : Keeps wr wr' X) (hX : bo < X) (hown : ∀ us, wr.ownsRow (bo + 1) 66 3 v k us → wr'.ownsRow (bo + 1) 66 3 v k us) : FrW s w S bz bo v k day wr' := by
  obtain ⟨Z, hZ, hz6⟩ := h.rZ
  obtain ⟨us, h1, h2, h3⟩ := h.own
  have hge := h.ge
  have kp : ∀ {b : Nat} {o : Obj}, b ≠ X → wr.heap[b]? = some o → wr'.heap[b]? = some o := fun {b} {o} hne hh => (hb.block b (block_lt hh) hne).trans hh
  refine ⟨kp (by omega) h.rS, ⟨Z, kp (by omega) hZ, hz6⟩, kp (by omega) h.rO, ?_, h.ge, us, h1, hown _ h2, h3⟩
  have hb2 := h.bel
  exact ⟨hb.os.trans hb2.os, hb.tape.trans hb2.tape, hb.output.trans hb2.output, Nat.le_trans hb2.size hb.size, fun b hlt => (hb.block b (Nat.lt_of_lt_of_le hlt hb2.size) (by omega)).trans (hb2.block b hlt)⟩
set_option maxRecDepth 100000 in
set_option maxHeartbeats 4000000 in
theorem from_any (s : Sea) (hg : Good s) (vs : Value) (day : Nat) (hd : day < s.len) (w : World) (hv : StosIn w.heap.size w vs s.stores) :
    Calls Try.prog 28 #[.agg #[.int .i64 s.bend, .int .i64 s.days, .int .i64 s.jump, .int .i64 s.times, .int .i64 s.move, vs], .int .i64 day] w
      fun e w' => ∃ v, e = .returned (.agg #[.int .i64 s.bend, .int .i64 s.days, .int .i64 s.jump, .int .i64 s.times, .int .i64 s.move, v]) ∧ StosIn w'.heap.size w' v (fromS s day).stores ∧ Below w.heap.size w w' := by
  have HV := Lib.hid hv
  have HG := Lib.hid hg
  have hl8 := hg.len
  have hs3 := hg.stores
  obtain ⟨asl, csl, rfl, hsl, hslc, -⟩ := hv
  clear hg
  go_enter Try.func28, Try.ntmps28
  go_wp2_with fail
  have h3 := three_allocs w (.cells #[.int .i64 s.bend, .int .i64 s.days, .int .i64 s.jump, .int .i64 s.times, .int .i64 s.move, .slice asl s.stores.length csl] 31) (.cells #[.int .i64 0, .int .i64 0, .int .i64 0, .int .i64 0, .int .i64 0, .slice none 0 0] 31) (.cells #[.int .i64 s.bend, .int .i64 s.days, .int .i64 s.jump, .int .i64 s.times, .int .i64 s.move, .slice none 0 0] 31)
  go_loopw [6] (fun kv wr => ∃ (k : Nat) (v : Value), kv = .int .i64 k ∧ k ≤ s.stores.length ∧ FrW s w #[.int .i64 s.bend, .int .i64 s.days, .int .i64 s.jump, .int .i64 s.times, .int .i64 s.move, .slice asl s.stores.length csl] (w.heap.size + 1) (w.heap.size + 1 + 1) v k day wr) (fun kv _ => s.stores.length - (intOf kv).toNat)
  case atStart => exact ⟨0, .slice none 0 0, rfl, by omega, h3.1, ⟨_, h3.2.1, rfl⟩, h3.2.2, (((Below.refl _ _).alloc (Nat.le_refl _) _).alloc (by simp) _).alloc (by simp; omega) _, ⟨by omega, by omega⟩, [], rfl, ⟨rfl, .inl ⟨rfl, rfl⟩⟩, fun i hi => by omega⟩
  case round =>
    obtain ⟨k, v, rfl, hk, hF⟩ := hrel
    have HF := Lib.hid hF
    have cS := fun i => cell_of_row wr _ i _ _ _ hF.rS
    clear hF h3
    by_cases hlt : k < s.stores.length
    · obtain ⟨bs, os, cs', hvv, hsc, hbs, hc0, hc1, hnm, vm, hvm, hsm⟩ := (HV.out.below HF.out.bel).at hlt
      simp only [Value.slice.injEq] at hvv
      obtain ⟨rfl, -, rfl⟩ := hvv
      have hsm0 : SpansIn w.heap.size w vm (s.stores.getD k default).warm := by
        obtain ⟨_, _, _, h1, _, hb0, _, _, _, vm', hvm', hsm'⟩ := HV.out.at hlt
        simp only [Value.slice.injEq, Option.some.injEq, Addr.mk.injEq, and_true] at h1
        obtain ⟨⟨rfl, rfl⟩, -⟩ := h1
        have := (HF.out.bel.cell (p := ⟨_, _, none⟩) hb0).symm.trans (hvm.symm.symm)
        have e : w.cell? ⟨bs, os + k * 3 + 2, none⟩ = some vm := ((HF.out.bel.cell (p := ⟨bs, os + k * 3 + 2, none⟩) hb0).symm).trans hvm
        rw [hvm'] at e
        simp only [Option.some.injEq] at e
        rw [← e]
        exact hsm'
      have hwl : (s.stores.getD k default).warm.length = s.len := HG.out.lens k hlt
      obtain ⟨am, cm, rfl, hml, hmlc, hmc⟩ := hsm0
      obtain ⟨bm, om, rfl, hbm, hmc⟩ := hmc.resolve_left (by intro h; rw [h] at hwl; simp at hwl; omega)
      have HSD : Hid (SpansIn w.heap.size w (.slice (some ⟨bm, om + day * 2, none⟩) (s.len - day) (cm - day)) ((s.stores.getD k default).warm.drop day)) := by
        rw [← hwl]
        exact SpansIn.drop ⟨_, cm, rfl, hml, hmlc, .inr ⟨bm, om, rfl, hbm, hmc⟩⟩ day (by omega)
      have HFST : Hid ((fromS s day).stores.take (k + 1) = (fromS s day).stores.take k ++ [{ (s.stores.getD k default) with warm := (s.stores.getD k default).warm.drop day }]) := by
        unfold Hid
        have hlf : (fromS s day).stores.length = s.stores.length := by simp [fromS]
        rw [List.take_add_one, List.getElem?_eq_getElem (by omega)]
        simp [fromS, List.getD_eq_getElem?_getD, List.getElem?_eq_getElem hlt]
      have HFK : Hid (((fromS s day).stores.getD k default).warm = (s.stores.getD k default).warm.drop day) := by
        unfold Hid
        rw [List.getD_eq_getElem?_getD, List.getD_eq_getElem?_getD]
        simp [fromS, List.getElem?_eq_getElem hlt]
      rw [hwl] at hvm hmlc
      clear hmc hsm hml
      have HNM := Lib.hid hnm
      generalize s.stores.getD k default = x at *
      obtain ⟨nm, rent, xw⟩ := x
      simp only at hc0 hc1 HSD HFST HNM HFK
      clear hwl hnm
      go_upto_region 6 with fail
      refine wp_world (fun wq => FrW s w #[.int .i64 s.bend, .int .i64 s.days, .int .i64 s.jump, .int .i64 s.times, .int .i64 s.move, .slice (some ⟨bs, os, none⟩) s.stores.length csl] (w.heap.size + 1) (w.heap.size + 1 + 1) v k day wq ∧ Below wr.heap.size wr wq ∧ wq.heap[wr.heap.size]? = some (.cells #[.string nm, .int .i64 rent, .slice (some ⟨bm, om, none⟩) s.len cm] 66) ∧ wr.heap.size < wq.heap.size) ⟨HF.out.below ((Below.refl _ _).alloc (Nat.le_refl _) _), (Below.refl _ _).alloc (Nat.le_refl _) _, heap_alloc_new _ _, by simp⟩ ?_
      intro wq hwq
      have hlr : w.heap.size + 1 + 1 < wr.heap.size := block_lt HF.out.rO
      have HFQ := Lib.hid hwq.1
      have HBQ := Lib.hid hwq.2.1
      have HXQ := Lib.hid hwq.2.2.1
      have cx := fun i => cell_of_row wq _ i _ _ _ hwq.2.2.1
      have fx := frozen_of_row wq _ 2 _ _ hwq.2.2.1
      clear hwq hvm hc0 hc1 cS
      go_upto_region 7 with fail
      refine wp_world (fun wt => FrW s w #[.int .i64 s.bend, .int .i64 s.days, .int .i64 s.jump, .int .i64 s.times, .int .i64 s.move, .slice (some ⟨bs, os, none⟩) s.stores.length csl] (w.heap.size + 1) (w.heap.size + 1 + 1) v k day wt ∧ wt.heap[wr.heap.size]? = some (.cells #[.string nm, .int .i64 rent, .slice (some ⟨bm, om + day * 2, none⟩) (s.len - day) (cm - day)] 66)) ⟨HF.out.below (HBQ.out.setCell (p := ⟨wr.heap.size, 2, none⟩) (Nat.le_refl _) _), setCell_at6 HXQ.out 2 _⟩ ?_
      intro wt hwt
      have HFT := Lib.hid hwt.1
      have HXT := Lib.hid hwt.2
      obtain ⟨us, hul, hown, hsp⟩ := hwt.1.own
      have HOT := Lib.hid hown
      have HSP := Lib.hid hsp
      have cx := fun i => cell_of_row wt _ i _ _ _ hwt.2
      have co := fun i => cell_of_row wt _ i _ _ _ hwt.1.rO
      have hlt3 : w.heap.size + 1 + 1 + 1 ≤ wt.heap.size := block_lt hwt.1.rO
      have hlt12 := World.ownsRow.lt hown
      clear hwt hown hsp cx fx HXQ HBQ HFQ
      have cx := fun i => cell_of_row wt _ i _ _ _ HXT.out
      obtain ⟨i0, hi0, hz0, hz1, hz2⟩ := info66'
      go_wp2_with (at_builtin; refine wpList_append_own _ rfl _ _ 29 rfl (w.heap.size + 1 + 1 + 1) 66 i0 (.agg #[.string .empty, .int .i64 0, .slice none 0 0]) 3 48 Try.underlying29 hi0 hz0 hz1 hz2 rfl (by decide) _ _ _ rfl (HOT.out.alloc _) ⟨wt.heap.size, 0, none⟩ 1 1 [.string nm, .int .i64 rent, .slice (some ⟨bm, om + day * 2, none⟩) (s.len - day) (cm - day)] rfl rfl (cell_three_new _ _ _ _ _) (fun x hx => by simp at hx; rcases hx with rfl | rfl | rfl <;> rfl) (by unfold maxLen; omega) (by omega) (by simp; omega) ?_; intro v' w12 hown12 hgrow12 _; have CB12 := Lib.hid (((Below.refl (w.heap.size + 1 + 1 + 1) wt).alloc hlt3 (.cells #[.string nm, .int .i64 rent, .slice (some ⟨bm, om + day * 2, none⟩) (s.len - day) (cm - day)] 66)).grown hgrow12 (by simp only [World.size_alloc]; omega) (fun k e => (hlt12 k e).1)); have RO12 := Lib.hid ((CB12.out.block _ (by omega)).trans HFT.out.rO); obtain ⟨av', cv', rfl⟩ := ownsRow_slice1 hown12; have co12 := fun i => cell_of_row w12 _ i _ _ _ RO12.out; have fo12 := frozen_of_row w12 _ 5 _ _ RO12.out)
      have hlf : ((fromS s day).stores.take k).length = us.length := by rw [hul, List.length_take]; simp [fromS]; omega
      have HN : Hid (FrW s w #[.int .i64 s.bend, .int .i64 s.days, .int .i64 s.jump, .int .i64 s.times, .int .i64 s.move, .slice (some ⟨bs, os, none⟩) s.stores.length csl] (w.heap.size + 1) (w.heap.size + 1 + 1) (.slice av' (k + 1) cv') (k + 1) day (w12.setCell ⟨w.heap.size + 1 + 1, 5, none⟩ (.slice av' (k + 1) cv'))) := by
        obtain ⟨Z, hZ, hz6⟩ := HFT.out.rZ
        refine ⟨?_, ⟨Z, ?_, hz6⟩, ?_, ?_, ⟨by omega, by omega⟩, us ++ [.slice (some ⟨bm, om + day * 2, none⟩) (s.len - day) (cm - day)], by simp [hul], ?_, ?_⟩
        · exact (heap_setCell_other _ _ _ _ (by show w.heap.size ≠ w.heap.size + 1 + 1; omega)).trans ((CB12.out.block _ (by omega)).trans HFT.out.rS)
        · exact (heap_setCell_other _ _ _ _ (by show w.heap.size + 1 ≠ w.heap.size + 1 + 1; omega)).trans ((CB12.out.block _ (by omega)).trans hZ)
        · exact setCell_at6 RO12.out 5 _
        · exact (HFT.out.bel.trans (CB12.out.mono (by omega))).setCell (p := ⟨w.heap.size + 1 + 1, 5, none⟩) (by show w.heap.size ≤ w.heap.size + 1 + 1; omega) _
        · rw [HFST.out, stoCells_snoc _ _ _ _ hlf]
          exact ownsRow.keeps hown12 ((Keeps.refl w12 (w.heap.size + 1 + 1)).setCell 5 _) (by omega)
        · intro i hi
          by_cases hik : i < k
          · rw [List.getD_eq_getElem?_getD, List.getElem?_append_left (by omega), ← List.getD_eq_getElem?_getD]
            exact HSP.out i hik
          · obtain rfl : i = k := by omega
            rw [List.getD_eq_getElem?_getD, List.getElem?_append_right (by omega), hul, Nat.sub_self, HFK.out]
            exact HSD.out
      refine ⟨⟨k + 1, _, by push_cast; rfl, by omega, HN.out⟩, ?_⟩
      simp [intOf]
      omega
    · obtain hkn : s.stores.length = k := by omega
      obtain ⟨Z, hZ, hz6⟩ := HF.out.rZ
      obtain ⟨us, hul, hown, hsp⟩ := HF.out.own
      obtain ⟨k', rfl⟩ : ∃ k', k = k' + 1 := ⟨k - 1, by omega⟩
      obtain ⟨av, cv, rfl⟩ := ownsRow_slice1 hown
      have HO := Lib.hid hown
      have HSP := Lib.hid hsp
      have HUL := Lib.hid hul
      clear hown hsp hul
      have co := fun i => cell_of_row wr _ i _ _ _ HF.out.rO
      have HKN := Lib.hid hkn
      rw [hkn]
      go_wp2_with (refine wpList_store_row rfl 31 _ _ rfl (w.heap.size + 1) #[.int .i64 s.bend, .int .i64 s.days, .int .i64 s.jump, .int .i64 s.times, .int .i64 s.move, .slice av (k' + 1) cv] rfl rfl 31 Z hZ info31f hz6 (by simp [Value.oneCell']) ?_)
      refine bodyPost_ret (v := .agg #[.int .i64 s.bend, .int .i64 s.days, .int .i64 s.jump, .int .i64 s.times, .int .i64 s.move, .slice av (k' + 1) cv]) (results_cell_row (fn := Try.f28) rfl _ _ _ _ _ _ _ rfl (setRow_heap _ _ _ _ _ _ hZ) Try.underlying31 rfl info31f) rfl ⟨_, rfl, ?_, below_setRow HF.out.bel (by omega) _⟩
      have hbel := below_setRow HF.out.bel (show w.heap.size ≤ w.heap.size + 1 by omega) #[.int .i64 s.bend, .int .i64 s.days, .int .i64 s.jump, .int .i64 s.times, .int .i64 s.move, .slice av (k' + 1) cv]
      have hlf : (fromS s day).stores.length = k' + 1 := by simp [fromS]; exact HKN.out
      have ho2 := ownsRow.setRow HO.out (show w.heap.size + 1 < w.heap.size + 1 + 1 + 1 by omega) #[.int .i64 s.bend, .int .i64 s.days, .int .i64 s.jump, .int .i64 s.times, .int .i64 s.move, .slice av (k' + 1) cv]
      rw [List.take_of_length_le (by omega)] at ho2
      refine ownsRow_stos' ho2 hlf (by omega) (by rw [HUL.out, hlf]) (fun i hi => ⟨?_, ((HSP.out i (by omega)).below hbel).mono hbel.size⟩)
      have hi2 : i < s.stores.length := by rw [hlf] at hi; rw [HKN.out]; exact hi
      obtain ⟨_, _, _, -, -, -, -, -, hnm, -⟩ := HV.out.at hi2
      have e : ((fromS s day).stores.getD i default).name = (s.stores.getD i default).name := by
        rw [List.getD_eq_getElem?_getD, List.getD_eq_getElem?_getD]
        simp [fromS, List.getElem?_eq_getElem hi2]
      rw [e]
      exact hnm
end Go.Proofs.Ytddapabmfecidaa
