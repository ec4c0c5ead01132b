/- changed: a season whose stores have another warmth each day. -/
import Derived.Test.YtddapabmfecidaaSu
import Derived.Test.YtddapabmfecidaaW21
import Derived.Lib.MinMax
namespace Go.Proofs.Ytddapabmfecidaa
open Go.RowKit
def chP (less more : Int) (p : Int × Int) : Int × Int := (max 0 (p.1 - less), min 60 (p.2 + more))
/-- A season whose stores have another warmth each day. -/
def chS (s : Sea) (less more : Int) : Sea := { s with stores := s.stores.map fun x => { x with warm := x.warm.map (chP less more) } }
theorem chS_get (s : Sea) (less more : Int) (i : Nat) (hi : i < s.stores.length) : (chS s less more).stores.getD i default = { (s.stores.getD i default) with warm := (s.stores.getD i default).warm.map (chP less more) } := by
  rw [List.getD_eq_getElem?_getD, List.getD_eq_getElem?_getD]
  simp [chS, List.getElem?_eq_getElem hi]
theorem chS_count (s : Sea) (less more : Int) : (chS s less more).stores.length = s.stores.length := by simp [chS]
theorem BdW.low {w : World} {S : Array Value} {bo : Nat} {hd : List Value} {T : List Sto} {v : Value} {k : Nat} {w1 wr w12 : World} {o : Obj} {u : Value} (h : BdW w S bo hd T v k w1) (hb : Below w1.heap.size w1 wr) (hv0 : ∀ q, v.ownBlock = some q → q < w1.heap.size ∧ bo < q)
    (hg : (wr.alloc o).grownBy w12 v.ownBlock) {b : Nat} (hlt : b < bo) : (w12.setCell ⟨bo, 5, none⟩ u).heap[b]? = w1.heap[b]? := by
  have hbo : bo < w1.heap.size := block_lt h.rO
  have h1 := hb.size
  rw [heap_setCell_other _ _ _ _ (show b ≠ (⟨bo, 5, none⟩ : Addr).block by show b ≠ bo; omega), hg.block b (by rw [World.size_alloc]; omega) (fun e => by have := (hv0 b e.symm).2; omega), Below.heap_alloc wr o b (by omega)]
  exact hb.block b (by omega)
/-- The worlds of a region that puts a span behind the list of the store in block bx. -/
structure ChW (wt wu : World) (bx bw : Nat) (nm : ByteArray) (rent : Int) (xv : Value) (lo0 hi0 lo hi : Int) (d : Nat) (old : List Value) (d13 d14 d16 : Bool) (y63 y64 : Value) (w' : World) : Prop where
  bel : Below bx wt w'
  sz : wu.heap.size ≤ w'.heap.size
  wb : w'.heap[bw]? = some (.cells #[.int .i64 lo0, .int .i64 hi0] 53)
  x : w'.heap[bx]? = some (.cells #[.string nm, .int .i64 rent, if d16 then y64 else xv] 66)
  row : d14 = false → w'.ownsRow (bx + 1) 53 2 xv d old
  fr : d14 = false → d13 = true → ∃ g, y63 = .slice (some ⟨g, 0, none⟩) 1 1 ∧ wu.heap.size ≤ g ∧ w'.heap[g]? = some (.cells #[.int .i64 lo, .int .i64 hi] 53)
  new : d14 = true → w'.ownsRow (bx + 1) 53 2 y64 (d + 1) (old ++ [.int .i64 lo, .int .i64 hi])
  c : d16 = true → d14 = true
theorem ChW.call {wt wu : World} {bx bw : Nat} {nm : ByteArray} {rent : Int} {xv : Value} {lo0 hi0 lo hi : Int} {d : Nat} {old : List Value} {d13 d14 d16 : Bool} {y63 y64 : Value} {w' w'' : World} (h : ChW wt wu bx bw nm rent xv lo0 hi0 lo hi d old d13 d14 d16 y63 y64 w') (hb : Below w'.heap.size w' w'') : ChW wt wu bx bw nm rent xv lo0 hi0 lo hi d old d13 d14 d16 y63 y64 w'' :=
  ⟨h.bel.trans (hb.mono (by have := block_lt h.x; omega)), Nat.le_trans h.sz hb.size, block_keep h.wb hb, block_keep h.x hb, fun a => ownsRow.below (h.row a) hb, fun a b => by
    obtain ⟨g, h1, h2, h3⟩ := h.fr a b
    exact ⟨g, h1, h2, block_keep h3 hb⟩, fun a => ownsRow.below (h.new a) hb, h.c⟩
set_option maxRecDepth 100000 in
set_option maxHeartbeats 4000000 in
theorem changed_own (s : Sea) (hg : Good s) (vs : Value) (less more : Int) (hless : -60 ≤ less ∧ less ≤ 60) (hmore : -60 ≤ more ∧ more ≤ 60) (w : World) (hv : StosIn w.heap.size w vs s.stores) :
    Calls Try.prog 30 #[.agg #[.int .i64 s.bend, .int .i64 s.days, .int .i64 s.jump, .int .i64 s.times, .int .i64 s.move, vs], .int .i64 less, .int .i64 more] w
      fun e w' => ∃ (us : List Value) (g cap : Nat), e = .returned (.agg #[.int .i64 s.bend, .int .i64 s.days, .int .i64 s.jump, .int .i64 s.times, .int .i64 s.move, .slice (some ⟨g, 0, none⟩) s.stores.length cap]) ∧ w.heap.size ≤ g ∧
        w'.ownsRow w.heap.size 66 3 (.slice (some ⟨g, 0, none⟩) s.stores.length cap) s.stores.length (stoCells (chS s less more).stores us) ∧ us.length = s.stores.length ∧
        (∀ i, i < s.stores.length → SpansIn w'.heap.size w' (us.getD i (.bool false)) ((chS s less more).stores.getD i default).warm ∧ ∀ a n c, us.getD i (.bool false) = .slice (some a) n c → w.heap.size ≤ a.block ∧ a.block ≠ g ∧ ∃ cur, w'.heap[a.block]? = some (.cells cur 53)) ∧
        StosIn w'.heap.size w' (.slice (some ⟨g, 0, none⟩) s.stores.length cap) (chS s less more).stores ∧ Below w.heap.size w w' := by
  have HV := Lib.hid hv
  have HG := Lib.hid hg
  have hl8 := hg.len
  have hs3 := hg.stores
  obtain ⟨asl, csl, rfl, hsl, hslc, -⟩ := hv
  clear hg
  go_enter Try.func30, Try.ntmps30
  go_wp2_with fail
  have h3 := three_allocs w (.cells #[.int .i64 s.bend, .int .i64 s.days, .int .i64 s.jump, .int .i64 s.times, .int .i64 s.move, .slice asl s.stores.length csl] 31) (.cells #[.int .i64 0, .int .i64 0, .int .i64 0, .int .i64 0, .int .i64 0, .slice none 0 0] 31) (.cells #[.int .i64 s.bend, .int .i64 s.days, .int .i64 s.jump, .int .i64 s.times, .int .i64 s.move, .slice none 0 0] 31)
  go_loopw [8] (fun kv wr => ∃ (k : Nat) (v : Value), kv = .int .i64 k ∧ k ≤ s.stores.length ∧ BdW w #[.int .i64 s.bend, .int .i64 s.days, .int .i64 s.jump, .int .i64 s.times, .int .i64 s.move, .slice asl s.stores.length csl] (w.heap.size + 1 + 1) [.int .i64 s.bend, .int .i64 s.days, .int .i64 s.jump, .int .i64 s.times, .int .i64 s.move] (chS s less more).stores v k wr ∧ wr.heap[w.heap.size + 1]? = some (.cells #[.int .i64 0, .int .i64 0, .int .i64 0, .int .i64 0, .int .i64 0, .slice none 0 0] 31)) (fun kv _ => s.stores.length - (intOf kv).toNat)
  case atStart => exact ⟨0, .slice none 0 0, rfl, by omega, ⟨h3.1, h3.2.2, (((Below.refl _ _).alloc (Nat.le_refl _) _).alloc (by simp) _).alloc (by simp; omega) _, by omega, [], rfl, ⟨rfl, .inl ⟨rfl, rfl⟩⟩, fun i hi => by omega⟩, h3.2.1⟩
  case round =>
    obtain ⟨k, v, rfl, hk, hF, hZ⟩ := hrel
    have HF := Lib.hid hF
    have HZ := Lib.hid hZ
    have cS := fun i => cell_of_row wr _ i _ _ _ hF.rS
    clear hF h3 hZ
    by_cases hlt : k < s.stores.length
    · obtain ⟨bs, os, cs', hvv, hsc, hbs, hc0, hc1, hnm, vm, hvm, hsm⟩ := (HV.out.below HF.out.bel).at hlt
      simp only [Value.slice.injEq] at hvv
      obtain ⟨rfl, -, rfl⟩ := hvv
      have hwl0 : (s.stores.getD k default).warm.length = s.len := HG.out.lens k hlt
      have HSPN := Lib.hid (HG.out.span k hlt)
      obtain ⟨am, cm, rfl, hml, hmlc, hmc⟩ := hsm
      obtain ⟨bm, om, rfl, hbm, hmc⟩ := hmc.resolve_left (by intro h; rw [h] at hwl0; simp at hwl0; omega)
      have HMC := Lib.hid hmc
      have HBK := Lib.hid (chS_get s less more k hlt)
      have hxl := hwl0
      rw [hwl0] at hvm hmlc
      clear hmc hml hwl0
      generalize hxs : s.stores.getD k default = x at *
      obtain ⟨nm, rent, xw⟩ := x
      simp only at hc0 hc1 hnm HMC HBK hxl HSPN
      clear hxs
      go_upto_region 6 with fail
      refine wp_world (fun wq => Below wr.heap.size wr wq ∧ wq.heap[wr.heap.size]? = some (.cells #[.string nm, .int .i64 rent, .slice (some ⟨bm, om, none⟩) s.len cm] 66)) ⟨(Below.refl _ _).alloc (Nat.le_refl _) _, heap_alloc_new _ _⟩ ?_
      intro wq hwq
      have HBQ := Lib.hid hwq.1
      have HXQ := Lib.hid hwq.2
      have cx := fun i => cell_of_row wq _ i _ _ _ hwq.2
      have fx := frozen_of_row wq _ 2 _ _ hwq.2
      clear hwq
      go_upto_region 7 with fail
      refine wp_world (fun wt => Below wr.heap.size wr wt ∧ wt.heap[wr.heap.size]? = some (.cells #[.string nm, .int .i64 rent, .slice none 0 0] 66)) ⟨HBQ.out.setCell (p := ⟨wr.heap.size, 2, none⟩) (Nat.le_refl _) _, setCell_at6 HXQ.out 2 _⟩ ?_
      intro wt hwt
      have HBT := Lib.hid hwt.1
      have HXT := Lib.hid hwt.2
      have hbo : w.heap.size + 1 + 1 < wr.heap.size := block_lt HF.out.rO
      have hbsr : bs < wr.heap.size := by omega
      have hbmr : bm < wr.heap.size := by omega
      clear hwt cx fx HXQ HBQ
      have hvm' : wt.cell? ⟨bs, os + k * 3 + 2, none⟩ = some (.slice (some ⟨bm, om, none⟩) s.len cm) := (HBT.out.cell (p := ⟨bs, os + k * 3 + 2, none⟩) hbsr).trans hvm
      have HMT : Hid (∀ i, i < s.len → wt.cell? ⟨bm, om + i * 2, none⟩ = some (.int .i64 (xw.getD i (0, 0)).1) ∧ wt.cell? ⟨bm, om + i * 2 + 1, none⟩ = some (.int .i64 (xw.getD i (0, 0)).2)) := by
        intro i hi
        have h := HMC.out i (by rw [hxl]; exact hi)
        exact ⟨(HBT.out.cell (p := ⟨bm, om + i * 2, none⟩) hbmr).trans h.1, (HBT.out.cell (p := ⟨bm, om + i * 2 + 1, none⟩) hbmr).trans h.2⟩
      have hS' : wt.heap[w.heap.size]? = some (.cells #[.int .i64 s.bend, .int .i64 s.days, .int .i64 s.jump, .int .i64 s.times, .int .i64 s.move, .slice (some ⟨bs, os, none⟩) s.stores.length csl] 31) := block_keep HF.out.rS HBT.out
      have HST := Lib.hid hS'
      obtain ⟨bx, hbx⟩ : ∃ bx, wr.heap.size = bx := ⟨_, rfl⟩
      have HBX := Lib.hid hbx
      rw [hbx] at HBT HXT hbo hbsr hbmr ⊢
      have hbxt : bx < wt.heap.size := block_lt HXT.out
      clear hbx hvm hc0 hc1 HMC cS hS'
      go_wp2_with fail
      go_loopw [10] (fun dv wu => ∃ (d : Nat) (xv : Value), dv = .int .i64 d ∧ d ≤ s.len ∧ Below bx wt wu ∧ wu.heap[bx]? = some (.cells #[.string nm, .int .i64 rent, xv] 66) ∧ wu.ownsRow (bx + 1) 53 2 xv d (spCells ((xw.map (chP less more)).take d)) ∧ wt.heap.size ≤ wu.heap.size) (fun dv _ => s.len - (intOf dv).toNat)
      case atStart => exact ⟨0, .slice none 0 0, rfl, by omega, Below.refl _ _, HXT.out, ⟨rfl, .inl ⟨rfl, rfl⟩⟩, Nat.le_refl _⟩
      case round =>
        obtain ⟨d, xv, rfl, hd, hb, hx, ho, hsz⟩ := hrel
        have HB := Lib.hid hb
        have HX := Lib.hid hx
        have HO := Lib.hid ho
        clear hb hx ho
        have hcS := fun i => cell_of_row wr _ i _ _ _ ((HB.out.block _ (by omega)).trans HST.out)
        have hvw : wr.cell? ⟨bs, os + k * 3 + 2, none⟩ = some (.slice (some ⟨bm, om, none⟩) s.len cm) := (HB.out.cell (p := ⟨bs, os + k * 3 + 2, none⟩) hbsr).trans hvm'
        by_cases hdl : d < s.len
        · have hsp := HMT.out d hdl
          have hok := HSPN.out d hdl
          have HRV : Hid (spCells ((xw.map (chP less more)).take (d + 1)) = spCells ((xw.map (chP less more)).take d) ++ [.int .i64 (chP less more (xw.getD d (0, 0))).1, .int .i64 (chP less more (xw.getD d (0, 0))).2]) := by
            unfold Hid
            rw [List.take_add_one, List.getElem?_map, List.getElem?_eq_getElem (by omega)]
            simp only [Option.map_some, Option.toList_some]
            rw [spCells_snoc, List.getD_eq_getElem?_getD, List.getElem?_eq_getElem (by omega)]
            rfl
          generalize xw.getD d (0, 0) = p at *
          obtain ⟨lo, hi⟩ := p
          simp only at hsp HRV hok
          have hs1 : wr.cell? ⟨bm, om + d * 2, none⟩ = some (.int .i64 lo) := (HB.out.cell (p := ⟨bm, om + d * 2, none⟩) hbmr).trans hsp.1
          have hs2 : wr.cell? ⟨bm, om + d * 2 + 1, none⟩ = some (.int .i64 hi) := (HB.out.cell (p := ⟨bm, om + d * 2 + 1, none⟩) hbmr).trans hsp.2
          clear hsp
          go_upto_region 11 with fail
          refine wp_world (fun wu => Below bx wt wu ∧ wu.heap[bx]? = some (.cells #[.string nm, .int .i64 rent, xv] 66) ∧ wu.ownsRow (bx + 1) 53 2 xv d (spCells ((xw.map (chP less more)).take d)) ∧ wt.heap.size ≤ wu.heap.size ∧ wu.heap[wr.heap.size]? = some (.cells #[.int .i64 lo, .int .i64 hi] 53)) ⟨HB.out.alloc (by omega) _, (Below.heap_alloc wr _ _ (block_lt HX.out)).trans HX.out, HO.out.alloc _, by simp; omega, heap_alloc_new _ _⟩ ?_
          intro wu hwu
          have hbr : bx < wr.heap.size := block_lt HX.out
          have hne : ∀ q, xv.ownBlock = some q → q < wr.heap.size := fun q e => (World.ownsRow.lt HO.out q e).2
          have hltx : ∀ q, xv.ownBlock = some q → bx + 1 ≤ q := fun q e => (World.ownsRow.lt HO.out q e).1
          obtain ⟨bw, hbw⟩ : ∃ bw, wr.heap.size = bw := ⟨_, rfl⟩
          rw [hbw] at hwu hbr hne ⊢
          have HU := Lib.hid hwu
          clear hwu hcS hvw hs1 hs2 HB HX HO hbw hsz
          have hsz : wt.heap.size ≤ wu.heap.size := HU.out.2.2.2.1
          obtain ⟨lo1, hi1, hch⟩ : ∃ a b, chP less more (lo, hi) = (a, b) := ⟨_, _, rfl⟩
          have hlo1 : max 0 (lo - less) = lo1 := congrArg Prod.fst hch
          have hhi1 : min 60 (hi + more) = hi1 := congrArg Prod.snd hch
          rw [hch] at HRV
          simp only at HRV
          clear hch
          refine wp_region_inv1 (by kernel_rfl) (by kernel_rfl) [63, 64] (fun D y w' => ChW wt wu bx bw nm rent xv lo hi lo1 hi1 d (spCells ((xw.map (chP less more)).take d)) (D 13) (D 14) (D 16) (y 63) (y 64) w') ?_ ?Fz ?hFz ?_
          · exact ⟨HU.out.1.drew, Nat.le_refl _, HU.out.2.2.2.2, HU.out.2.1, fun _ => HU.out.2.2.1, fun _ h => (by cases h), fun h => (by cases h), fun h => (by cases h)⟩
          case hFz =>
            intro y
            simp only [fill, List.foldl, Act.put, List.setIfInBounds_toArray, List.set]
            exact rfl
          apply obl_det
          case hrun =>
            intro D y wz hW hD R hR
            have HRR := Lib.hid hR
            have HW := Lib.hid hW
            clear hR hD hW
            go_wp2
            exact HRR.out _ HW.out
          case hnp => rfl
          case hv => first | exact ⟨_, fun _ => rfl⟩ | exact ⟨undef, fun _ => rfl⟩
          apply obl_det
          case hrun =>
            intro D y wz hW hD R hR
            have HRR := Lib.hid hR
            have HW := Lib.hid hW
            have H14 : D 14 = false := hD.post _ 14 rfl (by kernel_rfl)
            have H16 : D 16 = false := by
              cases h : D 16
              · rfl
              · rw [hW.c h] at H14; cases H14
            have hx := hW.x
            rw [H16] at hx
            have hx' : wz.heap[bx]? = some (.cells #[.string nm, .int .i64 rent, xv] 66) := hx
            have cx := fun i => cell_of_row wz _ i _ _ _ hx'
            clear hx hx' H14 H16
            clear hR hD hW
            go_wp2
            exact HRR.out _ HW.out
          case hnp => rfl
          case hv => first | exact ⟨_, fun _ => rfl⟩ | exact ⟨undef, fun _ => rfl⟩
          apply obl_det
          case hrun =>
            intro D y wz hW hD R hR
            have HRR := Lib.hid hR
            have HW := Lib.hid hW
            have cw := fun i => cell_of_row wz _ i _ _ _ HW.out.wb
            clear hR hD hW
            go_wp2
            exact HRR.out _ HW.out
          case hnp => rfl
          case hv => first | exact ⟨_, fun _ => rfl⟩ | exact ⟨undef, fun _ => rfl⟩
          apply obl_det
          case hrun =>
            intro D y wz hW hD R hR
            have HRR := Lib.hid hR
            have HW := Lib.hid hW
            have cw := fun i => cell_of_row wz _ i _ _ _ HW.out.wb
            clear hR hD hW
            go_wp2
            exact HRR.out _ HW.out
          case hnp => rfl
          case hv => first | exact ⟨_, fun _ => rfl⟩ | exact ⟨undef, fun _ => rfl⟩
          apply obl_det
          case hrun =>
            intro D y wz hW hD R hR
            have HRR := Lib.hid hR
            have HW := Lib.hid hW
            have cw := fun i => cell_of_row wz _ i _ _ _ HW.out.wb
            clear hR hD hW
            go_wp2
            exact HRR.out _ HW.out
          case hnp => rfl
          case hv => first | exact ⟨_, fun _ => rfl⟩ | exact ⟨undef, fun _ => rfl⟩
          apply obl_det
          case hrun =>
            intro D y wz hW hD R hR
            have HRR := Lib.hid hR
            have HW := Lib.hid hW
            have cw := fun i => cell_of_row wz _ i _ _ _ HW.out.wb
            clear hR hD hW
            go_wp2
            exact HRR.out _ HW.out
          case hnp => rfl
          case hv => first | exact ⟨_, fun _ => rfl⟩ | exact ⟨undef, fun _ => rfl⟩
          apply obl_det
          case hrun =>
            intro D y wz hW hD R hR
            have HRR := Lib.hid hR
            have HW := Lib.hid hW
            have cw := fun i => cell_of_row wz _ i _ _ _ HW.out.wb
            clear hR hD hW
            go_wp2
            exact HRR.out _ HW.out
          case hnp => rfl
          case hv => first | exact ⟨_, fun _ => rfl⟩ | exact ⟨undef, fun _ => rfl⟩
          apply obl_det
          case hrun =>
            intro D y wz hW hD R hR
            have HRR := Lib.hid hR
            have HW := Lib.hid hW
            have cw := fun i => cell_of_row wz _ i _ _ _ HW.out.wb
            clear hR hD hW
            go_wp2
            exact HRR.out _ HW.out
          case hnp => rfl
          case hv => first | exact ⟨_, fun _ => rfl⟩ | exact ⟨undef, fun _ => rfl⟩
          apply obl_det
          case hrun =>
            intro D y wz hW hD R hR
            have HRR := Lib.hid hR
            have HW := Lib.hid hW
            have cw := fun i => cell_of_row wz _ i _ _ _ HW.out.wb
            clear hR hD hW
            go_wp2
            exact HRR.out _ HW.out
          case hnp => rfl
          case hv => first | exact ⟨_, fun _ => rfl⟩ | exact ⟨undef, fun _ => rfl⟩
          apply obl_det
          case hrun =>
            intro D y wz hW hD R hR
            have HRR := Lib.hid hR
            have HW := Lib.hid hW
            have cw := fun i => cell_of_row wz _ i _ _ _ HW.out.wb
            clear hR hD hW
            go_wp2
            exact HRR.out _ HW.out
          case hnp => rfl
          case hv => first | exact ⟨_, fun _ => rfl⟩ | exact ⟨undef, fun _ => rfl⟩
          apply obl_det
          case hrun =>
            intro D y wz hW hD R hR
            have HRR := Lib.hid hR
            have HW := Lib.hid hW
            have cw := fun i => cell_of_row wz _ i _ _ _ HW.out.wb
            clear hR hD hW
            go_wp2
            exact HRR.out _ HW.out
          case hnp => rfl
          case hv => first | exact ⟨_, fun _ => rfl⟩ | exact ⟨undef, fun _ => rfl⟩
          apply obl_det
          case hrun =>
            intro D y wz hW hD R hR
            have HRR := Lib.hid hR
            have HW := Lib.hid hW
            have cw := fun i => cell_of_row wz _ i _ _ _ HW.out.wb
            clear hR hD hW
            go_wp2
            exact HRR.out _ HW.out
          case hnp => rfl
          case hv => first | exact ⟨_, fun _ => rfl⟩ | exact ⟨undef, fun _ => rfl⟩
          apply obl_det
          case hrun =>
            intro D y wz hW hD R hR
            have HRR := Lib.hid hR
            have HW := Lib.hid hW
            clear hR hD hW
            have hc := span_any lo1 hi1 wz
            go_wp2_with fail
            refine hc.mono ?_
            rintro e w' ⟨rfl, hbw2⟩
            go_wp2_with fail
            exact HRR.out w' (HW.out.call hbw2)
          case hnp => rfl
          case hv => first | exact ⟨_, fun _ => rfl⟩ | exact ⟨undef, fun _ => rfl⟩
          apply obl_priv 63
          case hd => rfl
          case hp => rfl
          case hrun =>
            intro D y wz hW hD R hR
            have HRR := Lib.hid hR
            have H14 : D 14 = false := hD.post _ 14 rfl (by kernel_rfl)
            have H16 : D 16 = false := by
              cases h : D 16
              · rfl
              · rw [hW.c h] at H14; cases H14
            have HW := Lib.hid hW
            clear hR hD hW
            go_wp2
            refine HRR.out _ _ ?_
            have ha : Below wz.heap.size wz (wz.alloc (.cells #[.int .i64 lo1, .int .i64 hi1] 53)) := (Below.refl _ _).alloc (Nat.le_refl _) _
            have hq := HW.out.call ha
            exact ⟨hq.bel, hq.sz, hq.wb, hq.x, hq.row, fun _ _ => ⟨wz.heap.size, rfl, HW.out.sz, heap_alloc_new _ _⟩, hq.new, hq.c⟩
          apply obl_priv 64
          case hd => rfl
          case hp => rfl
          case hrun =>
            intro D y wz hW hD R hR
            have HRR := Lib.hid hR
            have H13 : D 13 = true := hD.pre _ 13 rfl (by kernel_rfl)
            have H14 : D 14 = false := hD.not
            have H16 : D 16 = false := by
              cases h : D 16
              · rfl
              · rw [hW.c h] at H14; cases H14
            obtain ⟨g, hy63, hgu, hgr⟩ := hW.fr H14 H13
            have hown := hW.row H14
            have hx := hW.x
            rw [H16] at hx
            have HX' : Hid (wz.heap[bx]? = some (.cells #[.string nm, .int .i64 rent, xv] 66)) := hx
            have HW := Lib.hid hW
            have hbz := block_lt HX'.out
            have hbwz : bw < wz.heap.size := block_lt HW.out.wb
            clear hR hD hW hx
            obtain ⟨i0, hi0, hz0, hz1, hz2⟩ := info53'
            refine wpList_append_own _ rfl _ _ 50 rfl (bx + 1) 53 i0 (.agg #[.int .i64 0, .int .i64 0]) 2 16 Try.underlying50 hi0 hz0 hz1 hz2 rfl (by decide) xv d _ rfl hown ⟨g, 0, none⟩ 1 1 [.int .i64 lo1, .int .i64 hi1] hy63 rfl (cell_news _ _ _ _ hgr) (fun u hu => by simp at hu; rcases hu with rfl | rfl <;> rfl) (by unfold maxLen; omega) (by omega) (by omega) ?_
            intro v' w12 hown12 hgrow12 _
            have hb1 : Below bx wz w12 := (Below.refl bx wz).grown hgrow12 (by omega) (fun q e => by have := hltx q e; omega)
            have hx12 : w12.heap[bx]? = some (.cells #[.string nm, .int .i64 rent, xv] 66) := (hgrow12.block bx hbz (fun e => by have := hltx bx e.symm; omega)).trans HX'.out
            have hw12 := (hgrow12.block bw hbwz (fun e => by have := hne bw e.symm; omega)).trans HW.out.wb
            have HQ : Hid (ChW wt wu bx bw nm rent xv lo hi lo1 hi1 d (spCells ((xw.map (chP less more)).take d)) (D 13) true (D 16) (y 63) v' w12) := by
              rw [H16]
              exact ⟨HW.out.bel.trans hb1, Nat.le_trans HW.out.sz hb1.size, hw12, hx12, fun h => (by cases h), fun h => (by cases h), fun _ => hown12, fun h => (by cases h)⟩
            clear hown12 hgrow12 hb1 hx12 hw12 hown hy63 hgr
            go_wp2
            exact HRR.out v' w12 HQ.out
          apply obl_det
          case hrun =>
            intro D y wz hW hD R hR
            have HRR := Lib.hid hR
            have HW := Lib.hid hW
            clear hR hD hW
            go_wp2
            exact HRR.out _ HW.out
          case hnp => rfl
          case hv => first | exact ⟨_, fun _ => rfl⟩ | exact ⟨undef, fun _ => rfl⟩
          apply obl_det
          case hrun =>
            intro D y wz hW hD R hR
            have HRR := Lib.hid hR
            have H14 : D 14 = true := hD.pre _ 14 rfl (by kernel_rfl)
            have H16 : D 16 = false := hD.not
            have hx := hW.x
            rw [H16] at hx
            have hx' : wz.heap[bx]? = some (.cells #[.string nm, .int .i64 rent, xv] 66) := hx
            have hown := hW.new H14
            have HW := Lib.hid hW
            obtain ⟨av, cv, hav⟩ := ownsRow_slice1 hown
            clear hR hD hW hx
            refine wpList_store_at rfl 50 _ _ rfl bx 2 rfl (y 64) xv rfl (by rw [hav]; rfl) (cell_of_row wz bx 2 _ _ _ hx') (frozen_of_row wz _ 2 _ _ hx') info50 ?_
            have HQ : Hid (ChW wt wu bx bw nm rent xv lo hi lo1 hi1 d (spCells ((xw.map (chP less more)).take d)) (D 13) (D 14) true (y 63) (y 64) (wz.setCell ⟨bx, 2, none⟩ (y 64))) := by
              refine ⟨HW.out.bel.setCell (p := ⟨bx, 2, none⟩) (Nat.le_refl _) _, by simpa using HW.out.sz, (heap_setCell_other _ _ _ _ (show bw ≠ (⟨bx, 2, none⟩ : Addr).block by show bw ≠ bx; omega)).trans HW.out.wb, setCell_at6 hx' 2 _, fun h => (by rw [H14] at h; cases h), fun h => (by rw [H14] at h; cases h), fun _ => ownsRow.keeps hown ((Keeps.refl wz bx).setCell 2 _) (by omega), fun _ => H14⟩
            clear hown hav hx' HW
            go_wp2
            exact HRR.out _ HQ.out
          case hnp => rfl
          case hv => first | exact ⟨_, fun _ => rfl⟩ | exact ⟨undef, fun _ => rfl⟩
          apply obl_nil
          intro D y w8 hall hW
          have H14 := hall 14 (by decide)
          have H16 := hall 16 (by decide)
          have hnew := hW.new H14
          have hx := hW.x
          rw [H16] at hx
          have HN8 := Lib.hid hnew
          have HX8 : Hid (w8.heap[bx]? = some (.cells #[.string nm, .int .i64 rent, y 64] 66)) := hx
          have HB8 := Lib.hid hW.bel
          have hsz8 : wt.heap.size ≤ w8.heap.size := Nat.le_trans hsz hW.sz
          clear hW hall hnew hx
          simp only [Exit.inBlock, Exit.then]
          go_wp2_with fail
          refine ⟨⟨d + 1, y 64, by push_cast; rfl, by omega, HB8.out, HX8.out, by rw [HRV.out]; exact HN8.out, hsz8⟩, ?_⟩
          simp [intOf]
          omega
        · obtain hdn : d = s.len := by omega
          go_upto_region 12 with fail
          obtain ⟨us, hul, hown, hsp⟩ := HF.out.own
          have hbA : Below bx _ wr := HBT.out.trans HB.out
          have hownr := ownsRow.below hown (by rw [HBX.out]; exact hbA)
          have hO := (hbA.block _ hbo).trans HF.out.rO
          have HSPW := Lib.hid hsp
          have hlt12 := World.ownsRow.lt hown
          rw [HBX.out] at hlt12
          obtain ⟨dd, rfl⟩ : ∃ dd, d = dd + 1 := ⟨d - 1, by omega⟩
          obtain ⟨ax, cx0, rfl⟩ := ownsRow_slice1 HO.out
          have co := fun i => cell_of_row wr _ i _ _ _ hO
          have cx := fun i => cell_of_row wr _ i _ _ _ HX.out
          have hsz14 : bx < wr.heap.size := block_lt HX.out
          have hsz15 : w.heap.size + 1 + 1 + 1 ≤ wr.heap.size := by omega
          have HDN := Lib.hid hdn
          clear hown hsp hdn hcS hvw
          obtain ⟨i0, hi0, hz0, hz1, hz2⟩ := info66'
          go_wp2_with (at_builtin; refine wpList_append_lies _ rfl _ _ 29 rfl (w.heap.size + 1 + 1 + 1) 66 i0 (.agg #[.string .empty, .int .i64 0, .slice none 0 0]) 3 48 Try.underlying29 hi0 hz0 hz1 hz2 rfl (by decide) _ _ _ rfl (hownr.alloc _) ⟨wr.heap.size, 0, none⟩ 1 1 [.string nm, .int .i64 rent, .slice ax (dd + 1) cx0] rfl rfl (cell_three_new _ _ _ _ _) (fun x hx => by simp at hx; rcases hx with rfl | rfl | rfl <;> rfl) (by decide) (by unfold maxLen; omega) (by omega) (by simp; omega) _ rfl ?_; intro g cap w12 hown12 hgrow12 hgg12 hgl12; have hO12 := (hgrow12.block _ (by rw [World.size_alloc]; omega) (fun e => by have := (hlt12 _ e.symm).1; omega)).trans ((Below.heap_alloc wr _ _ (by omega)).trans hO); have co12 := fun i => cell_of_row w12 _ i _ _ _ hO12; have fo12 := frozen_of_row w12 _ 5 _ _ hO12)
          have hlen12 : (xw.map (chP less more)).length = s.len := by rw [List.length_map]; exact hxl
          have hxo : wr.ownsRow (bx + 1) 53 2 (.slice ax (dd + 1) cx0) (xw.map (chP less more)).length (spCells (xw.map (chP less more))) := by
            have := HO.out
            rw [HDN.out, List.take_of_length_le (by omega), ← hlen12] at this
            have e : dd + 1 = (xw.map (chP less more)).length := by rw [hlen12]; exact HDN.out
            rw [e]
            exact this
          have hv0 : ∀ q, v.ownBlock = some q → q < bx ∧ w.heap.size + 1 + 1 < q := fun q e => ⟨(hlt12 q e).2, by have := (hlt12 q e).1; omega⟩
          have HPUSH := Lib.hid (BdW.push (us0 := us) HF.out (by rw [HBX.out]; exact hbA) rfl (by rw [chS_count]; exact hlt) (xv := .slice ax (dd + 1) cx0) (l := xw.map (chP less more)) (by rw [HBX.out]; exact hxo) (by omega) (by rw [HBK.out]) (by rw [HBX.out]; exact hsz14) (by rw [HBK.out]; exact hown12) hul HSPW.out (by rw [HBX.out]; exact hv0) hgrow12 hgg12)
          have HZ2 := Lib.hid ((BdW.low (u := .slice (some ⟨g, 0, none⟩) (k + 1) cap) HF.out (by rw [HBX.out]; exact hbA) (by rw [HBX.out]; exact hv0) hgrow12 (b := w.heap.size + 1) (by omega)).trans HZ.out)
          clear hown12 hgrow12 hgg12 hgl12 hO12 co12 fo12
          refine ⟨⟨k + 1, _, by push_cast; rfl, by omega, HPUSH.out, HZ2.out⟩, ?_⟩
          simp [intOf]
          omega
    · obtain hkn : s.stores.length = k := by omega
      obtain ⟨us, hul, hown, hsp⟩ := HF.out.own
      have hlf : (chS s less more).stores.length = k := by rw [chS_count]; exact hkn
      obtain ⟨g, cv, hv0, hgb, hgl⟩ := hown.form (by omega)
      subst hv0
      have hnames : ∀ i, i < (chS s less more).stores.length → ((chS s less more).stores.getD i default).name.size ≤ 1000000000000000 := by
        intro i hi
        rw [chS_count] at hi
        obtain ⟨_, _, _, -, -, -, -, -, hnm, -⟩ := HV.out.at hi
        rw [chS_get s less more i hi]
        exact hnm
      rw [List.take_of_length_le (by omega)] at hown
      have hB := below_setRow HF.out.bel (show w.heap.size ≤ w.heap.size + 1 by omega) #[.int .i64 s.bend, .int .i64 s.days, .int .i64 s.jump, .int .i64 s.times, .int .i64 s.move, .slice (some ⟨g, 0, none⟩) k cv]
      have hown2 := ownsRow.setRow hown (show w.heap.size + 1 < w.heap.size + 1 + 1 + 1 by omega) #[.int .i64 s.bend, .int .i64 s.days, .int .i64 s.jump, .int .i64 s.times, .int .i64 s.move, .slice (some ⟨g, 0, none⟩) k cv]
      have hspw : ∀ i, i < k → SpansIn (wr.setRow (w.heap.size + 1) #[.int .i64 s.bend, .int .i64 s.days, .int .i64 s.jump, .int .i64 s.times, .int .i64 s.move, .slice (some ⟨g, 0, none⟩) k cv]).heap.size (wr.setRow (w.heap.size + 1) #[.int .i64 s.bend, .int .i64 s.days, .int .i64 s.jump, .int .i64 s.times, .int .i64 s.move, .slice (some ⟨g, 0, none⟩) k cv]) (us.getD i (.bool false)) ((chS s less more).stores.getD i default).warm := fun i hi => (hsp i hi).1.keep (by simp) (fun a n c e hlt => by
        have h5 := ((hsp i hi).2 a n c e).1
        exact setRow_other wr _ _ _ (by omega))
      have HST := Lib.hid (ownsRow_stos' hown2 hlf (by omega) (by rw [hul, hlf]) (fun i hi => ⟨hnames i hi, hspw i (by omega)⟩))
      have HOW := Lib.hid hown2
      have HSPW := Lib.hid hspw
      have HSPA := Lib.hid (fun i (hi : i < k) => (hsp i hi).2)
      have HUL := Lib.hid hul
      have co := fun i => cell_of_row wr _ i _ _ _ HF.out.rO
      have HKN := Lib.hid hkn
      have HBS := Lib.hid hB
      have hzz := HZ.out
      rw [hkn]
      clear hown hsp hul hnames hkn hB hown2 hspw
      go_wp2_with (refine wpList_store_row rfl 31 _ _ rfl (w.heap.size + 1) #[.int .i64 s.bend, .int .i64 s.days, .int .i64 s.jump, .int .i64 s.times, .int .i64 s.move, .slice (some ⟨g, 0, none⟩) k cv] rfl rfl 31 _ hzz info31f rfl (by simp [Value.oneCell']) ?_)
      refine bodyPost_ret (v := .agg #[.int .i64 s.bend, .int .i64 s.days, .int .i64 s.jump, .int .i64 s.times, .int .i64 s.move, .slice (some ⟨g, 0, none⟩) k cv]) (results_cell_row (fn := Try.f30) rfl _ _ _ _ _ _ _ rfl (setRow_heap _ _ _ _ _ _ hzz) Try.underlying31 rfl info31f) rfl ⟨us, g, cv, by rw [HKN.out], by omega, ?_, by rw [HUL.out, HKN.out], ?_, by rw [HKN.out]; exact HST.out, HBS.out⟩
      · rw [HKN.out]
        obtain ⟨h1, h2⟩ := HOW.out
        refine ⟨h1, ?_⟩
        rcases h2 with h2 | ⟨g', cap', cur, h3, h4, h5⟩
        · exact .inl h2
        · exact .inr ⟨g', cap', cur, h3, by omega, h5⟩
      · intro i hi
        rw [HKN.out] at hi
        refine ⟨HSPW.out i hi, fun a n c e => ?_⟩
        have h6 := HSPA.out i hi a n c e
        obtain ⟨cur, hcur⟩ := h6.2.2.2
        refine ⟨by omega, fun e2 => h6.2.1 (by rw [e2]; rfl), cur, ?_⟩
        exact (setRow_other wr _ _ _ (by omega)).trans hcur
theorem changed_any (s : Sea) (hg : Good s) (vs : Value) (less more : Int) (hless : -60 ≤ less ∧ less ≤ 60) (hmore : -60 ≤ more ∧ more ≤ 60) (w : World) (hv : StosIn w.heap.size w vs s.stores) :
    Calls Try.prog 30 #[.agg #[.int .i64 s.bend, .int .i64 s.days, .int .i64 s.jump, .int .i64 s.times, .int .i64 s.move, vs], .int .i64 less, .int .i64 more] w
      fun e w' => ∃ v, e = .returned (.agg #[.int .i64 s.bend, .int .i64 s.days, .int .i64 s.jump, .int .i64 s.times, .int .i64 s.move, v]) ∧ StosIn w'.heap.size w' v (chS s less more).stores ∧ Below w.heap.size w w' :=
  (changed_own s hg vs less more hless hmore w hv).mono fun _ _ ⟨_, _, _, he, _, _, _, _, hs, hb⟩ => ⟨_, he, hs, hb⟩
end Go.Proofs.Ytddapabmfecidaa
