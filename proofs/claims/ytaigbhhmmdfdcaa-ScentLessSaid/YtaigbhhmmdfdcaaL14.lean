/- ScentLess: the walk. -/
import Derived.Test.YtaigbhhmmdfdcaaYg
import Derived.Test.YtaigbhhmmdfdcaaP14
namespace Go.Proofs.Ytaigbhhmmdfdcaa
open Go.RowKit
theorem run_build83 (nm : ByteArray) (a : Option Addr) (n c : Nat) (w : World) : (Instr.build 83 #[(0, .string nm), (1, .slice a n c)]).run Try.prog w = .ok (.agg #[.string nm, .slice a n c]) w := run_build w 83 _ _ (by kernel_rfl)
theorem wpList_store_b2 {P : Program} {ops : Array Oper} {rest : List Oper} {o : Oper} {a : Act} {w0 w : World} {Q : Exit → Act → World → Prop} {l : List (Nat × Obj)} (hgd : o.guard = none) (ty : TypeId) (x y : Operand) (ho : o.op = .store ty x y) (H : Bs w0 l w) (i g : Nat) (cells old : Array Value) (t : TypeId) (hi : l[i]? = some (g, .cells old t))
    (hx : a.eval x = .pointer (some ⟨g, 0, none⟩)) (hy : a.eval y = .agg cells) (hn : (P.info? ty).map (·.size) = some cells.size) (hold : old.size = cells.size) (h1 : cells.all (·.oneCell') = true)
    (h : ∀ w', Bs w0 (l.set i (g, .cells cells t)) w' → But g w w' → wpList P ops Q rest (a.put o.dst undef) w') : wpList P ops Q (o :: rest) a w :=
  have hb := below_setRow (Below.refl 0 w) (Nat.zero_le g) cells
  wpList_store_row hgd ty x y ho g cells hx hy t old (H.get i hi) hn hold h1 (h _ (H.setRow i hi cells) ⟨hb.os, hb.tape, hb.output, hb.size, fun k _ hk => setRow_other w g k cells hk⟩)
theorem but_grow {g : Nat} {W w w' : World} (h : But g W w) (hb : Below W.heap.size w w') : But g W w' :=
  ⟨hb.os.trans h.os, hb.tape.trans h.tape, hb.output.trans h.output, Nat.le_trans h.size hb.size, fun k hk hg => (hb.block k hk).trans (h.block k hk hg)⟩
theorem info54m : (Try.prog.info? 54).map (·.size) = some 1 := by kernel_rfl
theorem content_good {s : Shop} {l : List Bat} (h : batchesE s l = 0) : contentV s l = rangesV s l := by unfold contentV; rw [if_neg (by simp [h])]
theorem keeps_zero {s : Shop} {l : List Bat} (h : batchesE s l = 0) : (keepsV s l).2.2 = 0 := by unfold keepsV; rw [if_neg (by simp [h])]
theorem info23 : (Try.prog.info? 23).map (·.size) = some 1 := by kernel_rfl
theorem lot_name {l : List Lot} {i n c : Nat} {a : Option Addr} {w0 : World} (h : LotsIn w0.heap.size w0 (.slice a n c) l) (hi : i < l.length) :
    ∃ b o, a = some ⟨b, o, none⟩ ∧ b < w0.heap.size ∧ w0.cell? ⟨b, o + i * 2, none⟩ = some (.string (l.getD i default).name) ∧ (l.getD i default).name.size ≤ 1000000000000000 ∧ ∃ v, w0.cell? ⟨b, o + i * 2 + 1, none⟩ = some v ∧ SpansIn w0.heap.size w0 v (l.getD i default).parts := by
  obtain ⟨b, o, rfl, hbb, h1, h2, v, h3, h4⟩ := h.at' hi
  exact ⟨b, o, rfl, hbb, h1, h2, v, h3, h4⟩
set_option maxRecDepth 100000 in
set_option maxHeartbeats 16000000 in
theorem less_law (s : Shop) (l : List Bat) (x : List Int) (hx : Turns x) (vt vl v vx : Value) (w : World) (hs : ShopAt w.heap.size w vt vl s) (hl : BatsIn w.heap.size w v l) (hvx : IntsIn .u32 w.heap.size w vx x) :
    Calls Try.prog 14 #[.agg #[vt, vl], v, vx] w (fun e w' => e = .returned (.bool true) ∧ Below w.heap.size w w') := by
  have HS := Lib.hid hs
  have HL := Lib.hid hl
  have HX := Lib.hid hx
  have HVX := Lib.hid hvx
  obtain ⟨ta, tc, rfl, -, -⟩ := sl_shape hs.1
  obtain ⟨la, lc, rfl, -, -⟩ := sl_shape hs.2
  obtain ⟨a, c, rfl, hlc, hlen⟩ := sl_shape hl
  obtain ⟨ax, cx, rfl, -⟩ := hvx
  clear hs hl hx
  have C0 : Hid (Bs w [(w.heap.size, .cells #[.slice ta s.things.length tc, .slice la s.lots.length lc] 25)] _) := (Bs.nil w).push _ rfl (.cells #[.slice ta s.things.length tc, .slice la s.lots.length lc] 25)
  have hc0 := C0.out.cell 0 rfl 0
  have hc1 := C0.out.cell 0 rfl 1
  have HG : Hid (batchesE s l = 0 → AllGood s l) := all_good
  have HTO := Lib.hid (fun (hz : batchesE s l = 0) => @thin_ok s l hz x)
  have HLO := Lib.hid (fun (hz : batchesE s l = 0) => @less_ok s l hz x)
  have H2 := fun w h1 h2 => Lib.hid (batches_ref s l (.slice ta s.things.length tc) (.slice la s.lots.length lc) (.slice a l.length c) w h1 h2)
  obtain ⟨E, hEE⟩ : ∃ E, batchesE s l = E := ⟨_, rfl⟩
  rw [hEE] at HG HTO HLO
  simp only [hEE] at H2
  have HEE := Lib.hid hEE
  clear hEE
  go_enter Try.func14, Try.ntmps14
  go_wp2_with fail
  refine (H2 _ ((HS.out.below C0.out.bel).mono C0.out.bel.size) ((HL.out.below C0.out.bel).mono C0.out.bel.size)).out.mono ?_
  rintro e w1 ⟨rfl, hb⟩
  have C1 := Lib.hid (C0.out.call hb)
  clear hb C0 hc0 hc1 H2
  by_cases hE : E = 0
  case neg =>
    have hq : (E != 0) = true := by simpa using hE
    clear hE HG HTO HLO HEE
    go_wp2_with fail
    refine (awake_any _).mono ?_
    rintro e w3 ⟨rfl, hb⟩
    have C3 := Lib.hid (C1.out.call hb)
    clear hb C1
    go_wp2_with fail
    go_ret
    exact ⟨rfl, C3.out.bel⟩
  have HE0 := Lib.hid hE
  have hq : (E != 0) = false := by simpa using hE
  have HZ0 : Hid (batchesE s l = 0) := HEE.out.trans hE
  have HGD := Lib.hid (HG.out hE)
  have HTK := Lib.hid (HTO.out hE)
  have HLK := Lib.hid (HLO.out hE)
  clear hE HG HTO HLO HEE HE0
  obtain ⟨hsh, hn1, hn6, -⟩ := HGD.out
  have hnt5 := hsh.nt5
  have hnt1 := hsh.nt1
  have hnl1 := hsh.nl1
  have hnl6 := hsh.nl6
  clear hsh
  have hc0 := C1.out.cell 0 rfl 0
  go_wp2_with fail
  have C2 := Lib.hid (C1.out.push _ rfl (.cells #[.slice ta s.things.length tc, .slice none 0 0] 25))
  obtain ⟨G, hG⟩ : ∃ G, w1.heap.size = G := ⟨_, rfl⟩
  obtain ⟨W2, hW2⟩ : ∃ W, w1.alloc (.cells #[.slice ta s.things.length tc, .slice none 0 0] 25) = W := ⟨_, rfl⟩
  have hW2s : W2.heap.size = G + 1 := by rw [← hW2, ← hG]; simp
  have hGw : w.heap.size < G := by rw [← hG]; exact C1.out.lt 0 rfl
  rw [hG, hW2] at C2
  rw [hW2, hG]
  clear hG hW2 hq hc0 C1
  obtain ⟨NMF, hNM⟩ : ∃ f : Nat → ByteArray, ∀ i, f i = (s.lots.getD i default).name := ⟨fun i => (s.lots.getD i default).name, fun _ => rfl⟩
  have HNM := Lib.hid hNM
  clear hNM
  obtain ⟨B, hB⟩ : ∃ B, W2.heap.size = B := ⟨_, rfl⟩
  rw [hB] at hW2s
  have HBW := Lib.hid hB
  clear hB
  go_loopw [8] (fun iv wr => ∃ (i : Nat) (R : Value) (xs : List Value), iv = .int .i64 i ∧ i ≤ s.lots.length ∧ Bs w [(w.heap.size, .cells #[.slice ta s.things.length tc, .slice la s.lots.length lc] 25), (G, .cells #[.slice ta s.things.length tc, R] 25)] wr ∧ B ≤ wr.heap.size ∧ LotRow B wr R i xs NMF (fun i => narrowV (s.lots.getD i default).parts x i)) (fun iv _ => s.lots.length - (intOf iv).toNat)
  case atStart => exact ⟨0, _, [], rfl, by omega, C2.out, Nat.le_of_eq HBW.out.symm, LotRow.nil _ _⟩
  case round =>
    obtain ⟨i, R, xs, rfl, hi, hbs, hle, hrow⟩ := hrel
    clear C2
    have CI := Lib.hid hbs
    have HLE := Lib.hid hle
    have HRW := Lib.hid hrow
    clear hbs hle hrow
    have hs1 := CI.out.cell 0 rfl 1
    by_cases hil : i < s.lots.length
    · as_aux_lemma =>
        have hii : (i : Int) < (s.lots.length : Int) := by omega
        obtain ⟨bl, ol, rfl, hbl, hn1', hnsz, pv, hp1, hp2⟩ := lot_name HS.out.2 hil
        rw [← HNM.out i] at hn1' hnsz
        have HN1 := Lib.hid hn1'
        have HP1 := Lib.hid hp1
        have HP2 := Lib.hid hp2
        have HUL := Lib.hid hbl
        obtain ⟨pa, pc, rfl, -, -⟩ := sl_shape hp2
        have hpl := HGD.out.sh.plen i hil
        rw [hpl] at HP1 HP2
        have hok : SpOk (s.lots.getD i default).parts := fun t _ => by have := HGD.out.sh.part i hil t; omega
        have HNA := fun v u w h1 h2 => Lib.hid (narrow48_own (s.lots.getD i default).parts x i (by omega) hok HX.out (by omega) v u w h1 h2)
        obtain ⟨R1, R2, rfl⟩ := ownsRow_slice HRW.out.row
        clear hn1' hp1 hp2 hbl hok hpl
        go_wp2_with fail
        clear hs1
        have HBA := Lib.hid CI.out.bel
        refine wp_region_inv1 (by kernel_rfl) (by kernel_rfl) [66, 67, 68, 69] (fun D y w' => FnW w (w.heap.size, .cells #[.slice ta s.things.length tc, .slice (some ⟨bl, ol, none⟩) s.lots.length lc] 25) G B (.slice ta s.things.length tc) (.slice R1 i R2) i xs NMF (fun i => narrowV (s.lots.getD i default).parts x i) (D 16) (D 17) (D 18) (D 19) (D 21) (y 66) (y 67) (y 68) (y 69) w') ?N1 ?N2 ?N3 ?_
        case N1 => exact FnW.drew ⟨CI.out, HLE.out, by omega, by omega, by simp only; omega, fun _ => HRW.out, fun h => (by cases h), fun h => (by cases h), fun h => (by cases h), fun h => (by cases h), fun _ => rfl, fun _ => rfl, fun _ => rfl, fun _ => rfl⟩
        case N3 =>
          intro y
          simp only [fill, List.foldl, Act.put, List.setIfInBounds_toArray, List.set]
          exact rfl
        apply obl_det
        case hrun =>
          intro D y wz hW hD R hR
          have HRR := Lib.hid hR
          clear hR
          have HW := Lib.hid hW
          clear hW hD
          go_wp2_with fail
          exact HRR.out _ HW.out
        case hnp => rfl
        case hv => first | exact ⟨_, fun _ => rfl⟩ | exact ⟨undef, fun _ => rfl⟩
        apply obl_det
        case hrun =>
          intro D y wz hW hD R hR
          have HRR := Lib.hid hR
          clear hR
          have h21 : D 21 = false := hD.post _ 21 rfl (by kernel_rfl)
          have H21 := Lib.hid h21
          have h1 := hW.bs.cell 1 rfl 1
          rw [h21] at h1
          simp only [cond] at h1
          clear h21
          have HW := Lib.hid hW
          clear hW hD
          go_wp2_with fail
          exact HRR.out _ HW.out
        case hnp => rfl
        case hv => first | exact ⟨_, fun _ => rfl⟩ | exact ⟨undef, fun _ => rfl⟩
        apply obl_det
        case hrun =>
          intro D y wz hW hD R hR
          have HRR := Lib.hid hR
          clear hR
          have HW := Lib.hid hW
          clear hW hD
          go_wp2_with fail
          exact HRR.out _ HW.out
        case hnp => rfl
        case hv => first | exact ⟨_, fun _ => rfl⟩ | exact ⟨undef, fun _ => rfl⟩
        apply obl_det
        case hrun =>
          intro D y wz hW hD R hR
          have HRR := Lib.hid hR
          clear hR
          have HW := Lib.hid hW
          have h1 := HW.out.bs.cell 0 rfl 1
          clear hW hD
          go_wp2_with fail
          exact HRR.out _ HW.out
        case hnp => rfl
        case hv => first | exact ⟨_, fun _ => rfl⟩ | exact ⟨undef, fun _ => rfl⟩
        apply obl_det
        case hrun =>
          intro D y wz hW hD R hR
          have HRR := Lib.hid hR
          clear hR
          have HW := Lib.hid hW
          clear hW hD
          go_wp2_with fail
          exact HRR.out _ HW.out
        case hnp => rfl
        case hv => first | exact ⟨_, fun _ => rfl⟩ | exact ⟨undef, fun _ => rfl⟩
        apply obl_det
        case hrun =>
          intro D y wz hW hD R hR
          have HRR := Lib.hid hR
          clear hR
          have HW := Lib.hid hW
          clear hW hD
          go_wp2_with fail
          exact HRR.out _ HW.out
        case hnp => rfl
        case hv => first | exact ⟨_, fun _ => rfl⟩ | exact ⟨undef, fun _ => rfl⟩
        apply obl_det
        case hrun =>
          intro D y wz hW hD R hR
          have HRR := Lib.hid hR
          clear hR
          have HW := Lib.hid hW
          clear hW hD
          go_wp2_with fail
          exact HRR.out _ HW.out
        case hnp => rfl
        case hv => first | exact ⟨_, fun _ => rfl⟩ | exact ⟨undef, fun _ => rfl⟩
        apply obl_det
        case hrun =>
          intro D y wz hW hD R hR
          have HRR := Lib.hid hR
          clear hR
          have HW := Lib.hid hW
          have HZ := Lib.hid HW.out.bs.bel
          have h1 := (HZ.out.cell (p := ⟨bl, ol + i * 2, none⟩) HUL.out).trans HN1.out
          clear hW hD
          go_wp2_with fail
          exact HRR.out _ HW.out
        case hnp => rfl
        case hv => first | exact ⟨_, fun _ => rfl⟩ | exact ⟨undef, fun _ => rfl⟩
        apply obl_det
        case hrun =>
          intro D y wz hW hD R hR
          have HRR := Lib.hid hR
          clear hR
          have HW := Lib.hid hW
          clear hW hD
          go_wp2_with fail
          exact HRR.out _ HW.out
        case hnp => rfl
        case hv => first | exact ⟨_, fun _ => rfl⟩ | exact ⟨undef, fun _ => rfl⟩
        apply obl_det
        case hrun =>
          intro D y wz hW hD R hR
          have HRR := Lib.hid hR
          clear hR
          have HW := Lib.hid hW
          have h1 := HW.out.bs.cell 0 rfl 1
          clear hW hD
          go_wp2_with fail
          exact HRR.out _ HW.out
        case hnp => rfl
        case hv => first | exact ⟨_, fun _ => rfl⟩ | exact ⟨undef, fun _ => rfl⟩
        apply obl_det
        case hrun =>
          intro D y wz hW hD R hR
          have HRR := Lib.hid hR
          clear hR
          have HW := Lib.hid hW
          clear hW hD
          go_wp2_with fail
          exact HRR.out _ HW.out
        case hnp => rfl
        case hv => first | exact ⟨_, fun _ => rfl⟩ | exact ⟨undef, fun _ => rfl⟩
        apply obl_det
        case hrun =>
          intro D y wz hW hD R hR
          have HRR := Lib.hid hR
          clear hR
          have HW := Lib.hid hW
          clear hW hD
          go_wp2_with fail
          exact HRR.out _ HW.out
        case hnp => rfl
        case hv => first | exact ⟨_, fun _ => rfl⟩ | exact ⟨undef, fun _ => rfl⟩
        apply obl_det
        case hrun =>
          intro D y wz hW hD R hR
          have HRR := Lib.hid hR
          clear hR
          have HW := Lib.hid hW
          clear hW hD
          go_wp2_with fail
          exact HRR.out _ HW.out
        case hnp => rfl
        case hv => first | exact ⟨_, fun _ => rfl⟩ | exact ⟨undef, fun _ => rfl⟩
        apply obl_det
        case hrun =>
          intro D y wz hW hD R hR
          have HRR := Lib.hid hR
          clear hR
          have HW := Lib.hid hW
          have HZ := Lib.hid HW.out.bs.bel
          have h1 := (HZ.out.cell (p := ⟨bl, ol + i * 2 + 1, none⟩) HUL.out).trans HP1.out
          clear hW hD
          go_wp2_with fail
          exact HRR.out _ HW.out
        case hnp => rfl
        case hv => first | exact ⟨_, fun _ => rfl⟩ | exact ⟨undef, fun _ => rfl⟩
        apply obl_det
        case hrun =>
          intro D y wz hW hD R hR
          have HRR := Lib.hid hR
          clear hR
          have HW := Lib.hid hW
          clear hW hD
          go_wp2_with fail
          exact HRR.out _ HW.out
        case hnp => rfl
        case hv => first | exact ⟨_, fun _ => rfl⟩ | exact ⟨undef, fun _ => rfl⟩
        apply obl_det
        case hrun =>
          intro D y wz hW hD R hR
          have HRR := Lib.hid hR
          clear hR
          have HW := Lib.hid hW
          clear hW hD
          go_wp2_with fail
          exact HRR.out _ HW.out
        case hnp => rfl
        case hv => first | exact ⟨_, fun _ => rfl⟩ | exact ⟨undef, fun _ => rfl⟩
        apply obl_priv 66
        case hd => rfl
        case hp => rfl
        case hrun =>
          intro D y wz hW hD R hR
          have HRR := Lib.hid hR
          clear hR
          have h16 : D 16 = false := hD.not
          rw [h16] at hW
          have HZ := Lib.hid hW.bs.bel
          have HC := Lib.hid (HNA (.slice pa s.things.length pc) (.slice ax x.length cx) wz ((HP2.out.below HZ.out).mono HZ.out.size) ((HVX.out.below HZ.out).mono HZ.out.size)).out
          have HW := Lib.hid hW
          have hBz := hW.hB
          clear hW hD h16
          go_wp2_with fail
          refine HC.out.mono ?_
          rintro e w' ⟨u, rfl, hu, hb⟩
          have HN := Lib.hid (HW.out.put16 hb (ownsRow.le hu hBz))
          clear hb hu
          go_wp2_with fail
          refine HRR.out _ _ ?_
          show FnW w (w.heap.size, .cells #[.slice ta s.things.length tc, .slice (some ⟨bl, ol, none⟩) s.lots.length lc] 25) G B (.slice ta s.things.length tc) (.slice R1 i R2) i xs NMF (fun i => narrowV (s.lots.getD i default).parts x i) true (D 17) (D 18) (D 19) (D 21) _ (y 67) (y 68) (y 69) _
          exact HN.out
        apply obl_priv 67
        case hd => rfl
        case hp => rfl
        case hrun =>
          intro D y wz hW hD R hR
          have HRR := Lib.hid hR
          clear hR
          have h16 : D 16 = true := hD.pre _ 16 rfl (by kernel_rfl)
          have h17 : D 17 = false := hD.not
          rw [h16, h17] at hW
          obtain ⟨ua, uc, eu⟩ := ownsRow_slice (hW.u rfl)
          have HW := Lib.hid hW.put17
          have H16 := Lib.hid h16
          have EU := Lib.hid eu
          clear hW hD h16 h17 eu
          refine wpList_bd rfl 83 _ rfl #[(0, .string (NMF i)), (1, y 66)] (by simp only [List.map_toArray, List.map]; rfl) #[.string (NMF i), y 66] (by rw [EU.out]; exact run_build83 _ _ _ _ _) ?_
          refine HRR.out _ _ ?_
          show FnW w (w.heap.size, .cells #[.slice ta s.things.length tc, .slice (some ⟨bl, ol, none⟩) s.lots.length lc] 25) G B (.slice ta s.things.length tc) (.slice R1 i R2) i xs NMF (fun i => narrowV (s.lots.getD i default).parts x i) (D 16) true (D 18) (D 19) (D 21) (y 66) _ (y 68) (y 69) _
          rw [H16.out]
          exact HW.out
        apply obl_priv 68
        case hd => rfl
        case hp => rfl
        case hrun =>
          intro D y wz hW hD R hR
          have HRR := Lib.hid hR
          clear hR
          have h17 : D 17 = true := hD.pre _ 17 rfl (by kernel_rfl)
          have h18 : D 18 = false := hD.not
          rw [h17, h18] at hW
          have eb := hW.b rfl
          have HW := Lib.hid hW.put18
          have H17 := Lib.hid h17
          have EB := Lib.hid eb
          clear hW hD h17 h18 eb
          obtain ⟨i0, hi0, hz0, hz1, hz2⟩ := info83'
          refine wpList_buildSlice rfl 23 83 1 #[(0, .tmp 67)] rfl #[.string (NMF i), y 66] i0 _ Try.underlying23 hi0 hz0 (by omega) (by omega) (by simp only [List.map_toArray, List.map]; show Instr.fill _ _ [(0, y 67)] = _; rw [EB.out]; exact fill83 _ _ i0 hz1) ?_
          refine HRR.out _ _ ?_
          show FnW w (w.heap.size, .cells #[.slice ta s.things.length tc, .slice (some ⟨bl, ol, none⟩) s.lots.length lc] 25) G B (.slice ta s.things.length tc) (.slice R1 i R2) i xs NMF (fun i => narrowV (s.lots.getD i default).parts x i) (D 16) (D 17) true (D 19) (D 21) (y 66) (y 67) _ (y 69) _
          rw [H17.out]
          exact HW.out
        apply obl_priv 69
        case hd => rfl
        case hp => rfl
        case hrun =>
          intro D y wz hW hD R hR
          have HRR := Lib.hid hR
          clear hR
          have h18 : D 18 = true := hD.pre _ 18 rfl (by kernel_rfl)
          have h19 : D 19 = false := hD.not
          have h21 : D 21 = false := hD.post _ 21 rfl (by kernel_rfl)
          have h16 : D 16 = true := hD.pre _ 16 rfl (by kernel_rfl)
          have h17 : D 17 = true := by
            cases e : D 17
            · have := hW.i17 e; rw [h18] at this; cases this
            · rfl
          rw [h16, h17, h18, h19] at hW
          have HR := Lib.hid (hW.row rfl).row
          obtain ⟨gn, en, hcn⟩ := hW.s rfl rfl
          have hBz := hW.hB
          obtain ⟨ua, uc, eu⟩ := ownsRow_slice (hW.u rfl)
          have HO6 : Hid ((y 66).oneCell' = true) := by unfold Hid; rw [eu]; rfl
          clear eu
          have HW := Lib.hid hW
          have HEN := Lib.hid en
          have HCN := Lib.hid hcn
          have H16 := Lib.hid h16
          have H17 := Lib.hid h17
          have H18 := Lib.hid h18
          clear hW hD h16 h17 h18 h19 h21 en hcn
          obtain ⟨i0, hi0, hz0, hz1, hz2⟩ := info83'
          refine wpList_append_own _ rfl _ _ 23 rfl B 83 i0 (.agg #[.string ByteArray.empty, .slice none 0 0]) 2 40 Try.underlying23 hi0 hz0 hz1 hz2 rfl (by decide) _ _ _ rfl HR.out ⟨gn, 0, none⟩ 1 1 [.string (NMF i), y 66] HEN.out rfl (cell_news _ _ _ _ HCN.out) (by intro u hu; simp only [List.mem_cons, List.not_mem_nil, or_false] at hu; rcases hu with rfl | rfl; exact rfl; exact HO6.out) (by unfold maxLen; omega) (by omega) hBz ?_
          intro v' w12 hown hgrow _
          have HN := Lib.hid (FnW.put19 HW.out hown hgrow)
          clear hown hgrow
          refine HRR.out _ _ ?_
          show FnW w (w.heap.size, .cells #[.slice ta s.things.length tc, .slice (some ⟨bl, ol, none⟩) s.lots.length lc] 25) G B (.slice ta s.things.length tc) (.slice R1 i R2) i xs NMF (fun i => narrowV (s.lots.getD i default).parts x i) (D 16) (D 17) (D 18) true (D 21) (y 66) (y 67) (y 68) _ _
          rw [H16.out, H17.out, H18.out]
          exact HN.out
        apply obl_det
        case hrun =>
          intro D y wz hW hD R hR
          have HRR := Lib.hid hR
          clear hR
          have HW := Lib.hid hW
          clear hW hD
          go_wp2_with fail
          exact HRR.out _ HW.out
        case hnp => rfl
        case hv => first | exact ⟨_, fun _ => rfl⟩ | exact ⟨undef, fun _ => rfl⟩
        apply obl_det
        case hrun =>
          intro D y wz hW hD R hR
          have HRR := Lib.hid hR
          clear hR
          have h21 : D 21 = false := hD.not
          have h16 : D 16 = true := hD.pre _ 16 rfl (by kernel_rfl)
          have h17 : D 17 = true := hD.pre _ 17 rfl (by kernel_rfl)
          have h18 : D 18 = true := hD.pre _ 18 rfl (by kernel_rfl)
          have h19 : D 19 = true := hD.pre _ 19 rfl (by kernel_rfl)
          rw [h16, h17, h18, h19, h21] at hW
          obtain ⟨ga, gc, e69⟩ := ownsRow_slice (hW.got rfl).row
          have HO9 : Hid ((y 69).oneCell' = true) := by unfold Hid; rw [e69]; rfl
          have HW := Lib.hid hW
          have H16 := Lib.hid h16
          have H17 := Lib.hid h17
          have H18 := Lib.hid h18
          have H19 := Lib.hid h19
          clear hW hD h16 h17 h18 h19 h21 e69
          refine wpList_cell_bb rfl 23 _ _ rfl HW.out.bs 1 G 1 _ 25 rfl rfl (y 69) rfl (by simp) HO9.out info23 ?_
          intro w4 hC4 hB4
          have HN := Lib.hid (FnW.put21 HW.out hC4 hB4)
          clear hC4 hB4
          simp only [Act.put]
          refine HRR.out _ ?_
          show FnW w (w.heap.size, .cells #[.slice ta s.things.length tc, .slice (some ⟨bl, ol, none⟩) s.lots.length lc] 25) G B (.slice ta s.things.length tc) (.slice R1 i R2) i xs NMF (fun i => narrowV (s.lots.getD i default).parts x i) (D 16) (D 17) (D 18) (D 19) true (y 66) (y 67) (y 68) (y 69) _
          rw [H16.out, H17.out, H18.out, H19.out]
          exact HN.out
        case hnp => rfl
        case hv => first | exact ⟨_, fun _ => rfl⟩ | exact ⟨undef, fun _ => rfl⟩
        apply obl_nil
        intro D y w8 hall hW
        rw [hall 16 (by decide), hall 17 (by decide), hall 18 (by decide), hall 19 (by decide), hall 21 (by decide)] at hW
        have HBS := Lib.hid hW.bs
        have HGT := Lib.hid (hW.got rfl)
        have HB8 := Lib.hid hW.hB
        clear hall hW
        generalize y 69 = y69 at *
        go_wp2_with fail
        refine ⟨⟨i + 1, y69, _, by push_cast; rfl, by omega, HBS.out, HB8.out, HGT.out⟩, ?_⟩
        simp [intOf]; omega
    · obtain rfl : i = s.lots.length := by omega
      have HLT := Lib.hid (LotRow.lots HRW.out (by omega) (fun i hi => by rw [narrowV_len, HGD.out.sh.plen i hi]; omega) (fineS s x).lots (by simp [fineS]) (fun i hi => by
        rw [fine_get s x hi]
        obtain ⟨-, -, -, -, -, hz, -⟩ := lot_name HS.out.2 hi
        exact ⟨(HNM.out i).symm, by rw [HNM.out i]; exact hz, rfl⟩))
      obtain ⟨R1, R2, rfl⟩ := ownsRow_slice HRW.out.row
      have HFS : Hid (ShopAt wr.heap.size wr (.slice ta s.things.length tc) (.slice R1 s.lots.length R2) (fineS s x)) := ⟨(HS.out.1.below CI.out.bel).mono CI.out.bel.size, HLT.out⟩
      have hGB : w.heap.size < wr.heap.size := by have := HLE.out; omega
      clear HLT HRW HNM
      obtain ⟨b, o, rfl, hbb, VG, VB, VA, hvv⟩ := bat_funs HL.out rfl hn1
      have HVV := Lib.hid hvv
      have HBB := Lib.hid hbb
      clear hvv hbb
      obtain ⟨W3, hW3⟩ : ∃ W, W = wr := ⟨_, rfl⟩
      subst hW3
      obtain ⟨B3, hB3⟩ : ∃ B, W3.heap.size = B := ⟨_, rfl⟩
      have HB3 := Lib.hid hB3
      have HFA := Lib.hid (fun k (hk : k < l.length) => bat_ok0 (batchE_zero (HGD.out.pre k hk)).1)
      clear hB3
      go_wp2_with fail
      clear hs1
      go_loopw [9, 10, 11] (fun tx ly kv wr => ∃ (k : Nat) (tv lv : Value) (xs ys : List Value), tv = tx ∧ lv = ly ∧ kv = .int .i64 k ∧ k ≤ l.length ∧ Below B3 W3 wr ∧ B3 ≤ wr.heap.size ∧ BatRow B3 wr tv k xs VG VB (fun k => narrowV (l.getD k default).added x k) ∧ BatRow B3 wr lv k ys VG VB (fun k => lessV (l.getD k default).added x k) ∧ ∀ g, tv.ownBlock = some g → lv.ownBlock ≠ some g) (fun _ _ kv _ => l.length - (intOf kv).toNat)
      case atStart => exact ⟨0, _, _, [], [], rfl, rfl, rfl, by omega, Below.refl _ _, Nat.le_of_eq HB3.out.symm, BatRow.nil _ _, BatRow.nil _ _, fun g e => by simp [Value.ownBlock] at e⟩
      case round =>
        obtain ⟨k, tv, lv, xs, ys, rfl, rfl, rfl, hk, hb, hle, hT, hL, hne⟩ := hrel
        have HBK := Lib.hid hb
        have HLK2 := Lib.hid hle
        have HT := Lib.hid hT
        have HLL := Lib.hid hL
        have HNE := Lib.hid hne
        clear hb hle hT hL hne HLE
        by_cases hkl : k < l.length
        · as_aux_lemma =>
            have hki : (k : Int) < (l.length : Int) := by omega
            obtain ⟨hv1, hv2, hv3, hat⟩ := HVV.out k hkl
            have HV1 := Lib.hid hv1
            have HV2 := Lib.hid hv2
            have HV3 := Lib.hid hv3
            have HAT := Lib.hid hat
            have HFL : Hid (#[VG k, VB k, VA k].all (·.oneCell') = true) := by
              obtain ⟨p1, p2, e1, -⟩ := hat.1
              obtain ⟨p3, p4, e2, -⟩ := hat.2.1
              obtain ⟨p5, p6, e3, -⟩ := hat.2.2
              unfold Hid
              rw [e1, e2, e3]
              simp [Value.oneCell']
            clear hv1 hv2 hv3 hat
            have HBA : Hid (Below w.heap.size w wr) := CI.out.bel.trans (HBK.out.mono (by rw [← HB3.out]; exact CI.out.bel.size))
            obtain ⟨Wk, hWk⟩ : ∃ W, W = wr := ⟨_, rfl⟩
            subst hWk
            go_wp2_with fail
            refine wp_region_inv1 (by kernel_rfl) (by kernel_rfl) [12, 13] (fun D y w' => TbW Wk #[VG k, VB k, VA k] (D 8) (D 9) (D 10) (D 11) (y 12) (y 13) w') (TbW.start _) ?T1 ?hT1 ?_
            case hT1 =>
              intro y
              simp only [fill, List.foldl, Act.put, List.setIfInBounds_toArray, List.set]
              exact rfl
            apply obl_det
            case hrun =>
              intro D y wz hW hD R hR
              have HRR := Lib.hid hR
              clear hR
              have HW := Lib.hid hW
              clear hW hD
              go_wp2_with fail
              exact HRR.out _ HW.out
            case hnp => rfl
            case hv => first | exact ⟨_, fun _ => rfl⟩ | exact ⟨undef, fun _ => rfl⟩
            apply obl_det
            case hrun =>
              intro D y wz hW hD R hR
              have HRR := Lib.hid hR
              clear hR
              have HW := Lib.hid hW
              clear hW hD
              go_wp2_with fail
              exact HRR.out _ HW.out
            case hnp => rfl
            case hv => first | exact ⟨_, fun _ => rfl⟩ | exact ⟨undef, fun _ => rfl⟩
            apply obl_det
            case hrun =>
              intro D y wz hW hD R hR
              have HRR := Lib.hid hR
              clear hR
              have HW := Lib.hid hW
              clear hW hD
              go_wp2_with fail
              exact HRR.out _ HW.out
            case hnp => rfl
            case hv => first | exact ⟨_, fun _ => rfl⟩ | exact ⟨undef, fun _ => rfl⟩
            apply obl_det
            case hrun =>
              intro D y wz hW hD R hR
              have HRR := Lib.hid hR
              clear hR
              have HW := Lib.hid hW
              have HZ := Lib.hid (HBA.out.trans (HW.out.bel.mono HBA.out.size))
              have h1 := (HZ.out.cell (p := ⟨b, o + k * 3, none⟩) HBB.out).trans HV1.out
              have h2 := (HZ.out.cell (p := ⟨b, o + k * 3 + 1, none⟩) HBB.out).trans HV2.out
              have h3 := (HZ.out.cell (p := ⟨b, o + k * 3 + 2, none⟩) HBB.out).trans HV3.out
              clear hW hD
              go_wp2_with fail
              exact HRR.out _ ⟨HW.out.bel, HW.out.p, HW.out.q, HW.out.pq⟩
            case hnp => rfl
            case hv => first | exact ⟨_, fun _ => rfl⟩ | exact ⟨undef, fun _ => rfl⟩
            apply obl_det
            case hrun =>
              intro D y wz hW hD R hR
              have HRR := Lib.hid hR
              clear hR
              have HW := Lib.hid hW
              clear hW hD
              go_wp2_with fail
              exact HRR.out _ HW.out
            case hnp => rfl
            case hv => first | exact ⟨_, fun _ => rfl⟩ | exact ⟨undef, fun _ => rfl⟩
            apply obl_det
            case hrun =>
              intro D y wz hW hD R hR
              have HRR := Lib.hid hR
              clear hR
              have HW := Lib.hid hW
              clear hW hD
              go_wp2_with fail
              exact HRR.out _ HW.out
            case hnp => rfl
            case hv => first | exact ⟨_, fun _ => rfl⟩ | exact ⟨undef, fun _ => rfl⟩
            apply obl_det
            case hrun =>
              intro D y wz hW hD R hR
              have HRR := Lib.hid hR
              clear hR
              have HW := Lib.hid hW
              clear hW hD
              go_wp2_with fail
              exact HRR.out _ HW.out
            case hnp => rfl
            case hv => first | exact ⟨_, fun _ => rfl⟩ | exact ⟨undef, fun _ => rfl⟩
            apply obl_det
            case hrun =>
              intro D y wz hW hD R hR
              have HRR := Lib.hid hR
              clear hR
              have HW := Lib.hid hW
              have HZ := Lib.hid (HBA.out.trans (HW.out.bel.mono HBA.out.size))
              have h1 := (HZ.out.cell (p := ⟨b, o + k * 3, none⟩) HBB.out).trans HV1.out
              have h2 := (HZ.out.cell (p := ⟨b, o + k * 3 + 1, none⟩) HBB.out).trans HV2.out
              have h3 := (HZ.out.cell (p := ⟨b, o + k * 3 + 2, none⟩) HBB.out).trans HV3.out
              clear hW hD
              go_wp2_with fail
              exact HRR.out _ ⟨HW.out.bel, HW.out.p, HW.out.q, HW.out.pq⟩
            case hnp => rfl
            case hv => first | exact ⟨_, fun _ => rfl⟩ | exact ⟨undef, fun _ => rfl⟩
            apply obl_priv 12
            case hd => rfl
            case hp => rfl
            case hrun =>
              intro D y wz hW hD R hR
              have HRR := Lib.hid hR
              clear hR
              have h0 : D 10 = false := hD.post _ 10 rfl (by kernel_rfl)
              rw [h0] at hW
              have HN := Lib.hid hW.put8
              have H0 := Lib.hid h0
              clear hW hD h0
              go_wp2_with fail
              refine HRR.out _ _ ?_
              show TbW Wk #[VG k, VB k, VA k] true (D 9) (D 10) (D 11) _ (y 13) _
              rw [H0.out]
              exact HN.out
            apply obl_priv 13
            case hd => rfl
            case hp => rfl
            case hrun =>
              intro D y wz hW hD R hR
              have HRR := Lib.hid hR
              clear hR
              have h0 : D 11 = false := hD.post _ 11 rfl (by kernel_rfl)
              rw [h0] at hW
              have HN := Lib.hid hW.put9
              have H0 := Lib.hid h0
              clear hW hD h0
              go_wp2_with fail
              refine HRR.out _ _ ?_
              show TbW Wk #[VG k, VB k, VA k] (D 8) true (D 10) (D 11) (y 12) _ _
              rw [H0.out]
              exact HN.out
            apply obl_det
            case hrun =>
              intro D y wz hW hD R hR
              have HRR := Lib.hid hR
              clear hR
              have h0 : D 10 = false := hD.not
              have h8 : D 8 = true := hD.pre _ 8 rfl (by kernel_rfl)
              have h9 : D 9 = true := hD.pre _ 9 rfl (by kernel_rfl)
              rw [h8, h9, h0] at hW
              obtain ⟨gp, e, hge, hcell⟩ := hW.p rfl
              have CC := Lib.hid (Bs.snoc (l := []) (w := Wk) ⟨by simp, by simp, by simp, hW.bel⟩ (by simp) hcell hge)
              have HW := Lib.hid hW
              have E := Lib.hid e
              have H8 := Lib.hid h8
              have H9 := Lib.hid h9
              clear hW hD h0 h8 h9 e hge hcell
              refine wpList_store_b2 rfl 75 _ _ rfl CC.out 0 gp #[VG k, VB k, VA k] _ _ rfl E.out rfl info75 rfl HFL.out ?_
              intro w4 hC4 hB4
              have HN := Lib.hid (HW.out.store10 E.out hC4 hB4)
              clear hC4 hB4
              simp only [Act.put]
              refine HRR.out _ ?_
              show TbW Wk #[VG k, VB k, VA k] (D 8) (D 9) true (D 11) (y 12) (y 13) _
              rw [H8.out, H9.out]
              exact HN.out
            case hnp => rfl
            case hv => first | exact ⟨_, fun _ => rfl⟩ | exact ⟨undef, fun _ => rfl⟩
            apply obl_det
            case hrun =>
              intro D y wz hW hD R hR
              have HRR := Lib.hid hR
              clear hR
              have h0 : D 11 = false := hD.not
              have h8 : D 8 = true := hD.pre _ 8 rfl (by kernel_rfl)
              have h9 : D 9 = true := hD.pre _ 9 rfl (by kernel_rfl)
              rw [h8, h9, h0] at hW
              obtain ⟨gp, e, hge, hcell⟩ := hW.q rfl
              have CC := Lib.hid (Bs.snoc (l := []) (w := Wk) ⟨by simp, by simp, by simp, hW.bel⟩ (by simp) hcell hge)
              have HW := Lib.hid hW
              have E := Lib.hid e
              have H8 := Lib.hid h8
              have H9 := Lib.hid h9
              clear hW hD h0 h8 h9 e hge hcell
              refine wpList_store_b2 rfl 75 _ _ rfl CC.out 0 gp #[VG k, VB k, VA k] _ _ rfl E.out rfl info75 rfl HFL.out ?_
              intro w4 hC4 hB4
              have HN := Lib.hid (HW.out.store11 E.out hC4 hB4)
              clear hC4 hB4
              simp only [Act.put]
              refine HRR.out _ ?_
              show TbW Wk #[VG k, VB k, VA k] (D 8) (D 9) (D 10) true (y 12) (y 13) _
              rw [H8.out, H9.out]
              exact HN.out
            case hnp => rfl
            case hv => first | exact ⟨_, fun _ => rfl⟩ | exact ⟨undef, fun _ => rfl⟩
            apply obl_nil
            intro D y Wm hall hW
            obtain ⟨G2, e2, hg2, hc2⟩ := hW.p (hall 8 (by decide))
            obtain ⟨G3, e3, hg3, hc3⟩ := hW.q (hall 9 (by decide))
            have hne := hW.pq (hall 8 (by decide)) (hall 9 (by decide))
            rw [hall 10 (by decide)] at hc2
            rw [hall 11 (by decide)] at hc3
            have H23 : Hid (G3 ≠ G2) := fun e => hne (by rw [e2, e3, e])
            have HC2 : Hid (Wm.heap[G2]? = some (.cells #[VG k, VB k, VA k] 75)) := hc2
            have HC3 : Hid (Wm.heap[G3]? = some (.cells #[VG k, VB k, VA k] 75)) := hc3
            have HG2 := Lib.hid hg2
            have HG3 := Lib.hid hg3
            have HBm := Lib.hid hW.bel
            rw [e2, e3]
            clear hall hW hc2 hc3 hg2 hg3 e2 e3 hne
            have hx3 := cell_of_row _ _ 2 _ _ _ HC2.out
            have HBAm : Hid (Below w.heap.size w Wm) := HBA.out.trans (HBm.out.mono HBA.out.size)
            have hal := (HFA.out k hkl).alen
            have hok : SpOk (l.getD k default).added := fun t _ => by have := (HFA.out k hkl).add t; omega
            have HNA := Lib.hid (narrow48_own (l.getD k default).added x k (by omega) hok HX.out (by omega) (VA k) (.slice ax x.length cx) Wm ((HAT.out.2.2.below HBAm.out).mono HBAm.out.size) ((HVX.out.below HBAm.out).mono HBAm.out.size))
            clear hok
            go_wp2_with fail
            refine HNA.out.mono ?_
            rintro e Wn ⟨u, rfl, hu, hb⟩
            have HU := Lib.hid hu
            have HBn := Lib.hid hb
            have HC2 := Lib.hid (block_keep HC2.out hb)
            have HC3 := Lib.hid (block_keep HC3.out hb)
            have HU1 : Hid (u.oneCell' = true) := by obtain ⟨ua, uc, rfl⟩ := ownsRow_slice hu; rfl
            clear hu hb hx3 HNA
            go_wp2_with (first | (refine wpList_cell_but rfl 54 _ _ rfl G2 2 _ 75 HC2.out rfl _ rfl (by simp) HU1.out info54m ?_; intro Wp hcp hbp; have HC3p := Lib.hid ((hbp.block G3 (block_lt HC3.out) H23.out).trans HC3.out); have HC2p : Hid (Wp.heap[G2]? = some (.cells #[VG k, VB k, u] 75)) := hcp; have HBp := Lib.hid hbp; clear hcp hbp) | (refine wpList_cell_but rfl 54 _ _ rfl G3 2 _ 75 HC3p.out rfl _ rfl (by simp) rfl info54m ?_; intro Wq hcq hbq))
            have HC3q : Hid (Wq.heap[G3]? = some (.cells #[VG k, VB k, .slice none 0 0] 75)) := hcq
            have HC2q : Hid (Wq.heap[G2]? = some (.cells #[VG k, VB k, u] 75)) := (hbq.block G2 (block_lt HC2p.out) (fun e => H23.out e.symm)).trans HC2p.out
            have HBq : Hid (Below Wk.heap.size Wk Wq) := ((HBm.out.trans (HBn.out.mono HBm.out.size)).trans (HBp.out.below HG2.out (Nat.le_trans HBm.out.size HBn.out.size))).trans (hbq.below HG3.out (Nat.le_trans (Nat.le_trans HBm.out.size HBn.out.size) HBp.out.size))
            have HUq : Hid (OwnSpans Wk.heap.size Wq u (narrowV (l.getD k default).added x k)) := ((HU.out.k51 (K51.but HBp.out HC2.out (by decide))).k51 (K51.but hbq HC3p.out (by decide))).le HBm.out.size
            clear hcq hbq HC2 HC3 HC2p HC3p HBp HBn HU HBm HBAm
            obtain ⟨Bq, hBq⟩ : ∃ B, Wq.heap.size = B := ⟨_, rfl⟩
            have HBQ := Lib.hid hBq
            have hG3q : G3 < Bq := by rw [← hBq]; exact block_lt HC3q.out
            have hG2q : G2 < Bq := by rw [← hBq]; exact block_lt HC2q.out
            have hkq : Wk.heap.size ≤ Bq := by rw [← hBq]; exact HBq.out.size
            clear hBq
            have HAL := Lib.hid hal
            clear hal
            go_loopw [14] (fun iv wr => ∃ (t : Nat) (Q : Value), iv = .int .i64 t ∧ t ≤ s.things.length ∧ But G3 Wq wr ∧ wr.heap[G3]? = some (.cells #[VG k, VB k, Q] 75) ∧ wr.ownsRow Bq 51 2 Q t (spCells ((List.range t).map fun i => lessAt ((l.getD k default).added.getD i (0, 0)) x (k + i)))) (fun iv _ => s.things.length - (intOf iv).toNat)
            case atStart => exact ⟨0, _, rfl, by omega, But.refl _ _, HC3q.out, World.ownsRow_nil _ _ 51 2⟩
            case round =>
              obtain ⟨t, Q, rfl, ht, hbut, hcq, hrow⟩ := hrel
              have HBU := Lib.hid hbut
              have HCQ := Lib.hid hcq
              have HRQ := Lib.hid hrow
              have hlq : Bq ≤ wr.heap.size := by rw [← HBQ.out]; exact hbut.size
              have HBr : Hid (Below Wk.heap.size Wk wr) := HBq.out.trans (hbut.below HG3.out HBq.out.size)
              have HBw : Hid (Below w.heap.size w wr) := HBA.out.trans (HBr.out.mono HBA.out.size)
              clear hbut hcq hrow
              obtain ⟨b', o', bA, oA, cA, he, -, -, hd3, -, -⟩ := added_at HL.out hkl HAL.out (t := 0) (by omega)
              cases he
              have HD3 := Lib.hid hd3
              have hs3 := (HBw.out.cell (p := ⟨b, o + k * 3 + 2, none⟩) HBB.out).trans hd3
              clear hd3
              by_cases htl : t < s.things.length
              · as_aux_lemma =>
                  have hti : (t : Int) < (s.things.length : Int) := by omega
                  obtain ⟨b', o', bA', oA', cA', he, -, hbA, hd3', ha1, ha2⟩ := added_at HL.out hkl HAL.out htl
                  cases he
                  have e0 := hd3'.symm.trans HD3.out
                  obtain ⟨rfl, rfl, rfl⟩ : bA' = bA ∧ oA' = oA ∧ cA' = cA := by simpa [and_assoc] using e0
                  have ha1 := (HBw.out.cell (p := ⟨bA', oA' + t * 2, none⟩) hbA).trans ha1
                  have ha2 := (HBw.out.cell (p := ⟨bA', oA' + t * 2 + 1, none⟩) hbA).trans ha2
                  have hpp := (HFA.out k hkl).add t
                  have HSN : Hid ((spCells ((List.range t).map fun i => lessAt ((l.getD k default).added.getD i (0, 0)) x (k + i))) ++ [.int .i64 (min ((l.getD k default).added.getD t (0, 0)).1 (amongV (0, ((l.getD k default).added.getD t (0, 0)).2) (turnV x (k + t)))), .int .i64 (amongV (0, ((l.getD k default).added.getD t (0, 0)).2) (turnV x (k + t)))] = spCells ((List.range (t + 1)).map fun i => lessAt ((l.getD k default).added.getD i (0, 0)) x (k + i))) := by
                    unfold Hid
                    rw [List.range_succ, List.map_append]
                    exact (spCells_snoc _ (lessAt ((l.getD k default).added.getD t (0, 0)) x (k + t))).symm
                  obtain ⟨XT, hXT⟩ : ∃ xs', spCells ((List.range (t + 1)).map fun i => lessAt ((l.getD k default).added.getD i (0, 0)) x (k + i)) = xs' := ⟨_, rfl⟩
                  rw [hXT] at HSN
                  have HXT := Lib.hid hXT
                  clear hXT
                  generalize (l.getD k default).added.getD t (0, 0) = pq at *
                  obtain ⟨p1, p2⟩ := pq
                  simp only at ha1 ha2 hpp HSN
                  obtain ⟨KT, hKT⟩ : ∃ n, k + t = n := ⟨_, rfl⟩
                  have HKT : Hid (((k : Int) + (t : Int)) = (KT : Int)) := by unfold Hid; omega
                  rw [hKT] at HSN
                  have hkt6 : KT ≤ 100 := by omega
                  clear hKT hd3' e0 hbA
                  have HTU := Lib.hid (fun w h => turn40 x HX.out KT (by omega) (.slice ax x.length cx) w h)
                  have htb := turnV_bound HX.out KT
                  have HAM := Lib.hid (fun w => among49 (0, p2) (turnV x KT) w ⟨by simp only; omega, by simp only; omega, by simp only; omega⟩ htb.1)
                  generalize amongV (0, p2) (turnV x KT) = Am at *
                  generalize turnV x KT = T at *
                  simp only at HAM
                  go_wp2_with fail
                  clear hs3 ha1 ha2
                  obtain ⟨G5, hG5⟩ : ∃ g, wr.heap.size = g := ⟨_, rfl⟩
                  obtain ⟨Wa, hWa⟩ : ∃ W, wr.alloc (.cells #[.int .i64 p1, .int .i64 p2] 51) = W := ⟨_, rfl⟩
                  have HC5 : Hid (Wa.heap[G5]? = some (.cells #[.int .i64 p1, .int .i64 p2] 51)) := by rw [← hWa, ← hG5]; exact heap_alloc_new _ _
                  have HBa : Hid (Below wr.heap.size wr Wa) := by rw [← hWa]; exact ba_allocB wr _
                  rw [hWa, hG5]
                  clear hWa hG5
                  have HBwa := Lib.hid (HBw.out.trans (HBa.out.mono HBw.out.size))
                  refine wp_region_inv0 (by kernel_rfl) (by kernel_rfl) (fun D w' => Below Wa.heap.size Wa w') (Below.refl _ _).drew ?_
                  apply obl_det
                  case hrun =>
                    intro D y wz hW hD R hR
                    have HRR := Lib.hid hR
                    clear hR
                    have HW := Lib.hid hW
                    clear hW hD
                    go_wp2_with fail
                    exact HRR.out _ HW.out
                  case hnp => rfl
                  case hv => first | exact ⟨_, fun _ => rfl⟩ | exact ⟨undef, fun _ => rfl⟩
                  apply obl_det
                  case hrun =>
                    intro D y wz hW hD R hR
                    have HRR := Lib.hid hR
                    clear hR
                    have HW := Lib.hid hW
                    have h1 := cell_of_row _ _ 1 _ _ _ (block_keep HC5.out HW.out)
                    clear hW hD
                    go_wp2_with fail
                    exact HRR.out _ HW.out
                  case hnp => rfl
                  case hv => first | exact ⟨_, fun _ => rfl⟩ | exact ⟨undef, fun _ => rfl⟩
                  apply obl_det
                  case hrun =>
                    intro D y wz hW hD R hR
                    have HRR := Lib.hid hR
                    clear hR
                    have HW := Lib.hid hW
                    clear hW hD
                    go_wp2_with fail
                    exact HRR.out _ HW.out
                  case hnp => rfl
                  case hv => first | exact ⟨_, fun _ => rfl⟩ | exact ⟨undef, fun _ => rfl⟩
                  apply obl_det
                  case hrun =>
                    intro D y wz hW hD R hR
                    have HRR := Lib.hid hR
                    clear hR
                    have HW := Lib.hid hW
                    clear hW hD
                    go_wp2_with fail
                    exact HRR.out _ HW.out
                  case hnp => rfl
                  case hv => first | exact ⟨_, fun _ => rfl⟩ | exact ⟨undef, fun _ => rfl⟩
                  apply obl_det
                  case hrun =>
                    intro D y wz hW hD R hR
                    have HRR := Lib.hid hR
                    clear hR
                    have HW := Lib.hid hW
                    clear hW hD
                    go_wp2_with fail
                    exact HRR.out _ HW.out
                  case hnp => rfl
                  case hv => first | exact ⟨_, fun _ => rfl⟩ | exact ⟨undef, fun _ => rfl⟩
                  apply obl_det
                  case hrun =>
                    intro D y wz hW hD R hR
                    have HRR := Lib.hid hR
                    clear hR
                    have HW := Lib.hid hW
                    clear hW hD
                    go_wp2_with fail
                    exact HRR.out _ HW.out
                  case hnp => rfl
                  case hv => first | exact ⟨_, fun _ => rfl⟩ | exact ⟨undef, fun _ => rfl⟩
                  apply obl_det
                  case hrun =>
                    intro D y wz hW hD R hR
                    have HRR := Lib.hid hR
                    clear hR
                    have HW := Lib.hid hW
                    clear hW hD
                    go_wp2_with fail
                    rw [HKT.out]
                    exact HRR.out _ HW.out
                  case hnp => rfl
                  case hv => first | exact ⟨_, fun _ => rfl⟩ | exact ⟨undef, fun _ => rfl⟩
                  apply obl_det
                  case hrun =>
                    intro D y wz hW hD R hR
                    have HRR := Lib.hid hR
                    clear hR
                    have HW := Lib.hid hW
                    have HZ := Lib.hid (HBwa.out.trans (HW.out.mono HBwa.out.size))
                    clear hW hD
                    go_wp2_with fail
                    refine (HTU.out _ ((HVX.out.below HZ.out).mono HZ.out.size)).mono ?_
                    rintro e w' ⟨rfl, rfl⟩
                    go_wp2_with fail
                    exact HRR.out _ HW.out
                  case hnp => rfl
                  case hv => first | exact ⟨_, fun _ => rfl⟩ | exact ⟨undef, fun _ => rfl⟩
                  apply obl_det
                  case hrun =>
                    intro D y wz hW hD R hR
                    have HRR := Lib.hid hR
                    clear hR
                    have HW := Lib.hid hW
                    clear hW hD
                    go_wp2_with fail
                    refine (HAM.out _).mono ?_
                    rintro e w' ⟨rfl, hb⟩
                    have HW2 := Lib.hid (HW.out.trans (hb.mono HW.out.size))
                    clear hb
                    go_wp2_with fail
                    exact HRR.out _ HW2.out
                  case hnp => rfl
                  case hv => first | exact ⟨_, fun _ => rfl⟩ | exact ⟨undef, fun _ => rfl⟩
                  apply obl_det
                  case hrun =>
                    intro D y wz hW hD R hR
                    have HRR := Lib.hid hR
                    clear hR
                    have HW := Lib.hid hW
                    clear hW hD
                    go_wp2_with fail
                    exact HRR.out _ HW.out
                  case hnp => rfl
                  case hv => first | exact ⟨_, fun _ => rfl⟩ | exact ⟨undef, fun _ => rfl⟩
                  apply obl_nil
                  intro D y W8 hall hW
                  have HB8 : Hid (Below wr.heap.size wr W8) := HBa.out.trans (hW.mono HBa.out.size)
                  have h50 := cell_of_row _ _ 0 _ _ _ (block_keep HC5.out hW)
                  have h32 := cell_of_row _ _ 2 _ _ _ (block_keep HCQ.out HB8.out)
                  have HR8 := Lib.hid (ownsRow.below HRQ.out HB8.out)
                  have HC8 := Lib.hid (block_keep HCQ.out HB8.out)
                  have hl8 : Bq ≤ W8.heap.size := Nat.le_trans hlq HB8.out.size
                  clear hall hW HRQ HCQ HTU HAM HC5 HBa HBwa
                  obtain ⟨i0, hi0, hz0, hz1, hz2⟩ := info51'
                  have HI0 := Lib.hid hi0
                  have HZ0 := Lib.hid hz0
                  have HZ1 := Lib.hid hz1
                  have HZ2 := Lib.hid hz2
                  clear hi0 hz0 hz1 hz2
                  obtain ⟨mn, hmn⟩ : ∃ m, min p1 Am = m := ⟨_, rfl⟩
                  have HT1 := Lib.hid (HR8.out.alloc (.cells #[.int .i64 (min p1 Am), .int .i64 Am] 51))
                  have HNW := Lib.hid (heap_alloc_new W8 (.cells #[.int .i64 (min p1 Am), .int .i64 Am] 51))
                  have HC9 := Lib.hid (block_keep HC8.out (ba_allocB W8 (.cells #[.int .i64 (min p1 Am), .int .i64 Am] 51)))
                  have HL9 : Hid (Bq ≤ (W8.alloc (.cells #[.int .i64 (min p1 Am), .int .i64 Am] 51)).heap.size) := Nat.le_trans hl8 (ba_allocB W8 _).size
                  have HB9 : Hid (Below Bq wr (W8.alloc (.cells #[.int .i64 (min p1 Am), .int .i64 Am] 51))) := ((HB8.out.mono hlq).trans ((ba_allocB W8 _).mono hl8))
                  obtain ⟨Q1, Q2, rfl⟩ := ownsRow_slice HR8.out
                  clear hmn
                  go_wp2_with (first | (refine wpList_cell_but rfl 54 _ _ rfl G3 2 _ 75 HC12.out rfl _ rfl (by simp) rfl info54m ?_; intro w13 hc13 hb13) | (at_builtin; refine wpList_append_own _ rfl _ _ 54 rfl Bq 51 i0 (.agg #[.int .i64 0, .int .i64 0]) 2 16 Try.underlying54 HI0.out HZ0.out HZ1.out HZ2.out rfl (by decide) _ _ _ rfl HT1.out ⟨W8.heap.size, 0, none⟩ 1 1 [.int .i64 (min p1 Am), .int .i64 Am] rfl rfl (cell_news _ _ _ _ HNW.out) (two_ints _ _) (by unfold maxLen; omega) (by omega) HL9.out ?_; intro v' w12 hown12 hgrow12 _; obtain ⟨y1, y2, rfl⟩ := ownsRow_slice hown12; have HG12 := Lib.hid (grown_below HT1.out hgrow12 (Nat.le_refl _) HL9.out); have HC12 := Lib.hid ((HG12.out.block G3 hG3q).trans HC9.out); have HO12 := Lib.hid hown12; clear hown12 hgrow12))
                  have HBU2 : Hid (But G3 Wq w13) := (but_grow HBU.out ((HB9.out.trans HG12.out).mono (by rw [HBQ.out]; exact Nat.le_refl _))).trans hb13
                  have hro := ownsRow.but HO12.out hb13 HC12.out (by decide)
                  rw [HSN.out, ← HXT.out] at hro
                  refine ⟨⟨t + 1, _, by push_cast; rfl, by omega, HBU2.out, hc13, hro⟩, ?_⟩
                  simp [intOf]; omega
              · obtain rfl : t = s.things.length := by omega
                go_wp2_with fail
                clear hs3
                have HQQ : Hid (OwnSpans B3 wr Q (lessV (l.getD k default).added x k)) := OwnSpans.le (base := Bq) (by unfold OwnSpans lessV; rw [List.length_map, List.length_range, HAL.out]; exact HRQ.out) (Nat.le_trans HLK2.out hkq)
                have HUU : Hid (OwnSpans B3 wr u (narrowV (l.getD k default).added x k)) := (HUq.out.k51 (K51.but HBU.out HC3q.out (by decide))).le HLK2.out
                have HC2r : Hid (wr.heap[G2]? = some (.cells #[VG k, VB k, u] 75)) := (HBU.out.block G2 (block_lt HC2q.out) (fun e => H23.out e.symm)).trans HC2q.out
                have HQ1 : Hid (Q.oneCell' = true) := by obtain ⟨q1, q2, rfl⟩ := ownsRow_slice HRQ.out; rfl
                have HFV : Hid ((VG k).oneCell' = true ∧ (VB k).oneCell' = true) := by have h := HFL.out; simp at h; exact ⟨h.1, h.2.1⟩
                have HST : Hid (∀ y132 y133 y136 y137, RgW B3 W3 wr G2 G3 tv lv k xs ys VG VB (fun k => narrowV (l.getD k default).added x k) (fun k => lessV (l.getD k default).added x k) u Q false false false false false false y132 y133 y136 y137 tv lv wr) := fun _ _ _ _ =>
                  ⟨HBK.out.trans (HBr.out.mono HLK2.out), Nat.le_trans HLK2.out HBr.out.size, Nat.le_refl _,
                    ⟨fun g e => by have := (World.ownsRow.lt HT.out.row g e).2; have := HBr.out.size; have := HG2.out; have := HG3.out; omega, fun g e => by have := (World.ownsRow.lt HLL.out.row g e).2; have := HBr.out.size; have := HG2.out; have := HG3.out; omega, block_lt HC2r.out, block_lt HCQ.out⟩,
                    K51.refl _, HC2r.out, HCQ.out, fun _ => HT.out.below HBr.out, fun _ => HLL.out.below HBr.out, HNE.out, fun h => (by cases h), fun h => (by cases h), fun h => (by cases h), fun h => (by cases h), fun _ => rfl, fun h => (by cases h), fun _ => rfl, fun h => (by cases h)⟩
                clear HC2q HC3q HUq HRQ HCQ HBU HT HLL HNE HC2r
                refine wp_region_inv1 (by kernel_rfl) (by kernel_rfl) [132, 133, 136, 137, 9, 10] (fun D y w' => RgW B3 W3 wr G2 G3 tv lv k xs ys VG VB (fun k => narrowV (l.getD k default).added x k) (fun k => lessV (l.getD k default).added x k) u Q (D 2) (D 3) (D 6) (D 7) (D 8) (D 9) (y 132) (y 133) (y 136) (y 137) (y 9) (y 10) w') ((HST.out _ _ _ _).next (Below.refl _ _).drew) ?G1 ?hG1 ?_
                case hG1 =>
                  intro y
                  simp only [fill, List.foldl, Act.put, List.setIfInBounds_toArray, List.set]
                  exact rfl
                apply obl_det
                case hrun =>
                  intro D y wz hW hD R hR
                  have HRR := Lib.hid hR
                  clear hR
                  have h15 : D 8 = false := hD.post _ 8 rfl (by kernel_rfl)
                  refine wpList_mv rfl _ rfl (tv) (hW.o8 h15) ?_
                  clear h15
                  have HW := Lib.hid hW
                  clear hW hD
                  skip
                  exact HRR.out _ HW.out
                case hnp => rfl
                case hv => first | exact ⟨_, fun _ => rfl⟩ | exact ⟨undef, fun _ => rfl⟩
                apply obl_det
                case hrun =>
                  intro D y wz hW hD R hR
                  have HRR := Lib.hid hR
                  clear hR
                  have HW := Lib.hid hW
                  clear hW hD
                  refine wpList_load_want rfl 75 _ rfl _ rfl _ _ _ _ HW.out.b2 Try.underlying75 rfl info75 ?_
                  go_simp
                  exact HRR.out _ HW.out
                case hnp => rfl
                case hv => first | exact ⟨_, fun _ => rfl⟩ | exact ⟨undef, fun _ => rfl⟩
                apply obl_priv 132
                case hd => rfl
                case hp => rfl
                case hrun =>
                  intro D y wz hW hD R hR
                  have HRR := Lib.hid hR
                  clear hR
                  have HN := Lib.hid hW.put2
                  clear hW hD
                  go_wp2_with fail
                  refine HRR.out _ _ ?_
                  show RgW B3 W3 wr G2 G3 tv lv k xs ys VG VB (fun k => narrowV (l.getD k default).added x k) (fun k => lessV (l.getD k default).added x k) u Q true (D 3) (D 6) (D 7) (D 8) (D 9) _ (y 133) (y 136) (y 137) (y 9) (y 10) _
                  exact HN.out
                apply obl_priv 133
                case hd => rfl
                case hp => rfl
                case hrun =>
                  intro D y wz hW hD R hR
                  have HRR := Lib.hid hR
                  clear hR
                  have h2 : D 2 = true := hD.pre _ 2 rfl (by kernel_rfl)
                  have h3 : D 3 = false := hD.not
                  have h7 : D 7 = false := hD.post _ 7 rfl (by kernel_rfl)
                  have h8 : D 8 = false := hD.post _ 8 rfl (by kernel_rfl)
                  rw [h2, h3, h7, h8] at hW
                  have HR2 := Lib.hid (hW.t rfl).row
                  obtain ⟨bb, hyb, hgc⟩ := hW.s1 rfl rfl
                  have hBz := hW.hB
                  have HUZ := Lib.hid (HUU.out.k51 hW.k51)
                  have HW := Lib.hid hW
                  have H2 := Lib.hid h2
                  have H7 := Lib.hid h7
                  have H8 := Lib.hid h8
                  clear hW hD h2 h3 h7 h8
                  obtain ⟨i0, hi0, hz0, hz1, hz2⟩ := info75'
                  refine wpList_append_lies _ rfl _ _ 31 rfl B3 75 i0 (.agg #[.slice none 0 0, .slice none 0 0, .slice none 0 0]) 3 72 Try.underlying31 hi0 hz0 hz1 hz2 rfl (by decide) _ k _ rfl HR2.out ⟨bb, 0, none⟩ 1 1 [VG k, VB k, u] hyb rfl (cell_news _ _ _ _ hgc) (by intro q hq; simp only [List.mem_cons, List.not_mem_nil, or_false] at hq; rcases hq with rfl | rfl | rfl; exact HFV.out.1; exact HFV.out.2; exact HU1.out) (by omega) (by unfold maxLen; omega) (by omega) hBz _ rfl ?_
                  intro g cap w12 hown hgrow hgg _
                  have HN := Lib.hid (HW.out.put3 HUZ.out hown hgrow hgg)
                  clear hown hgrow hgg hyb hgc
                  refine HRR.out _ _ ?_
                  show RgW B3 W3 wr G2 G3 tv lv k xs ys VG VB (fun k => narrowV (l.getD k default).added x k) (fun k => lessV (l.getD k default).added x k) u Q (D 2) true (D 6) (D 7) (D 8) (D 9) (y 132) _ (y 136) (y 137) (y 9) (y 10) _
                  rw [H2.out, H7.out, H8.out]
                  exact HN.out
                apply obl_det
                case hrun =>
                  intro D y wz hW hD R hR
                  have HRR := Lib.hid hR
                  clear hR
                  have h15 : D 9 = false := hD.post _ 9 rfl (by kernel_rfl)
                  refine wpList_mv rfl _ rfl (lv) (hW.o9 h15) ?_
                  clear h15
                  have HW := Lib.hid hW
                  clear hW hD
                  skip
                  exact HRR.out _ HW.out
                case hnp => rfl
                case hv => first | exact ⟨_, fun _ => rfl⟩ | exact ⟨undef, fun _ => rfl⟩
                apply obl_det
                case hrun =>
                  intro D y wz hW hD R hR
                  have HRR := Lib.hid hR
                  clear hR
                  have HW := Lib.hid hW
                  clear hW hD
                  refine wpList_load_want rfl 75 _ rfl _ rfl _ _ _ _ HW.out.b3 Try.underlying75 rfl info75 ?_
                  go_simp
                  exact HRR.out _ HW.out
                case hnp => rfl
                case hv => first | exact ⟨_, fun _ => rfl⟩ | exact ⟨undef, fun _ => rfl⟩
                apply obl_priv 136
                case hd => rfl
                case hp => rfl
                case hrun =>
                  intro D y wz hW hD R hR
                  have HRR := Lib.hid hR
                  clear hR
                  have HN := Lib.hid hW.put6
                  clear hW hD
                  go_wp2_with fail
                  refine HRR.out _ _ ?_
                  show RgW B3 W3 wr G2 G3 tv lv k xs ys VG VB (fun k => narrowV (l.getD k default).added x k) (fun k => lessV (l.getD k default).added x k) u Q (D 2) (D 3) true (D 7) (D 8) (D 9) (y 132) (y 133) _ (y 137) (y 9) (y 10) _
                  exact HN.out
                apply obl_priv 137
                case hd => rfl
                case hp => rfl
                case hrun =>
                  intro D y wz hW hD R hR
                  have HRR := Lib.hid hR
                  clear hR
                  have h3 : D 3 = true := hD.pre _ 3 rfl (by kernel_rfl)
                  have h6 : D 6 = true := hD.pre _ 6 rfl (by kernel_rfl)
                  have h7 : D 7 = false := hD.not
                  have h9 : D 9 = false := hD.post _ 9 rfl (by kernel_rfl)
                  rw [h3, h6, h7, h9] at hW
                  have HR2 := Lib.hid (hW.l rfl).row
                  obtain ⟨bb, hyb, -, hgc⟩ := hW.s2 rfl rfl
                  have hBz := hW.hB
                  have HUZ := Lib.hid (HQQ.out.k51 hW.k51)
                  have HW := Lib.hid hW
                  have H3 := Lib.hid h3
                  have H6 := Lib.hid h6
                  have H9 := Lib.hid h9
                  clear hW hD h3 h6 h7 h9
                  obtain ⟨i0, hi0, hz0, hz1, hz2⟩ := info75'
                  refine wpList_append_lies _ rfl _ _ 31 rfl B3 75 i0 (.agg #[.slice none 0 0, .slice none 0 0, .slice none 0 0]) 3 72 Try.underlying31 hi0 hz0 hz1 hz2 rfl (by decide) _ k _ rfl HR2.out ⟨bb, 0, none⟩ 1 1 [VG k, VB k, Q] hyb rfl (cell_news _ _ _ _ hgc) (by intro q hq; simp only [List.mem_cons, List.not_mem_nil, or_false] at hq; rcases hq with rfl | rfl | rfl; exact HFV.out.1; exact HFV.out.2; exact HQ1.out) (by omega) (by unfold maxLen; omega) (by omega) hBz _ rfl ?_
                  intro g cap w12 hown hgrow hgg _
                  have HN := Lib.hid (HW.out.put7 HUZ.out hown hgrow hgg)
                  clear hown hgrow hgg hyb hgc
                  refine HRR.out _ _ ?_
                  show RgW B3 W3 wr G2 G3 tv lv k xs ys VG VB (fun k => narrowV (l.getD k default).added x k) (fun k => lessV (l.getD k default).added x k) u Q (D 2) (D 3) (D 6) true (D 8) (D 9) (y 132) (y 133) (y 136) _ (y 9) (y 10) _
                  rw [H3.out, H6.out, H9.out]
                  exact HN.out
                apply obl_priv 9
                case hd => rfl
                case hp => rfl
                case hrun =>
                  intro D y wz hW hD R hR
                  have HRR := Lib.hid hR
                  clear hR
                  have h3 : D 3 = true := hD.pre _ 3 rfl (by kernel_rfl)
                  rw [h3] at hW
                  have HN := Lib.hid hW.put8
                  have H3 := Lib.hid h3
                  clear hW hD h3
                  refine wpList_as rfl _ rfl (y 133) rfl ?_
                  refine HRR.out (y 133) _ ?_
                  show RgW B3 W3 wr G2 G3 tv lv k xs ys VG VB (fun k => narrowV (l.getD k default).added x k) (fun k => lessV (l.getD k default).added x k) u Q (D 2) (D 3) (D 6) (D 7) true (D 9) (y 132) (y 133) (y 136) (y 137) (y 133) (y 10) _
                  rw [H3.out]
                  exact HN.out
                apply obl_priv 10
                case hd => rfl
                case hp => rfl
                case hrun =>
                  intro D y wz hW hD R hR
                  have HRR := Lib.hid hR
                  clear hR
                  have h7 : D 7 = true := hD.pre _ 7 rfl (by kernel_rfl)
                  rw [h7] at hW
                  have HN := Lib.hid hW.put9
                  have H7 := Lib.hid h7
                  clear hW hD h7
                  refine wpList_as rfl _ rfl (y 137) rfl ?_
                  refine HRR.out (y 137) _ ?_
                  show RgW B3 W3 wr G2 G3 tv lv k xs ys VG VB (fun k => narrowV (l.getD k default).added x k) (fun k => lessV (l.getD k default).added x k) u Q (D 2) (D 3) (D 6) (D 7) (D 8) true (y 132) (y 133) (y 136) (y 137) (y 9) (y 137) _
                  rw [H7.out]
                  exact HN.out
                apply obl_nil
                intro D y W9 hall hW
                have e9 := hW.n8 (hall 8 (by decide))
                have e10 := hW.n9 (hall 9 (by decide))
                obtain ⟨ht1, -⟩ := hW.gT (hall 3 (by decide))
                obtain ⟨hl1, hn1x⟩ := hW.gL (hall 7 (by decide))
                have HT1 := Lib.hid ht1
                have HL1 := Lib.hid hl1
                have HN1 := Lib.hid hn1x
                have HLO := Lib.hid hW.low
                have HBB9 := Lib.hid hW.hB
                rw [e9, e10]
                clear hW hall e9 e10 ht1 hl1 hn1x
                generalize y 133 = y133 at *
                generalize y 137 = y137 at *
                go_wp2_with fail
                refine ⟨⟨k + 1, y133, y137, _, _, rfl, rfl, by push_cast; rfl, by omega, HLO.out, HBB9.out, HT1.out, HL1.out, HN1.out⟩, ?_⟩
                simp [intOf]; omega
        · obtain rfl : k = l.length := by omega
          have HBr : Hid (Below w.heap.size w wr) := CI.out.bel.trans (HBK.out.mono (by rw [← HB3.out]; exact CI.out.bel.size))
          have HBx : Hid (Below W3.heap.size W3 wr) := by unfold Hid; rw [HB3.out]; exact HBK.out
          have CW := Lib.hid (CI.out.call HBx.out)
          have HTB := Lib.hid (HT.out.bats (by omega) (fun i hi => by rw [narrowV_len, (HFA.out i hi).alen]; omega) (thinL l x) (by simp [thinL]) (fun i hi => by
            obtain ⟨-, -, -, hat⟩ := HVV.out i hi
            rw [thin_get l x hi]
            exact ⟨(hat.1.below HBr.out).mono HBr.out.size, (hat.2.1.below HBr.out).mono HBr.out.size, rfl⟩))
          have HLB := Lib.hid (HLL.out.bats (by omega) (fun i hi => by rw [lessV_len, (HFA.out i hi).alen]; omega) (lessL l x) (by simp [lessL]) (fun i hi => by
            obtain ⟨-, -, -, hat⟩ := HVV.out i hi
            rw [less_get l x hi]
            exact ⟨(hat.1.below HBr.out).mono HBr.out.size, (hat.2.1.below HBr.out).mono HBr.out.size, rfl⟩))
          obtain ⟨tv1, tv2, rfl⟩ := ownsRow_slice HT.out.row
          obtain ⟨lv1, lv2, rfl⟩ := ownsRow_slice HLL.out.row
          have HSW := Lib.hid ((HS.out.below HBr.out).mono HBr.out.size)
          have HLW := Lib.hid ((HL.out.below HBr.out).mono HBr.out.size)
          have HFW := Lib.hid (HFS.out.next HBx.out)
          have HTM := Lib.hid (fun k (hk : k < l.length) t => thin_mic HZ0.out x hk t)
          have HLM := Lib.hid (fun k (hk : k < l.length) t => less_mic HZ0.out x hk t)
          have HTP := Lib.hid (fun k (hk : k < l.length) => thin_pull HZ0.out x hk)
          have HKP := Lib.hid (thin_keeps HZ0.out x)
          have HK0 := Lib.hid (keeps_zero HZ0.out)
          have HK1 := Lib.hid (keeps_zero HTK.out)
          have hlt : (thinL l x).length = l.length := by simp [thinL]
          have hll : (lessL l x).length = l.length := by simp [lessL]
          have HPL := Lib.hid (pull_len HZ0.out)
          have HPT : Hid ((pullV (fineS s x) (thinL l x)).length = l.length) := (pull_len HTK.out).trans hlt
          have HA1 := fun w h1 h2 => Lib.hid (content_any s l (.slice ta s.things.length tc) (.slice la s.lots.length lc) (.slice (some ⟨b, o, none⟩) l.length c) w h1 h2)
          have HA2 := fun w h1 h2 => Lib.hid (content_any (fineS s x) (thinL l x) (.slice ta s.things.length tc) (.slice R1 s.lots.length R2) (.slice tv1 l.length tv2) w h1 h2)
          have HA3 := fun w h1 h2 => Lib.hid (content_any s (lessL l x) (.slice ta s.things.length tc) (.slice la s.lots.length lc) (.slice lv1 l.length lv2) w h1 h2)
          have HA4 := fun w h1 h2 => Lib.hid (pull_any s l (.slice ta s.things.length tc) (.slice la s.lots.length lc) (.slice (some ⟨b, o, none⟩) l.length c) w h1 h2)
          have HA5 := fun w h1 h2 => Lib.hid (pull_any (fineS s x) (thinL l x) (.slice ta s.things.length tc) (.slice R1 s.lots.length R2) (.slice tv1 l.length tv2) w h1 h2)
          have HA6 := fun w h1 h2 => Lib.hid (keeps_any s l (.slice ta s.things.length tc) (.slice la s.lots.length lc) (.slice (some ⟨b, o, none⟩) l.length c) w h1 h2)
          have HA7 := fun w h1 h2 => Lib.hid (keeps_any (fineS s x) (thinL l x) (.slice ta s.things.length tc) (.slice R1 s.lots.length R2) (.slice tv1 l.length tv2) w h1 h2)
          unfold RetTable at HA1 HA2 HA3
          unfold RetSpans at HA4 HA5
          unfold Ret3 at HA6 HA7
          simp only [content_good HZ0.out, content_good HTK.out, content_good HLK.out, HZ0.out, HTK.out, HLK.out] at HA1 HA2 HA3 HA4 HA5
          have HR1 : Hid ((rangesV s l).length = l.length) := rangesV_length s l
          have HR2 : Hid ((rangesV (fineS s x) (thinL l x)).length = l.length) := (rangesV_length _ _).trans hlt
          have HR3 : Hid ((rangesV s (lessL l x)).length = l.length) := (rangesV_length _ _).trans hll
          have HL1 : Hid (∀ k, k < l.length → ((rangesV s l).getD k []).length = s.things.length) := fun k hk => row_len s l hk
          have HL2 : Hid (∀ k, k < l.length → ((rangesV (fineS s x) (thinL l x)).getD k []).length = s.things.length) := fun k hk => row_len (fineS s x) (thinL l x) (by rw [hlt]; exact hk)
          have HL3 : Hid (∀ k, k < l.length → ((rangesV s (lessL l x)).getD k []).length = s.things.length) := fun k hk => row_len s (lessL l x) (by rw [hll]; exact hk)
          have HTM : Hid (∀ k, k < l.length → ∀ t, (((rangesV s l).getD k []).getD t (0, 0)).1 ≤ (((rangesV (fineS s x) (thinL l x)).getD k []).getD t (0, 0)).1 ∧ (((rangesV (fineS s x) (thinL l x)).getD k []).getD t (0, 0)).2 ≤ (((rangesV s l).getD k []).getD t (0, 0)).2) := HTM.out
          have HLM : Hid (∀ k, k < l.length → ∀ t, (((rangesV s (lessL l x)).getD k []).getD t (0, 0)).1 ≤ (((rangesV s l).getD k []).getD t (0, 0)).1 ∧ (((rangesV s (lessL l x)).getD k []).getD t (0, 0)).2 ≤ (((rangesV s l).getD k []).getD t (0, 0)).2) := HLM.out
          clear HT HLL HFA HVV HNE HLK2 HB3 HFS HL HS HVX HX HGD HZ0 HTK HLK HBK HBB CI hlt hll HBx HBr
          generalize rangesV s l = U1 at *
          generalize rangesV (fineS s x) (thinL l x) = U2 at *
          generalize rangesV s (lessL l x) = U3 at *
          generalize pullV s l = P1 at *
          generalize pullV (fineS s x) (thinL l x) = P2 at *
          generalize keepsV s l = K at *
          generalize keepsV (fineS s x) (thinL l x) = J at *
          obtain ⟨K1, K2, K3⟩ := K
          obtain ⟨J1, J2, J3⟩ := J
          simp only at HK0 HK1 HKP HA6 HA7
          have HB0 : Hid (Below wr.heap.size wr wr) := Below.refl _ _
          have hs0 := (CW.out.call HB0.out).cell 0 rfl 0
          have hs1 := (CW.out.call HB0.out).cell 0 rfl 1
          have hf0 := (CW.out.call HB0.out).cell 1 rfl 0
          have hf1 := (CW.out.call HB0.out).cell 1 rfl 1
          go_wp2_with fail
          refine (HA1 _ ((HSW.out.below HB0.out).mono HB0.out.size) ((HLW.out.below HB0.out).mono HB0.out.size)).out.mono ?_
          rintro e w1' ⟨tq, rfl, hi, hb⟩
          have T1 := Lib.hid hi
          obtain ⟨a0, c0, rfl, -, -⟩ := sl_shape hi
          rw [HR1.out] at T1 ⊢
          clear hi
          have HB1 := Lib.hid (HB0.out.trans (hb.mono HB0.out.size))
          clear hb HA1 HB0 hs0 hs1 hf0 hf1
          have hs0 := (CW.out.call HB1.out).cell 0 rfl 0
          have hs1 := (CW.out.call HB1.out).cell 0 rfl 1
          have hf0 := (CW.out.call HB1.out).cell 1 rfl 0
          have hf1 := (CW.out.call HB1.out).cell 1 rfl 1
          go_wp2_with fail
          refine (HA2 _ ((HFW.out.below HB1.out).mono HB1.out.size) ((HTB.out.below HB1.out).mono HB1.out.size)).out.mono ?_
          rintro e w2' ⟨tq, rfl, hi, hb⟩
          have T2 := Lib.hid hi
          obtain ⟨a1, c1, rfl, -, -⟩ := sl_shape hi
          rw [HR2.out] at T2 ⊢
          clear hi
          have T1 := Lib.hid (SlIn.next T1.out hb)
          have HB2 := Lib.hid (HB1.out.trans (hb.mono HB1.out.size))
          clear hb HA2 HB1 hs0 hs1 hf0 hf1
          have hs0 := (CW.out.call HB2.out).cell 0 rfl 0
          have hs1 := (CW.out.call HB2.out).cell 0 rfl 1
          have hf0 := (CW.out.call HB2.out).cell 1 rfl 0
          have hf1 := (CW.out.call HB2.out).cell 1 rfl 1
          go_wp2_with fail
          refine (HA3 _ ((HSW.out.below HB2.out).mono HB2.out.size) ((HLB.out.below HB2.out).mono HB2.out.size)).out.mono ?_
          rintro e w3' ⟨tq, rfl, hi, hb⟩
          have T3 := Lib.hid hi
          obtain ⟨a2, c2, rfl, -, -⟩ := sl_shape hi
          rw [HR3.out] at T3 ⊢
          clear hi
          have T1 := Lib.hid (SlIn.next T1.out hb)
          have T2 := Lib.hid (SlIn.next T2.out hb)
          have HB3 := Lib.hid (HB2.out.trans (hb.mono HB2.out.size))
          clear hb HA3 HB2 hs0 hs1 hf0 hf1
          have hs0 := (CW.out.call HB3.out).cell 0 rfl 0
          have hs1 := (CW.out.call HB3.out).cell 0 rfl 1
          have hf0 := (CW.out.call HB3.out).cell 1 rfl 0
          have hf1 := (CW.out.call HB3.out).cell 1 rfl 1
          go_wp2_with fail
          refine (HA4 _ ((HSW.out.below HB3.out).mono HB3.out.size) ((HLW.out.below HB3.out).mono HB3.out.size)).out.mono ?_
          rintro e w4' ⟨tq, rfl, hi, hb⟩
          have T4 := Lib.hid hi
          obtain ⟨a3, c3, rfl, -, -⟩ := sl_shape hi
          rw [HPL.out] at T4 ⊢
          clear hi
          have T1 := Lib.hid (SlIn.next T1.out hb)
          have T2 := Lib.hid (SlIn.next T2.out hb)
          have T3 := Lib.hid (SlIn.next T3.out hb)
          have HB4 := Lib.hid (HB3.out.trans (hb.mono HB3.out.size))
          clear hb HA4 HB3 hs0 hs1 hf0 hf1
          have hs0 := (CW.out.call HB4.out).cell 0 rfl 0
          have hs1 := (CW.out.call HB4.out).cell 0 rfl 1
          have hf0 := (CW.out.call HB4.out).cell 1 rfl 0
          have hf1 := (CW.out.call HB4.out).cell 1 rfl 1
          go_wp2_with fail
          refine (HA5 _ ((HFW.out.below HB4.out).mono HB4.out.size) ((HTB.out.below HB4.out).mono HB4.out.size)).out.mono ?_
          rintro e w5' ⟨tq, rfl, hi, hb⟩
          have T5 := Lib.hid hi
          obtain ⟨a4, c4, rfl, -, -⟩ := sl_shape hi
          rw [HPT.out] at T5 ⊢
          clear hi
          have T1 := Lib.hid (SlIn.next T1.out hb)
          have T2 := Lib.hid (SlIn.next T2.out hb)
          have T3 := Lib.hid (SlIn.next T3.out hb)
          have T4 := Lib.hid (SlIn.next T4.out hb)
          have HB5 := Lib.hid (HB4.out.trans (hb.mono HB4.out.size))
          clear hb HA5 HB4 hs0 hs1 hf0 hf1
          have hs0 := (CW.out.call HB5.out).cell 0 rfl 0
          have hs1 := (CW.out.call HB5.out).cell 0 rfl 1
          have hf0 := (CW.out.call HB5.out).cell 1 rfl 0
          have hf1 := (CW.out.call HB5.out).cell 1 rfl 1
          go_wp2_with fail
          refine (HA6 _ ((HSW.out.below HB5.out).mono HB5.out.size) ((HLW.out.below HB5.out).mono HB5.out.size)).out.mono ?_
          rintro e w6' ⟨rfl, hb⟩
          have T1 := Lib.hid (SlIn.next T1.out hb)
          have T2 := Lib.hid (SlIn.next T2.out hb)
          have T3 := Lib.hid (SlIn.next T3.out hb)
          have T4 := Lib.hid (SlIn.next T4.out hb)
          have T5 := Lib.hid (SlIn.next T5.out hb)
          have HB6 := Lib.hid (HB5.out.trans (hb.mono HB5.out.size))
          clear hb HA6 HB5 hs0 hs1 hf0 hf1
          obtain rfl : K3 = 0 := HK0.out
          have hs0 := (CW.out.call HB6.out).cell 0 rfl 0
          have hs1 := (CW.out.call HB6.out).cell 0 rfl 1
          have hf0 := (CW.out.call HB6.out).cell 1 rfl 0
          have hf1 := (CW.out.call HB6.out).cell 1 rfl 1
          go_wp2_with fail
          refine (HA7 _ ((HFW.out.below HB6.out).mono HB6.out.size) ((HTB.out.below HB6.out).mono HB6.out.size)).out.mono ?_
          rintro e w7' ⟨rfl, hb⟩
          have T1 := Lib.hid (SlIn.next T1.out hb)
          have T2 := Lib.hid (SlIn.next T2.out hb)
          have T3 := Lib.hid (SlIn.next T3.out hb)
          have T4 := Lib.hid (SlIn.next T4.out hb)
          have T5 := Lib.hid (SlIn.next T5.out hb)
          have HB7 := Lib.hid (HB6.out.trans (hb.mono HB6.out.size))
          clear hb HA7 HB6 hs0 hs1 hf0 hf1
          obtain rfl : J3 = 0 := HK1.out
          clear HK0 HK1 HLW HFW HTB HLB
          have CX0 := Lib.hid (CW.out.call HB7.out)
          clear CW HB7
          by_cases h0 : K1 < 0
          case pos =>
            as_aux_lemma =>
              have j1 : decide (K1 < 0) = true := decide_eq_true h0
              have j2 : decide (0 ≤ J1) = false := decide_eq_false (by have := HKP.out h0; omega)
              clear h0 HKP
              have hq : ((l.length : Int) != (l.length : Int)) = false := by simp
              go_wp2_with fail
              clear hq
              clear j1 j2
              go_loopw [33] (fun iv wr => ∃ k : Nat, iv = .int .i64 k ∧ k ≤ l.length ∧ Below w7'.heap.size w7' wr) (fun iv _ => l.length - (intOf iv).toNat)
              case atStart => exact ⟨0, rfl, by omega, Below.refl _ _⟩
              case round =>
                obtain ⟨k, rfl, hk, hb⟩ := hrel
                have HBK := Lib.hid hb
                clear hb
                by_cases hkl : k < l.length
                · as_aux_lemma =>
                    have hki : (k : Int) < (l.length : Int) := by omega
                    go_wp2_with fail
                    go_loopw [34] (fun iv wr => ∃ t : Nat, iv = .int .i64 t ∧ t ≤ s.things.length ∧ Below w7'.heap.size w7' wr) (fun iv _ => s.things.length - (intOf iv).toNat)
                    case atStart => exact ⟨0, rfl, by omega, HBK.out⟩
                    case round =>
                      clear HBK
                      obtain ⟨t, rfl, ht, hb⟩ := hrel
                      have HBR := Lib.hid hb
                      clear hb
                      have hs0 := (CX0.out.call HBR.out).cell 0 rfl 0
                      by_cases htl : t < s.things.length
                      · as_aux_lemma =>
                          have hti : (t : Int) < (s.things.length : Int) := by omega
                          obtain ⟨b1, o1, d1, e1, f1, rfl, hb1, hd1, hx1, hy1, hz1⟩ := table_at T1.out (by rw [HR1.out]; exact hkl) (HL1.out k hkl) htl
                          obtain ⟨b2, o2, d2, e2, f2, rfl, hb2, hd2, hx2, hy2, hz2⟩ := table_at T2.out (by rw [HR2.out]; exact hkl) (HL2.out k hkl) htl
                          obtain ⟨b3, o3, d3, e3, f3, rfl, hb3, hd3, hx3, hy3, hz3⟩ := table_at T3.out (by rw [HR3.out]; exact hkl) (HL3.out k hkl) htl
                          have hm1 := HTM.out k hkl t
                          have hm2 := HLM.out k hkl t
                          generalize (U1.getD k []).getD t (0, 0) = A at *
                          generalize (U2.getD k []).getD t (0, 0) = B' at *
                          generalize (U3.getD k []).getD t (0, 0) = C' at *
                          obtain ⟨A1, A2⟩ := A
                          obtain ⟨B1, B2⟩ := B'
                          obtain ⟨C1, C2⟩ := C'
                          simp only at hm1 hm2 hy1 hz1 hy2 hz2 hy3 hz3
                          have Q1 : Hid (decide (B1 < A1) = false) := decide_eq_false (by omega)
                          have Q2 : Hid (decide (A2 < B2) = false) := decide_eq_false (by omega)
                          have Q3 : Hid (decide (A1 < C1) = false) := decide_eq_false (by omega)
                          have Q4 : Hid (decide (A2 < C2) = false) := decide_eq_false (by omega)
                          have HX1 := Lib.hid hx1
                          have HY1 := Lib.hid hy1
                          have HZ1 := Lib.hid hz1
                          have HU1 := Lib.hid hb1
                          have HV1 := Lib.hid hd1
                          have HX2 := Lib.hid hx2
                          have HY2 := Lib.hid hy2
                          have HZ2 := Lib.hid hz2
                          have HU2 := Lib.hid hb2
                          have HV2 := Lib.hid hd2
                          have HX3 := Lib.hid hx3
                          have HY3 := Lib.hid hy3
                          have HZ3 := Lib.hid hz3
                          have HU3 := Lib.hid hb3
                          have HV3 := Lib.hid hd3
                          clear hm1 hm2 hb1 hb2 hb3 hd1 hd2 hd3 hx1 hx2 hx3 hy1 hy2 hy3 hz1 hz2 hz3
                          go_wp2_with fail
                          clear hs0
                          refine wp_region_inv0 (by kernel_rfl) (by kernel_rfl) (fun D w' => Below wr.heap.size wr w') (Below.refl _ _).drew ?_
                          apply obl_det
                          case hrun =>
                            intro D y wz hW hD R hR
                            have HRR := Lib.hid hR
                            clear hR
                            have HW := Lib.hid hW
                            clear hW hD
                            go_wp2_with fail
                            exact HRR.out _ HW.out
                          case hnp => rfl
                          case hv => first | exact ⟨_, fun _ => rfl⟩ | exact ⟨undef, fun _ => rfl⟩
                          apply obl_det
                          case hrun =>
                            intro D y wz hW hD R hR
                            have HRR := Lib.hid hR
                            clear hR
                            have HW := Lib.hid hW
                            clear hW hD
                            go_wp2_with fail
                            exact HRR.out _ HW.out
                          case hnp => rfl
                          case hv => first | exact ⟨_, fun _ => rfl⟩ | exact ⟨undef, fun _ => rfl⟩
                          apply obl_det
                          case hrun =>
                            intro D y wz hW hD R hR
                            have HRR := Lib.hid hR
                            clear hR
                            have HW := Lib.hid hW
                            clear hW hD
                            go_wp2_with fail
                            exact HRR.out _ HW.out
                          case hnp => rfl
                          case hv => first | exact ⟨_, fun _ => rfl⟩ | exact ⟨undef, fun _ => rfl⟩
                          apply obl_det
                          case hrun =>
                            intro D y wz hW hD R hR
                            have HRR := Lib.hid hR
                            clear hR
                            have HW := Lib.hid hW
                            have HY := Lib.hid (HBR.out.trans (HW.out.mono HBR.out.size))
                            have h1 := (HY.out.cell (p := ⟨b2, o2 + k, none⟩) HU2.out).trans HX2.out
                            clear hW hD
                            go_wp2_with fail
                            exact HRR.out _ HW.out
                          case hnp => rfl
                          case hv => first | exact ⟨_, fun _ => rfl⟩ | exact ⟨undef, fun _ => rfl⟩
                          apply obl_det
                          case hrun =>
                            intro D y wz hW hD R hR
                            have HRR := Lib.hid hR
                            clear hR
                            have HW := Lib.hid hW
                            clear hW hD
                            go_wp2_with fail
                            exact HRR.out _ HW.out
                          case hnp => rfl
                          case hv => first | exact ⟨_, fun _ => rfl⟩ | exact ⟨undef, fun _ => rfl⟩
                          apply obl_det
                          case hrun =>
                            intro D y wz hW hD R hR
                            have HRR := Lib.hid hR
                            clear hR
                            have HW := Lib.hid hW
                            clear hW hD
                            go_wp2_with fail
                            exact HRR.out _ HW.out
                          case hnp => rfl
                          case hv => first | exact ⟨_, fun _ => rfl⟩ | exact ⟨undef, fun _ => rfl⟩
                          apply obl_det
                          case hrun =>
                            intro D y wz hW hD R hR
                            have HRR := Lib.hid hR
                            clear hR
                            have HW := Lib.hid hW
                            clear hW hD
                            go_wp2_with fail
                            exact HRR.out _ HW.out
                          case hnp => rfl
                          case hv => first | exact ⟨_, fun _ => rfl⟩ | exact ⟨undef, fun _ => rfl⟩
                          apply obl_det
                          case hrun =>
                            intro D y wz hW hD R hR
                            have HRR := Lib.hid hR
                            clear hR
                            have HW := Lib.hid hW
                            have HY := Lib.hid (HBR.out.trans (HW.out.mono HBR.out.size))
                            have h1 := (HY.out.cell (p := ⟨d2, e2 + t * 2, none⟩) HV2.out).trans HY2.out
                            clear hW hD
                            go_wp2_with fail
                            exact HRR.out _ HW.out
                          case hnp => rfl
                          case hv => first | exact ⟨_, fun _ => rfl⟩ | exact ⟨undef, fun _ => rfl⟩
                          apply obl_det
                          case hrun =>
                            intro D y wz hW hD R hR
                            have HRR := Lib.hid hR
                            clear hR
                            have HW := Lib.hid hW
                            clear hW hD
                            go_wp2_with fail
                            exact HRR.out _ HW.out
                          case hnp => rfl
                          case hv => first | exact ⟨_, fun _ => rfl⟩ | exact ⟨undef, fun _ => rfl⟩
                          apply obl_det
                          case hrun =>
                            intro D y wz hW hD R hR
                            have HRR := Lib.hid hR
                            clear hR
                            have HW := Lib.hid hW
                            clear hW hD
                            go_wp2_with fail
                            exact HRR.out _ HW.out
                          case hnp => rfl
                          case hv => first | exact ⟨_, fun _ => rfl⟩ | exact ⟨undef, fun _ => rfl⟩
                          apply obl_det
                          case hrun =>
                            intro D y wz hW hD R hR
                            have HRR := Lib.hid hR
                            clear hR
                            have HW := Lib.hid hW
                            clear hW hD
                            go_wp2_with fail
                            exact HRR.out _ HW.out
                          case hnp => rfl
                          case hv => first | exact ⟨_, fun _ => rfl⟩ | exact ⟨undef, fun _ => rfl⟩
                          apply obl_det
                          case hrun =>
                            intro D y wz hW hD R hR
                            have HRR := Lib.hid hR
                            clear hR
                            have HW := Lib.hid hW
                            have HY := Lib.hid (HBR.out.trans (HW.out.mono HBR.out.size))
                            have h1 := (HY.out.cell (p := ⟨b1, o1 + k, none⟩) HU1.out).trans HX1.out
                            clear hW hD
                            go_wp2_with fail
                            exact HRR.out _ HW.out
                          case hnp => rfl
                          case hv => first | exact ⟨_, fun _ => rfl⟩ | exact ⟨undef, fun _ => rfl⟩
                          apply obl_det
                          case hrun =>
                            intro D y wz hW hD R hR
                            have HRR := Lib.hid hR
                            clear hR
                            have HW := Lib.hid hW
                            clear hW hD
                            go_wp2_with fail
                            exact HRR.out _ HW.out
                          case hnp => rfl
                          case hv => first | exact ⟨_, fun _ => rfl⟩ | exact ⟨undef, fun _ => rfl⟩
                          apply obl_det
                          case hrun =>
                            intro D y wz hW hD R hR
                            have HRR := Lib.hid hR
                            clear hR
                            have HW := Lib.hid hW
                            clear hW hD
                            go_wp2_with fail
                            exact HRR.out _ HW.out
                          case hnp => rfl
                          case hv => first | exact ⟨_, fun _ => rfl⟩ | exact ⟨undef, fun _ => rfl⟩
                          apply obl_det
                          case hrun =>
                            intro D y wz hW hD R hR
                            have HRR := Lib.hid hR
                            clear hR
                            have HW := Lib.hid hW
                            clear hW hD
                            go_wp2_with fail
                            exact HRR.out _ HW.out
                          case hnp => rfl
                          case hv => first | exact ⟨_, fun _ => rfl⟩ | exact ⟨undef, fun _ => rfl⟩
                          apply obl_det
                          case hrun =>
                            intro D y wz hW hD R hR
                            have HRR := Lib.hid hR
                            clear hR
                            have HW := Lib.hid hW
                            have HY := Lib.hid (HBR.out.trans (HW.out.mono HBR.out.size))
                            have h1 := (HY.out.cell (p := ⟨d1, e1 + t * 2, none⟩) HV1.out).trans HY1.out
                            clear hW hD
                            go_wp2_with fail
                            exact HRR.out _ HW.out
                          case hnp => rfl
                          case hv => first | exact ⟨_, fun _ => rfl⟩ | exact ⟨undef, fun _ => rfl⟩
                          apply obl_det
                          case hrun =>
                            intro D y wz hW hD R hR
                            have HRR := Lib.hid hR
                            clear hR
                            have HW := Lib.hid hW
                            have h1 := Q1.out
                            clear hW hD
                            go_wp2_with fail
                            exact HRR.out _ HW.out
                          case hnp => rfl
                          case hv => first | exact ⟨_, fun _ => rfl⟩ | exact ⟨undef, fun _ => rfl⟩
                          apply obl_det
                          case hrun =>
                            intro D y wz hW hD R hR
                            have HRR := Lib.hid hR
                            clear hR
                            have HW := Lib.hid hW
                            clear hW hD
                            go_wp2_with fail
                            exact HRR.out _ HW.out
                          case hnp => rfl
                          case hv => first | exact ⟨_, fun _ => rfl⟩ | exact ⟨undef, fun _ => rfl⟩
                          apply obl_det
                          case hrun =>
                            intro D y wz hW hD R hR
                            have HRR := Lib.hid hR
                            clear hR
                            have HW := Lib.hid hW
                            clear hW hD
                            go_wp2_with fail
                            exact HRR.out _ HW.out
                          case hnp => rfl
                          case hv => first | exact ⟨_, fun _ => rfl⟩ | exact ⟨undef, fun _ => rfl⟩
                          apply obl_det
                          case hrun =>
                            intro D y wz hW hD R hR
                            have HRR := Lib.hid hR
                            clear hR
                            have HW := Lib.hid hW
                            clear hW hD
                            go_wp2_with fail
                            exact HRR.out _ HW.out
                          case hnp => rfl
                          case hv => first | exact ⟨_, fun _ => rfl⟩ | exact ⟨undef, fun _ => rfl⟩
                          apply obl_det
                          case hrun =>
                            intro D y wz hW hD R hR
                            have HRR := Lib.hid hR
                            clear hR
                            have HW := Lib.hid hW
                            clear hW hD
                            go_wp2_with fail
                            exact HRR.out _ HW.out
                          case hnp => rfl
                          case hv => first | exact ⟨_, fun _ => rfl⟩ | exact ⟨undef, fun _ => rfl⟩
                          apply obl_det
                          case hrun =>
                            intro D y wz hW hD R hR
                            have HRR := Lib.hid hR
                            clear hR
                            have HW := Lib.hid hW
                            have HY := Lib.hid (HBR.out.trans (HW.out.mono HBR.out.size))
                            have h1 := (HY.out.cell (p := ⟨b2, o2 + k, none⟩) HU2.out).trans HX2.out
                            clear hW hD
                            go_wp2_with fail
                            exact HRR.out _ HW.out
                          case hnp => rfl
                          case hv => first | exact ⟨_, fun _ => rfl⟩ | exact ⟨undef, fun _ => rfl⟩
                          apply obl_det
                          case hrun =>
                            intro D y wz hW hD R hR
                            have HRR := Lib.hid hR
                            clear hR
                            have HW := Lib.hid hW
                            clear hW hD
                            go_wp2_with fail
                            exact HRR.out _ HW.out
                          case hnp => rfl
                          case hv => first | exact ⟨_, fun _ => rfl⟩ | exact ⟨undef, fun _ => rfl⟩
                          apply obl_det
                          case hrun =>
                            intro D y wz hW hD R hR
                            have HRR := Lib.hid hR
                            clear hR
                            have HW := Lib.hid hW
                            clear hW hD
                            go_wp2_with fail
                            exact HRR.out _ HW.out
                          case hnp => rfl
                          case hv => first | exact ⟨_, fun _ => rfl⟩ | exact ⟨undef, fun _ => rfl⟩
                          apply obl_det
                          case hrun =>
                            intro D y wz hW hD R hR
                            have HRR := Lib.hid hR
                            clear hR
                            have HW := Lib.hid hW
                            clear hW hD
                            go_wp2_with fail
                            exact HRR.out _ HW.out
                          case hnp => rfl
                          case hv => first | exact ⟨_, fun _ => rfl⟩ | exact ⟨undef, fun _ => rfl⟩
                          apply obl_det
                          case hrun =>
                            intro D y wz hW hD R hR
                            have HRR := Lib.hid hR
                            clear hR
                            have HW := Lib.hid hW
                            have HY := Lib.hid (HBR.out.trans (HW.out.mono HBR.out.size))
                            have h1 := (HY.out.cell (p := ⟨d2, e2 + t * 2 + 1, none⟩) HV2.out).trans HZ2.out
                            clear hW hD
                            go_wp2_with fail
                            exact HRR.out _ HW.out
                          case hnp => rfl
                          case hv => first | exact ⟨_, fun _ => rfl⟩ | exact ⟨undef, fun _ => rfl⟩
                          apply obl_det
                          case hrun =>
                            intro D y wz hW hD R hR
                            have HRR := Lib.hid hR
                            clear hR
                            have HW := Lib.hid hW
                            clear hW hD
                            go_wp2_with fail
                            exact HRR.out _ HW.out
                          case hnp => rfl
                          case hv => first | exact ⟨_, fun _ => rfl⟩ | exact ⟨undef, fun _ => rfl⟩
                          apply obl_det
                          case hrun =>
                            intro D y wz hW hD R hR
                            have HRR := Lib.hid hR
                            clear hR
                            have HW := Lib.hid hW
                            clear hW hD
                            go_wp2_with fail
                            exact HRR.out _ HW.out
                          case hnp => rfl
                          case hv => first | exact ⟨_, fun _ => rfl⟩ | exact ⟨undef, fun _ => rfl⟩
                          apply obl_det
                          case hrun =>
                            intro D y wz hW hD R hR
                            have HRR := Lib.hid hR
                            clear hR
                            have HW := Lib.hid hW
                            clear hW hD
                            go_wp2_with fail
                            exact HRR.out _ HW.out
                          case hnp => rfl
                          case hv => first | exact ⟨_, fun _ => rfl⟩ | exact ⟨undef, fun _ => rfl⟩
                          apply obl_det
                          case hrun =>
                            intro D y wz hW hD R hR
                            have HRR := Lib.hid hR
                            clear hR
                            have HW := Lib.hid hW
                            have HY := Lib.hid (HBR.out.trans (HW.out.mono HBR.out.size))
                            have h1 := (HY.out.cell (p := ⟨b1, o1 + k, none⟩) HU1.out).trans HX1.out
                            clear hW hD
                            go_wp2_with fail
                            exact HRR.out _ HW.out
                          case hnp => rfl
                          case hv => first | exact ⟨_, fun _ => rfl⟩ | exact ⟨undef, fun _ => rfl⟩
                          apply obl_det
                          case hrun =>
                            intro D y wz hW hD R hR
                            have HRR := Lib.hid hR
                            clear hR
                            have HW := Lib.hid hW
                            clear hW hD
                            go_wp2_with fail
                            exact HRR.out _ HW.out
                          case hnp => rfl
                          case hv => first | exact ⟨_, fun _ => rfl⟩ | exact ⟨undef, fun _ => rfl⟩
                          apply obl_det
                          case hrun =>
                            intro D y wz hW hD R hR
                            have HRR := Lib.hid hR
                            clear hR
                            have HW := Lib.hid hW
                            clear hW hD
                            go_wp2_with fail
                            exact HRR.out _ HW.out
                          case hnp => rfl
                          case hv => first | exact ⟨_, fun _ => rfl⟩ | exact ⟨undef, fun _ => rfl⟩
                          apply obl_det
                          case hrun =>
                            intro D y wz hW hD R hR
                            have HRR := Lib.hid hR
                            clear hR
                            have HW := Lib.hid hW
                            clear hW hD
                            go_wp2_with fail
                            exact HRR.out _ HW.out
                          case hnp => rfl
                          case hv => first | exact ⟨_, fun _ => rfl⟩ | exact ⟨undef, fun _ => rfl⟩
                          apply obl_det
                          case hrun =>
                            intro D y wz hW hD R hR
                            have HRR := Lib.hid hR
                            clear hR
                            have HW := Lib.hid hW
                            have HY := Lib.hid (HBR.out.trans (HW.out.mono HBR.out.size))
                            have h1 := (HY.out.cell (p := ⟨d1, e1 + t * 2 + 1, none⟩) HV1.out).trans HZ1.out
                            clear hW hD
                            go_wp2_with fail
                            exact HRR.out _ HW.out
                          case hnp => rfl
                          case hv => first | exact ⟨_, fun _ => rfl⟩ | exact ⟨undef, fun _ => rfl⟩
                          apply obl_det
                          case hrun =>
                            intro D y wz hW hD R hR
                            have HRR := Lib.hid hR
                            clear hR
                            have HW := Lib.hid hW
                            have h1 := Q2.out
                            clear hW hD
                            go_wp2_with fail
                            exact HRR.out _ HW.out
                          case hnp => rfl
                          case hv => first | exact ⟨_, fun _ => rfl⟩ | exact ⟨undef, fun _ => rfl⟩
                          apply obl_det
                          case hrun =>
                            intro D y wz hW hD R hR
                            have HRR := Lib.hid hR
                            clear hR
                            have HW := Lib.hid hW
                            clear hW hD
                            go_wp2_with fail
                            exact HRR.out _ HW.out
                          case hnp => rfl
                          case hv => first | exact ⟨_, fun _ => rfl⟩ | exact ⟨undef, fun _ => rfl⟩
                          apply obl_det
                          case hrun =>
                            intro D y wz hW hD R hR
                            have HRR := Lib.hid hR
                            clear hR
                            have HW := Lib.hid hW
                            clear hW hD
                            go_wp2_with fail
                            exact HRR.out _ HW.out
                          case hnp => rfl
                          case hv => first | exact ⟨_, fun _ => rfl⟩ | exact ⟨undef, fun _ => rfl⟩
                          apply obl_det
                          case hrun =>
                            intro D y wz hW hD R hR
                            have HRR := Lib.hid hR
                            clear hR
                            have HW := Lib.hid hW
                            clear hW hD
                            go_wp2_with fail
                            exact HRR.out _ HW.out
                          case hnp => rfl
                          case hv => first | exact ⟨_, fun _ => rfl⟩ | exact ⟨undef, fun _ => rfl⟩
                          apply obl_det
                          case hrun =>
                            intro D y wz hW hD R hR
                            have HRR := Lib.hid hR
                            clear hR
                            have HW := Lib.hid hW
                            clear hW hD
                            go_wp2_with fail
                            exact HRR.out _ HW.out
                          case hnp => rfl
                          case hv => first | exact ⟨_, fun _ => rfl⟩ | exact ⟨undef, fun _ => rfl⟩
                          apply obl_det
                          case hrun =>
                            intro D y wz hW hD R hR
                            have HRR := Lib.hid hR
                            clear hR
                            have HW := Lib.hid hW
                            clear hW hD
                            go_wp2_with fail
                            exact HRR.out _ HW.out
                          case hnp => rfl
                          case hv => first | exact ⟨_, fun _ => rfl⟩ | exact ⟨undef, fun _ => rfl⟩
                          apply obl_det
                          case hrun =>
                            intro D y wz hW hD R hR
                            have HRR := Lib.hid hR
                            clear hR
                            have HW := Lib.hid hW
                            have HY := Lib.hid (HBR.out.trans (HW.out.mono HBR.out.size))
                            have h1 := (HY.out.cell (p := ⟨b3, o3 + k, none⟩) HU3.out).trans HX3.out
                            clear hW hD
                            go_wp2_with fail
                            exact HRR.out _ HW.out
                          case hnp => rfl
                          case hv => first | exact ⟨_, fun _ => rfl⟩ | exact ⟨undef, fun _ => rfl⟩
                          apply obl_det
                          case hrun =>
                            intro D y wz hW hD R hR
                            have HRR := Lib.hid hR
                            clear hR
                            have HW := Lib.hid hW
                            clear hW hD
                            go_wp2_with fail
                            exact HRR.out _ HW.out
                          case hnp => rfl
                          case hv => first | exact ⟨_, fun _ => rfl⟩ | exact ⟨undef, fun _ => rfl⟩
                          apply obl_det
                          case hrun =>
                            intro D y wz hW hD R hR
                            have HRR := Lib.hid hR
                            clear hR
                            have HW := Lib.hid hW
                            clear hW hD
                            go_wp2_with fail
                            exact HRR.out _ HW.out
                          case hnp => rfl
                          case hv => first | exact ⟨_, fun _ => rfl⟩ | exact ⟨undef, fun _ => rfl⟩
                          apply obl_det
                          case hrun =>
                            intro D y wz hW hD R hR
                            have HRR := Lib.hid hR
                            clear hR
                            have HW := Lib.hid hW
                            clear hW hD
                            go_wp2_with fail
                            exact HRR.out _ HW.out
                          case hnp => rfl
                          case hv => first | exact ⟨_, fun _ => rfl⟩ | exact ⟨undef, fun _ => rfl⟩
                          apply obl_det
                          case hrun =>
                            intro D y wz hW hD R hR
                            have HRR := Lib.hid hR
                            clear hR
                            have HW := Lib.hid hW
                            have HY := Lib.hid (HBR.out.trans (HW.out.mono HBR.out.size))
                            have h1 := (HY.out.cell (p := ⟨d3, e3 + t * 2, none⟩) HV3.out).trans HY3.out
                            clear hW hD
                            go_wp2_with fail
                            exact HRR.out _ HW.out
                          case hnp => rfl
                          case hv => first | exact ⟨_, fun _ => rfl⟩ | exact ⟨undef, fun _ => rfl⟩
                          apply obl_det
                          case hrun =>
                            intro D y wz hW hD R hR
                            have HRR := Lib.hid hR
                            clear hR
                            have HW := Lib.hid hW
                            clear hW hD
                            go_wp2_with fail
                            exact HRR.out _ HW.out
                          case hnp => rfl
                          case hv => first | exact ⟨_, fun _ => rfl⟩ | exact ⟨undef, fun _ => rfl⟩
                          apply obl_det
                          case hrun =>
                            intro D y wz hW hD R hR
                            have HRR := Lib.hid hR
                            clear hR
                            have HW := Lib.hid hW
                            clear hW hD
                            go_wp2_with fail
                            exact HRR.out _ HW.out
                          case hnp => rfl
                          case hv => first | exact ⟨_, fun _ => rfl⟩ | exact ⟨undef, fun _ => rfl⟩
                          apply obl_det
                          case hrun =>
                            intro D y wz hW hD R hR
                            have HRR := Lib.hid hR
                            clear hR
                            have HW := Lib.hid hW
                            clear hW hD
                            go_wp2_with fail
                            exact HRR.out _ HW.out
                          case hnp => rfl
                          case hv => first | exact ⟨_, fun _ => rfl⟩ | exact ⟨undef, fun _ => rfl⟩
                          apply obl_det
                          case hrun =>
                            intro D y wz hW hD R hR
                            have HRR := Lib.hid hR
                            clear hR
                            have HW := Lib.hid hW
                            have HY := Lib.hid (HBR.out.trans (HW.out.mono HBR.out.size))
                            have h1 := (HY.out.cell (p := ⟨b1, o1 + k, none⟩) HU1.out).trans HX1.out
                            clear hW hD
                            go_wp2_with fail
                            exact HRR.out _ HW.out
                          case hnp => rfl
                          case hv => first | exact ⟨_, fun _ => rfl⟩ | exact ⟨undef, fun _ => rfl⟩
                          apply obl_det
                          case hrun =>
                            intro D y wz hW hD R hR
                            have HRR := Lib.hid hR
                            clear hR
                            have HW := Lib.hid hW
                            clear hW hD
                            go_wp2_with fail
                            exact HRR.out _ HW.out
                          case hnp => rfl
                          case hv => first | exact ⟨_, fun _ => rfl⟩ | exact ⟨undef, fun _ => rfl⟩
                          apply obl_det
                          case hrun =>
                            intro D y wz hW hD R hR
                            have HRR := Lib.hid hR
                            clear hR
                            have HW := Lib.hid hW
                            clear hW hD
                            go_wp2_with fail
                            exact HRR.out _ HW.out
                          case hnp => rfl
                          case hv => first | exact ⟨_, fun _ => rfl⟩ | exact ⟨undef, fun _ => rfl⟩
                          apply obl_det
                          case hrun =>
                            intro D y wz hW hD R hR
                            have HRR := Lib.hid hR
                            clear hR
                            have HW := Lib.hid hW
                            clear hW hD
                            go_wp2_with fail
                            exact HRR.out _ HW.out
                          case hnp => rfl
                          case hv => first | exact ⟨_, fun _ => rfl⟩ | exact ⟨undef, fun _ => rfl⟩
                          apply obl_det
                          case hrun =>
                            intro D y wz hW hD R hR
                            have HRR := Lib.hid hR
                            clear hR
                            have HW := Lib.hid hW
                            have HY := Lib.hid (HBR.out.trans (HW.out.mono HBR.out.size))
                            have h1 := (HY.out.cell (p := ⟨d1, e1 + t * 2, none⟩) HV1.out).trans HY1.out
                            clear hW hD
                            go_wp2_with fail
                            exact HRR.out _ HW.out
                          case hnp => rfl
                          case hv => first | exact ⟨_, fun _ => rfl⟩ | exact ⟨undef, fun _ => rfl⟩
                          apply obl_det
                          case hrun =>
                            intro D y wz hW hD R hR
                            have HRR := Lib.hid hR
                            clear hR
                            have HW := Lib.hid hW
                            have h1 := Q3.out
                            clear hW hD
                            go_wp2_with fail
                            exact HRR.out _ HW.out
                          case hnp => rfl
                          case hv => first | exact ⟨_, fun _ => rfl⟩ | exact ⟨undef, fun _ => rfl⟩
                          apply obl_det
                          case hrun =>
                            intro D y wz hW hD R hR
                            have HRR := Lib.hid hR
                            clear hR
                            have HW := Lib.hid hW
                            clear hW hD
                            go_wp2_with fail
                            exact HRR.out _ HW.out
                          case hnp => rfl
                          case hv => first | exact ⟨_, fun _ => rfl⟩ | exact ⟨undef, fun _ => rfl⟩
                          apply obl_det
                          case hrun =>
                            intro D y wz hW hD R hR
                            have HRR := Lib.hid hR
                            clear hR
                            have HW := Lib.hid hW
                            clear hW hD
                            go_wp2_with fail
                            exact HRR.out _ HW.out
                          case hnp => rfl
                          case hv => first | exact ⟨_, fun _ => rfl⟩ | exact ⟨undef, fun _ => rfl⟩
                          apply obl_det
                          case hrun =>
                            intro D y wz hW hD R hR
                            have HRR := Lib.hid hR
                            clear hR
                            have HW := Lib.hid hW
                            clear hW hD
                            go_wp2_with fail
                            exact HRR.out _ HW.out
                          case hnp => rfl
                          case hv => first | exact ⟨_, fun _ => rfl⟩ | exact ⟨undef, fun _ => rfl⟩
                          apply obl_det
                          case hrun =>
                            intro D y wz hW hD R hR
                            have HRR := Lib.hid hR
                            clear hR
                            have HW := Lib.hid hW
                            clear hW hD
                            go_wp2_with fail
                            exact HRR.out _ HW.out
                          case hnp => rfl
                          case hv => first | exact ⟨_, fun _ => rfl⟩ | exact ⟨undef, fun _ => rfl⟩
                          apply obl_det
                          case hrun =>
                            intro D y wz hW hD R hR
                            have HRR := Lib.hid hR
                            clear hR
                            have HW := Lib.hid hW
                            clear hW hD
                            go_wp2_with fail
                            exact HRR.out _ HW.out
                          case hnp => rfl
                          case hv => first | exact ⟨_, fun _ => rfl⟩ | exact ⟨undef, fun _ => rfl⟩
                          apply obl_det
                          case hrun =>
                            intro D y wz hW hD R hR
                            have HRR := Lib.hid hR
                            clear hR
                            have HW := Lib.hid hW
                            have HY := Lib.hid (HBR.out.trans (HW.out.mono HBR.out.size))
                            have h1 := (HY.out.cell (p := ⟨b3, o3 + k, none⟩) HU3.out).trans HX3.out
                            clear hW hD
                            go_wp2_with fail
                            exact HRR.out _ HW.out
                          case hnp => rfl
                          case hv => first | exact ⟨_, fun _ => rfl⟩ | exact ⟨undef, fun _ => rfl⟩
                          apply obl_det
                          case hrun =>
                            intro D y wz hW hD R hR
                            have HRR := Lib.hid hR
                            clear hR
                            have HW := Lib.hid hW
                            clear hW hD
                            go_wp2_with fail
                            exact HRR.out _ HW.out
                          case hnp => rfl
                          case hv => first | exact ⟨_, fun _ => rfl⟩ | exact ⟨undef, fun _ => rfl⟩
                          apply obl_det
                          case hrun =>
                            intro D y wz hW hD R hR
                            have HRR := Lib.hid hR
                            clear hR
                            have HW := Lib.hid hW
                            clear hW hD
                            go_wp2_with fail
                            exact HRR.out _ HW.out
                          case hnp => rfl
                          case hv => first | exact ⟨_, fun _ => rfl⟩ | exact ⟨undef, fun _ => rfl⟩
                          apply obl_det
                          case hrun =>
                            intro D y wz hW hD R hR
                            have HRR := Lib.hid hR
                            clear hR
                            have HW := Lib.hid hW
                            clear hW hD
                            go_wp2_with fail
                            exact HRR.out _ HW.out
                          case hnp => rfl
                          case hv => first | exact ⟨_, fun _ => rfl⟩ | exact ⟨undef, fun _ => rfl⟩
                          apply obl_det
                          case hrun =>
                            intro D y wz hW hD R hR
                            have HRR := Lib.hid hR
                            clear hR
                            have HW := Lib.hid hW
                            have HY := Lib.hid (HBR.out.trans (HW.out.mono HBR.out.size))
                            have h1 := (HY.out.cell (p := ⟨d3, e3 + t * 2 + 1, none⟩) HV3.out).trans HZ3.out
                            clear hW hD
                            go_wp2_with fail
                            exact HRR.out _ HW.out
                          case hnp => rfl
                          case hv => first | exact ⟨_, fun _ => rfl⟩ | exact ⟨undef, fun _ => rfl⟩
                          apply obl_det
                          case hrun =>
                            intro D y wz hW hD R hR
                            have HRR := Lib.hid hR
                            clear hR
                            have HW := Lib.hid hW
                            clear hW hD
                            go_wp2_with fail
                            exact HRR.out _ HW.out
                          case hnp => rfl
                          case hv => first | exact ⟨_, fun _ => rfl⟩ | exact ⟨undef, fun _ => rfl⟩
                          apply obl_det
                          case hrun =>
                            intro D y wz hW hD R hR
                            have HRR := Lib.hid hR
                            clear hR
                            have HW := Lib.hid hW
                            clear hW hD
                            go_wp2_with fail
                            exact HRR.out _ HW.out
                          case hnp => rfl
                          case hv => first | exact ⟨_, fun _ => rfl⟩ | exact ⟨undef, fun _ => rfl⟩
                          apply obl_det
                          case hrun =>
                            intro D y wz hW hD R hR
                            have HRR := Lib.hid hR
                            clear hR
                            have HW := Lib.hid hW
                            clear hW hD
                            go_wp2_with fail
                            exact HRR.out _ HW.out
                          case hnp => rfl
                          case hv => first | exact ⟨_, fun _ => rfl⟩ | exact ⟨undef, fun _ => rfl⟩
                          apply obl_det
                          case hrun =>
                            intro D y wz hW hD R hR
                            have HRR := Lib.hid hR
                            clear hR
                            have HW := Lib.hid hW
                            have HY := Lib.hid (HBR.out.trans (HW.out.mono HBR.out.size))
                            have h1 := (HY.out.cell (p := ⟨b1, o1 + k, none⟩) HU1.out).trans HX1.out
                            clear hW hD
                            go_wp2_with fail
                            exact HRR.out _ HW.out
                          case hnp => rfl
                          case hv => first | exact ⟨_, fun _ => rfl⟩ | exact ⟨undef, fun _ => rfl⟩
                          apply obl_det
                          case hrun =>
                            intro D y wz hW hD R hR
                            have HRR := Lib.hid hR
                            clear hR
                            have HW := Lib.hid hW
                            clear hW hD
                            go_wp2_with fail
                            exact HRR.out _ HW.out
                          case hnp => rfl
                          case hv => first | exact ⟨_, fun _ => rfl⟩ | exact ⟨undef, fun _ => rfl⟩
                          apply obl_det
                          case hrun =>
                            intro D y wz hW hD R hR
                            have HRR := Lib.hid hR
                            clear hR
                            have HW := Lib.hid hW
                            clear hW hD
                            go_wp2_with fail
                            exact HRR.out _ HW.out
                          case hnp => rfl
                          case hv => first | exact ⟨_, fun _ => rfl⟩ | exact ⟨undef, fun _ => rfl⟩
                          apply obl_det
                          case hrun =>
                            intro D y wz hW hD R hR
                            have HRR := Lib.hid hR
                            clear hR
                            have HW := Lib.hid hW
                            clear hW hD
                            go_wp2_with fail
                            exact HRR.out _ HW.out
                          case hnp => rfl
                          case hv => first | exact ⟨_, fun _ => rfl⟩ | exact ⟨undef, fun _ => rfl⟩
                          apply obl_det
                          case hrun =>
                            intro D y wz hW hD R hR
                            have HRR := Lib.hid hR
                            clear hR
                            have HW := Lib.hid hW
                            have HY := Lib.hid (HBR.out.trans (HW.out.mono HBR.out.size))
                            have h1 := (HY.out.cell (p := ⟨d1, e1 + t * 2 + 1, none⟩) HV1.out).trans HZ1.out
                            clear hW hD
                            go_wp2_with fail
                            exact HRR.out _ HW.out
                          case hnp => rfl
                          case hv => first | exact ⟨_, fun _ => rfl⟩ | exact ⟨undef, fun _ => rfl⟩
                          apply obl_det
                          case hrun =>
                            intro D y wz hW hD R hR
                            have HRR := Lib.hid hR
                            clear hR
                            have HW := Lib.hid hW
                            have h1 := Q4.out
                            clear hW hD
                            go_wp2_with fail
                            exact HRR.out _ HW.out
                          case hnp => rfl
                          case hv => first | exact ⟨_, fun _ => rfl⟩ | exact ⟨undef, fun _ => rfl⟩
                          apply obl_det
                          case hrun =>
                            intro D y wz hW hD R hR
                            have HRR := Lib.hid hR
                            clear hR
                            have HW := Lib.hid hW
                            clear hW hD
                            go_wp2_with fail
                            exact HRR.out _ HW.out
                          case hnp => rfl
                          case hv => first | exact ⟨_, fun _ => rfl⟩ | exact ⟨undef, fun _ => rfl⟩
                          apply obl_nil
                          intro D y w8 hall hW
                          have HB8 := Lib.hid (HBR.out.trans (hW.mono HBR.out.size))
                          clear hall hW
                          go_wp2_with fail
                          refine ⟨⟨t + 1, by push_cast; rfl, by omega, HB8.out⟩, ?_⟩
                          simp [intOf]; omega
                      · as_aux_lemma =>
                          obtain rfl : t = s.things.length := by omega
                          obtain ⟨b4, o4, rfl, hb4, hx4, hy4⟩ := T4.out.at' (i := k) (by rw [HPL.out]; exact hkl)
                          obtain ⟨b5, o5, rfl, hb5, hx5, hy5⟩ := T5.out.at' (i := k) (by rw [HPT.out]; exact hkl)
                          have hm := HTP.out k hkl
                          have HX4 : Hid (w7'.cell? ⟨b4, o4 + k * 2, none⟩ = some (.int .i64 (P1.getD k (0, 0)).1)) := hx4
                          have HY4 : Hid (w7'.cell? ⟨b4, o4 + k * 2 + 1, none⟩ = some (.int .i64 (P1.getD k (0, 0)).2)) := hy4
                          have HX5 : Hid (w7'.cell? ⟨b5, o5 + k * 2, none⟩ = some (.int .i64 (P2.getD k (0, 0)).1)) := hx5
                          have HY5 : Hid (w7'.cell? ⟨b5, o5 + k * 2 + 1, none⟩ = some (.int .i64 (P2.getD k (0, 0)).2)) := hy5
                          have HU4 := Lib.hid hb4
                          have HU5 := Lib.hid hb5
                          clear hx4 hy4 hx5 hy5 hb4 hb5
                          generalize P1.getD k (0, 0) = A at *
                          generalize P2.getD k (0, 0) = B' at *
                          obtain ⟨A1, A2⟩ := A
                          obtain ⟨B1, B2⟩ := B'
                          simp only at hm HX4 HY4 HX5 HY5
                          have Q1 : Hid (decide (B1 < A1) = false) := decide_eq_false (by omega)
                          have Q2 : Hid (decide (A2 < B2) = false) := decide_eq_false (by omega)
                          clear hm
                          go_wp2_with fail
                          clear hs0
                          refine wp_region_inv0 (by kernel_rfl) (by kernel_rfl) (fun D w' => Below wr.heap.size wr w') (Below.refl _ _).drew ?_
                          apply obl_det
                          case hrun =>
                            intro D y wz hW hD R hR
                            have HRR := Lib.hid hR
                            clear hR
                            have HW := Lib.hid hW
                            clear hW hD
                            go_wp2_with fail
                            exact HRR.out _ HW.out
                          case hnp => rfl
                          case hv => first | exact ⟨_, fun _ => rfl⟩ | exact ⟨undef, fun _ => rfl⟩
                          apply obl_det
                          case hrun =>
                            intro D y wz hW hD R hR
                            have HRR := Lib.hid hR
                            clear hR
                            have HW := Lib.hid hW
                            clear hW hD
                            go_wp2_with fail
                            exact HRR.out _ HW.out
                          case hnp => rfl
                          case hv => first | exact ⟨_, fun _ => rfl⟩ | exact ⟨undef, fun _ => rfl⟩
                          apply obl_det
                          case hrun =>
                            intro D y wz hW hD R hR
                            have HRR := Lib.hid hR
                            clear hR
                            have HW := Lib.hid hW
                            clear hW hD
                            go_wp2_with fail
                            exact HRR.out _ HW.out
                          case hnp => rfl
                          case hv => first | exact ⟨_, fun _ => rfl⟩ | exact ⟨undef, fun _ => rfl⟩
                          apply obl_det
                          case hrun =>
                            intro D y wz hW hD R hR
                            have HRR := Lib.hid hR
                            clear hR
                            have HW := Lib.hid hW
                            clear hW hD
                            go_wp2_with fail
                            exact HRR.out _ HW.out
                          case hnp => rfl
                          case hv => first | exact ⟨_, fun _ => rfl⟩ | exact ⟨undef, fun _ => rfl⟩
                          apply obl_det
                          case hrun =>
                            intro D y wz hW hD R hR
                            have HRR := Lib.hid hR
                            clear hR
                            have HW := Lib.hid hW
                            have HY := Lib.hid (HBR.out.trans (HW.out.mono HBR.out.size))
                            have h1 := (HY.out.cell (p := ⟨b5, o5 + k * 2, none⟩) HU5.out).trans HX5.out
                            clear hW hD
                            go_wp2_with fail
                            exact HRR.out _ HW.out
                          case hnp => rfl
                          case hv => first | exact ⟨_, fun _ => rfl⟩ | exact ⟨undef, fun _ => rfl⟩
                          apply obl_det
                          case hrun =>
                            intro D y wz hW hD R hR
                            have HRR := Lib.hid hR
                            clear hR
                            have HW := Lib.hid hW
                            clear hW hD
                            go_wp2_with fail
                            exact HRR.out _ HW.out
                          case hnp => rfl
                          case hv => first | exact ⟨_, fun _ => rfl⟩ | exact ⟨undef, fun _ => rfl⟩
                          apply obl_det
                          case hrun =>
                            intro D y wz hW hD R hR
                            have HRR := Lib.hid hR
                            clear hR
                            have HW := Lib.hid hW
                            clear hW hD
                            go_wp2_with fail
                            exact HRR.out _ HW.out
                          case hnp => rfl
                          case hv => first | exact ⟨_, fun _ => rfl⟩ | exact ⟨undef, fun _ => rfl⟩
                          apply obl_det
                          case hrun =>
                            intro D y wz hW hD R hR
                            have HRR := Lib.hid hR
                            clear hR
                            have HW := Lib.hid hW
                            clear hW hD
                            go_wp2_with fail
                            exact HRR.out _ HW.out
                          case hnp => rfl
                          case hv => first | exact ⟨_, fun _ => rfl⟩ | exact ⟨undef, fun _ => rfl⟩
                          apply obl_det
                          case hrun =>
                            intro D y wz hW hD R hR
                            have HRR := Lib.hid hR
                            clear hR
                            have HW := Lib.hid hW
                            clear hW hD
                            go_wp2_with fail
                            exact HRR.out _ HW.out
                          case hnp => rfl
                          case hv => first | exact ⟨_, fun _ => rfl⟩ | exact ⟨undef, fun _ => rfl⟩
                          apply obl_det
                          case hrun =>
                            intro D y wz hW hD R hR
                            have HRR := Lib.hid hR
                            clear hR
                            have HW := Lib.hid hW
                            have HY := Lib.hid (HBR.out.trans (HW.out.mono HBR.out.size))
                            have h1 := (HY.out.cell (p := ⟨b4, o4 + k * 2, none⟩) HU4.out).trans HX4.out
                            clear hW hD
                            go_wp2_with fail
                            exact HRR.out _ HW.out
                          case hnp => rfl
                          case hv => first | exact ⟨_, fun _ => rfl⟩ | exact ⟨undef, fun _ => rfl⟩
                          apply obl_det
                          case hrun =>
                            intro D y wz hW hD R hR
                            have HRR := Lib.hid hR
                            clear hR
                            have HW := Lib.hid hW
                            have h1 := Q1.out
                            clear hW hD
                            go_wp2_with fail
                            exact HRR.out _ HW.out
                          case hnp => rfl
                          case hv => first | exact ⟨_, fun _ => rfl⟩ | exact ⟨undef, fun _ => rfl⟩
                          apply obl_det
                          case hrun =>
                            intro D y wz hW hD R hR
                            have HRR := Lib.hid hR
                            clear hR
                            have HW := Lib.hid hW
                            clear hW hD
                            go_wp2_with fail
                            exact HRR.out _ HW.out
                          case hnp => rfl
                          case hv => first | exact ⟨_, fun _ => rfl⟩ | exact ⟨undef, fun _ => rfl⟩
                          apply obl_det
                          case hrun =>
                            intro D y wz hW hD R hR
                            have HRR := Lib.hid hR
                            clear hR
                            have HW := Lib.hid hW
                            clear hW hD
                            go_wp2_with fail
                            exact HRR.out _ HW.out
                          case hnp => rfl
                          case hv => first | exact ⟨_, fun _ => rfl⟩ | exact ⟨undef, fun _ => rfl⟩
                          apply obl_det
                          case hrun =>
                            intro D y wz hW hD R hR
                            have HRR := Lib.hid hR
                            clear hR
                            have HW := Lib.hid hW
                            clear hW hD
                            go_wp2_with fail
                            exact HRR.out _ HW.out
                          case hnp => rfl
                          case hv => first | exact ⟨_, fun _ => rfl⟩ | exact ⟨undef, fun _ => rfl⟩
                          apply obl_det
                          case hrun =>
                            intro D y wz hW hD R hR
                            have HRR := Lib.hid hR
                            clear hR
                            have HW := Lib.hid hW
                            clear hW hD
                            go_wp2_with fail
                            exact HRR.out _ HW.out
                          case hnp => rfl
                          case hv => first | exact ⟨_, fun _ => rfl⟩ | exact ⟨undef, fun _ => rfl⟩
                          apply obl_det
                          case hrun =>
                            intro D y wz hW hD R hR
                            have HRR := Lib.hid hR
                            clear hR
                            have HW := Lib.hid hW
                            clear hW hD
                            go_wp2_with fail
                            exact HRR.out _ HW.out
                          case hnp => rfl
                          case hv => first | exact ⟨_, fun _ => rfl⟩ | exact ⟨undef, fun _ => rfl⟩
                          apply obl_det
                          case hrun =>
                            intro D y wz hW hD R hR
                            have HRR := Lib.hid hR
                            clear hR
                            have HW := Lib.hid hW
                            have HY := Lib.hid (HBR.out.trans (HW.out.mono HBR.out.size))
                            have h1 := (HY.out.cell (p := ⟨b5, o5 + k * 2 + 1, none⟩) HU5.out).trans HY5.out
                            clear hW hD
                            go_wp2_with fail
                            exact HRR.out _ HW.out
                          case hnp => rfl
                          case hv => first | exact ⟨_, fun _ => rfl⟩ | exact ⟨undef, fun _ => rfl⟩
                          apply obl_det
                          case hrun =>
                            intro D y wz hW hD R hR
                            have HRR := Lib.hid hR
                            clear hR
                            have HW := Lib.hid hW
                            clear hW hD
                            go_wp2_with fail
                            exact HRR.out _ HW.out
                          case hnp => rfl
                          case hv => first | exact ⟨_, fun _ => rfl⟩ | exact ⟨undef, fun _ => rfl⟩
                          apply obl_det
                          case hrun =>
                            intro D y wz hW hD R hR
                            have HRR := Lib.hid hR
                            clear hR
                            have HW := Lib.hid hW
                            clear hW hD
                            go_wp2_with fail
                            exact HRR.out _ HW.out
                          case hnp => rfl
                          case hv => first | exact ⟨_, fun _ => rfl⟩ | exact ⟨undef, fun _ => rfl⟩
                          apply obl_det
                          case hrun =>
                            intro D y wz hW hD R hR
                            have HRR := Lib.hid hR
                            clear hR
                            have HW := Lib.hid hW
                            clear hW hD
                            go_wp2_with fail
                            exact HRR.out _ HW.out
                          case hnp => rfl
                          case hv => first | exact ⟨_, fun _ => rfl⟩ | exact ⟨undef, fun _ => rfl⟩
                          apply obl_det
                          case hrun =>
                            intro D y wz hW hD R hR
                            have HRR := Lib.hid hR
                            clear hR
                            have HW := Lib.hid hW
                            clear hW hD
                            go_wp2_with fail
                            exact HRR.out _ HW.out
                          case hnp => rfl
                          case hv => first | exact ⟨_, fun _ => rfl⟩ | exact ⟨undef, fun _ => rfl⟩
                          apply obl_det
                          case hrun =>
                            intro D y wz hW hD R hR
                            have HRR := Lib.hid hR
                            clear hR
                            have HW := Lib.hid hW
                            have HY := Lib.hid (HBR.out.trans (HW.out.mono HBR.out.size))
                            have h1 := (HY.out.cell (p := ⟨b4, o4 + k * 2 + 1, none⟩) HU4.out).trans HY4.out
                            clear hW hD
                            go_wp2_with fail
                            exact HRR.out _ HW.out
                          case hnp => rfl
                          case hv => first | exact ⟨_, fun _ => rfl⟩ | exact ⟨undef, fun _ => rfl⟩
                          apply obl_det
                          case hrun =>
                            intro D y wz hW hD R hR
                            have HRR := Lib.hid hR
                            clear hR
                            have HW := Lib.hid hW
                            have h1 := Q2.out
                            clear hW hD
                            go_wp2_with fail
                            exact HRR.out _ HW.out
                          case hnp => rfl
                          case hv => first | exact ⟨_, fun _ => rfl⟩ | exact ⟨undef, fun _ => rfl⟩
                          apply obl_det
                          case hrun =>
                            intro D y wz hW hD R hR
                            have HRR := Lib.hid hR
                            clear hR
                            have HW := Lib.hid hW
                            clear hW hD
                            go_wp2_with fail
                            exact HRR.out _ HW.out
                          case hnp => rfl
                          case hv => first | exact ⟨_, fun _ => rfl⟩ | exact ⟨undef, fun _ => rfl⟩
                          apply obl_nil
                          intro D y w8 hall hW
                          have HB9 := Lib.hid (HBR.out.trans (hW.mono HBR.out.size))
                          clear hall hW
                          go_wp2_with fail
                          refine ⟨⟨k + 1, by push_cast; rfl, by omega, HB9.out⟩, ?_⟩
                          simp [intOf]; omega
                · obtain rfl : k = l.length := by omega
                  go_wp2_with fail
                  refine (awake_any _).mono ?_
                  rintro e w14 ⟨rfl, hb⟩
                  have CX := Lib.hid ((CX0.out.call HBK.out).call hb)
                  clear hb CX0 HBK
                  go_wp2_with fail
                  go_ret
                  exact ⟨rfl, CX.out.bel⟩
          as_aux_lemma =>
            have j1 : decide (K1 < 0) = false := decide_eq_false h0
            clear h0 HKP
            have hq : ((l.length : Int) != (l.length : Int)) = false := by simp
            go_wp2_with fail
            clear hq
            clear j1
            go_loopw [33] (fun iv wr => ∃ k : Nat, iv = .int .i64 k ∧ k ≤ l.length ∧ Below w7'.heap.size w7' wr) (fun iv _ => l.length - (intOf iv).toNat)
            case atStart => exact ⟨0, rfl, by omega, Below.refl _ _⟩
            case round =>
              obtain ⟨k, rfl, hk, hb⟩ := hrel
              have HBK := Lib.hid hb
              clear hb
              by_cases hkl : k < l.length
              · as_aux_lemma =>
                  have hki : (k : Int) < (l.length : Int) := by omega
                  go_wp2_with fail
                  go_loopw [34] (fun iv wr => ∃ t : Nat, iv = .int .i64 t ∧ t ≤ s.things.length ∧ Below w7'.heap.size w7' wr) (fun iv _ => s.things.length - (intOf iv).toNat)
                  case atStart => exact ⟨0, rfl, by omega, HBK.out⟩
                  case round =>
                    clear HBK
                    obtain ⟨t, rfl, ht, hb⟩ := hrel
                    have HBR := Lib.hid hb
                    clear hb
                    have hs0 := (CX0.out.call HBR.out).cell 0 rfl 0
                    by_cases htl : t < s.things.length
                    · as_aux_lemma =>
                        have hti : (t : Int) < (s.things.length : Int) := by omega
                        obtain ⟨b1, o1, d1, e1, f1, rfl, hb1, hd1, hx1, hy1, hz1⟩ := table_at T1.out (by rw [HR1.out]; exact hkl) (HL1.out k hkl) htl
                        obtain ⟨b2, o2, d2, e2, f2, rfl, hb2, hd2, hx2, hy2, hz2⟩ := table_at T2.out (by rw [HR2.out]; exact hkl) (HL2.out k hkl) htl
                        obtain ⟨b3, o3, d3, e3, f3, rfl, hb3, hd3, hx3, hy3, hz3⟩ := table_at T3.out (by rw [HR3.out]; exact hkl) (HL3.out k hkl) htl
                        have hm1 := HTM.out k hkl t
                        have hm2 := HLM.out k hkl t
                        generalize (U1.getD k []).getD t (0, 0) = A at *
                        generalize (U2.getD k []).getD t (0, 0) = B' at *
                        generalize (U3.getD k []).getD t (0, 0) = C' at *
                        obtain ⟨A1, A2⟩ := A
                        obtain ⟨B1, B2⟩ := B'
                        obtain ⟨C1, C2⟩ := C'
                        simp only at hm1 hm2 hy1 hz1 hy2 hz2 hy3 hz3
                        have Q1 : Hid (decide (B1 < A1) = false) := decide_eq_false (by omega)
                        have Q2 : Hid (decide (A2 < B2) = false) := decide_eq_false (by omega)
                        have Q3 : Hid (decide (A1 < C1) = false) := decide_eq_false (by omega)
                        have Q4 : Hid (decide (A2 < C2) = false) := decide_eq_false (by omega)
                        have HX1 := Lib.hid hx1
                        have HY1 := Lib.hid hy1
                        have HZ1 := Lib.hid hz1
                        have HU1 := Lib.hid hb1
                        have HV1 := Lib.hid hd1
                        have HX2 := Lib.hid hx2
                        have HY2 := Lib.hid hy2
                        have HZ2 := Lib.hid hz2
                        have HU2 := Lib.hid hb2
                        have HV2 := Lib.hid hd2
                        have HX3 := Lib.hid hx3
                        have HY3 := Lib.hid hy3
                        have HZ3 := Lib.hid hz3
                        have HU3 := Lib.hid hb3
                        have HV3 := Lib.hid hd3
                        clear hm1 hm2 hb1 hb2 hb3 hd1 hd2 hd3 hx1 hx2 hx3 hy1 hy2 hy3 hz1 hz2 hz3
                        go_wp2_with fail
                        clear hs0
                        refine wp_region_inv0 (by kernel_rfl) (by kernel_rfl) (fun D w' => Below wr.heap.size wr w') (Below.refl _ _).drew ?_
                        apply obl_det
                        case hrun =>
                          intro D y wz hW hD R hR
                          have HRR := Lib.hid hR
                          clear hR
                          have HW := Lib.hid hW
                          clear hW hD
                          go_wp2_with fail
                          exact HRR.out _ HW.out
                        case hnp => rfl
                        case hv => first | exact ⟨_, fun _ => rfl⟩ | exact ⟨undef, fun _ => rfl⟩
                        apply obl_det
                        case hrun =>
                          intro D y wz hW hD R hR
                          have HRR := Lib.hid hR
                          clear hR
                          have HW := Lib.hid hW
                          clear hW hD
                          go_wp2_with fail
                          exact HRR.out _ HW.out
                        case hnp => rfl
                        case hv => first | exact ⟨_, fun _ => rfl⟩ | exact ⟨undef, fun _ => rfl⟩
                        apply obl_det
                        case hrun =>
                          intro D y wz hW hD R hR
                          have HRR := Lib.hid hR
                          clear hR
                          have HW := Lib.hid hW
                          clear hW hD
                          go_wp2_with fail
                          exact HRR.out _ HW.out
                        case hnp => rfl
                        case hv => first | exact ⟨_, fun _ => rfl⟩ | exact ⟨undef, fun _ => rfl⟩
                        apply obl_det
                        case hrun =>
                          intro D y wz hW hD R hR
                          have HRR := Lib.hid hR
                          clear hR
                          have HW := Lib.hid hW
                          have HY := Lib.hid (HBR.out.trans (HW.out.mono HBR.out.size))
                          have h1 := (HY.out.cell (p := ⟨b2, o2 + k, none⟩) HU2.out).trans HX2.out
                          clear hW hD
                          go_wp2_with fail
                          exact HRR.out _ HW.out
                        case hnp => rfl
                        case hv => first | exact ⟨_, fun _ => rfl⟩ | exact ⟨undef, fun _ => rfl⟩
                        apply obl_det
                        case hrun =>
                          intro D y wz hW hD R hR
                          have HRR := Lib.hid hR
                          clear hR
                          have HW := Lib.hid hW
                          clear hW hD
                          go_wp2_with fail
                          exact HRR.out _ HW.out
                        case hnp => rfl
                        case hv => first | exact ⟨_, fun _ => rfl⟩ | exact ⟨undef, fun _ => rfl⟩
                        apply obl_det
                        case hrun =>
                          intro D y wz hW hD R hR
                          have HRR := Lib.hid hR
                          clear hR
                          have HW := Lib.hid hW
                          clear hW hD
                          go_wp2_with fail
                          exact HRR.out _ HW.out
                        case hnp => rfl
                        case hv => first | exact ⟨_, fun _ => rfl⟩ | exact ⟨undef, fun _ => rfl⟩
                        apply obl_det
                        case hrun =>
                          intro D y wz hW hD R hR
                          have HRR := Lib.hid hR
                          clear hR
                          have HW := Lib.hid hW
                          clear hW hD
                          go_wp2_with fail
                          exact HRR.out _ HW.out
                        case hnp => rfl
                        case hv => first | exact ⟨_, fun _ => rfl⟩ | exact ⟨undef, fun _ => rfl⟩
                        apply obl_det
                        case hrun =>
                          intro D y wz hW hD R hR
                          have HRR := Lib.hid hR
                          clear hR
                          have HW := Lib.hid hW
                          have HY := Lib.hid (HBR.out.trans (HW.out.mono HBR.out.size))
                          have h1 := (HY.out.cell (p := ⟨d2, e2 + t * 2, none⟩) HV2.out).trans HY2.out
                          clear hW hD
                          go_wp2_with fail
                          exact HRR.out _ HW.out
                        case hnp => rfl
                        case hv => first | exact ⟨_, fun _ => rfl⟩ | exact ⟨undef, fun _ => rfl⟩
                        apply obl_det
                        case hrun =>
                          intro D y wz hW hD R hR
                          have HRR := Lib.hid hR
                          clear hR
                          have HW := Lib.hid hW
                          clear hW hD
                          go_wp2_with fail
                          exact HRR.out _ HW.out
                        case hnp => rfl
                        case hv => first | exact ⟨_, fun _ => rfl⟩ | exact ⟨undef, fun _ => rfl⟩
                        apply obl_det
                        case hrun =>
                          intro D y wz hW hD R hR
                          have HRR := Lib.hid hR
                          clear hR
                          have HW := Lib.hid hW
                          clear hW hD
                          go_wp2_with fail
                          exact HRR.out _ HW.out
                        case hnp => rfl
                        case hv => first | exact ⟨_, fun _ => rfl⟩ | exact ⟨undef, fun _ => rfl⟩
                        apply obl_det
                        case hrun =>
                          intro D y wz hW hD R hR
                          have HRR := Lib.hid hR
                          clear hR
                          have HW := Lib.hid hW
                          clear hW hD
                          go_wp2_with fail
                          exact HRR.out _ HW.out
                        case hnp => rfl
                        case hv => first | exact ⟨_, fun _ => rfl⟩ | exact ⟨undef, fun _ => rfl⟩
                        apply obl_det
                        case hrun =>
                          intro D y wz hW hD R hR
                          have HRR := Lib.hid hR
                          clear hR
                          have HW := Lib.hid hW
                          have HY := Lib.hid (HBR.out.trans (HW.out.mono HBR.out.size))
                          have h1 := (HY.out.cell (p := ⟨b1, o1 + k, none⟩) HU1.out).trans HX1.out
                          clear hW hD
                          go_wp2_with fail
                          exact HRR.out _ HW.out
                        case hnp => rfl
                        case hv => first | exact ⟨_, fun _ => rfl⟩ | exact ⟨undef, fun _ => rfl⟩
                        apply obl_det
                        case hrun =>
                          intro D y wz hW hD R hR
                          have HRR := Lib.hid hR
                          clear hR
                          have HW := Lib.hid hW
                          clear hW hD
                          go_wp2_with fail
                          exact HRR.out _ HW.out
                        case hnp => rfl
                        case hv => first | exact ⟨_, fun _ => rfl⟩ | exact ⟨undef, fun _ => rfl⟩
                        apply obl_det
                        case hrun =>
                          intro D y wz hW hD R hR
                          have HRR := Lib.hid hR
                          clear hR
                          have HW := Lib.hid hW
                          clear hW hD
                          go_wp2_with fail
                          exact HRR.out _ HW.out
                        case hnp => rfl
                        case hv => first | exact ⟨_, fun _ => rfl⟩ | exact ⟨undef, fun _ => rfl⟩
                        apply obl_det
                        case hrun =>
                          intro D y wz hW hD R hR
                          have HRR := Lib.hid hR
                          clear hR
                          have HW := Lib.hid hW
                          clear hW hD
                          go_wp2_with fail
                          exact HRR.out _ HW.out
                        case hnp => rfl
                        case hv => first | exact ⟨_, fun _ => rfl⟩ | exact ⟨undef, fun _ => rfl⟩
                        apply obl_det
                        case hrun =>
                          intro D y wz hW hD R hR
                          have HRR := Lib.hid hR
                          clear hR
                          have HW := Lib.hid hW
                          have HY := Lib.hid (HBR.out.trans (HW.out.mono HBR.out.size))
                          have h1 := (HY.out.cell (p := ⟨d1, e1 + t * 2, none⟩) HV1.out).trans HY1.out
                          clear hW hD
                          go_wp2_with fail
                          exact HRR.out _ HW.out
                        case hnp => rfl
                        case hv => first | exact ⟨_, fun _ => rfl⟩ | exact ⟨undef, fun _ => rfl⟩
                        apply obl_det
                        case hrun =>
                          intro D y wz hW hD R hR
                          have HRR := Lib.hid hR
                          clear hR
                          have HW := Lib.hid hW
                          have h1 := Q1.out
                          clear hW hD
                          go_wp2_with fail
                          exact HRR.out _ HW.out
                        case hnp => rfl
                        case hv => first | exact ⟨_, fun _ => rfl⟩ | exact ⟨undef, fun _ => rfl⟩
                        apply obl_det
                        case hrun =>
                          intro D y wz hW hD R hR
                          have HRR := Lib.hid hR
                          clear hR
                          have HW := Lib.hid hW
                          clear hW hD
                          go_wp2_with fail
                          exact HRR.out _ HW.out
                        case hnp => rfl
                        case hv => first | exact ⟨_, fun _ => rfl⟩ | exact ⟨undef, fun _ => rfl⟩
                        apply obl_det
                        case hrun =>
                          intro D y wz hW hD R hR
                          have HRR := Lib.hid hR
                          clear hR
                          have HW := Lib.hid hW
                          clear hW hD
                          go_wp2_with fail
                          exact HRR.out _ HW.out
                        case hnp => rfl
                        case hv => first | exact ⟨_, fun _ => rfl⟩ | exact ⟨undef, fun _ => rfl⟩
                        apply obl_det
                        case hrun =>
                          intro D y wz hW hD R hR
                          have HRR := Lib.hid hR
                          clear hR
                          have HW := Lib.hid hW
                          clear hW hD
                          go_wp2_with fail
                          exact HRR.out _ HW.out
                        case hnp => rfl
                        case hv => first | exact ⟨_, fun _ => rfl⟩ | exact ⟨undef, fun _ => rfl⟩
                        apply obl_det
                        case hrun =>
                          intro D y wz hW hD R hR
                          have HRR := Lib.hid hR
                          clear hR
                          have HW := Lib.hid hW
                          clear hW hD
                          go_wp2_with fail
                          exact HRR.out _ HW.out
                        case hnp => rfl
                        case hv => first | exact ⟨_, fun _ => rfl⟩ | exact ⟨undef, fun _ => rfl⟩
                        apply obl_det
                        case hrun =>
                          intro D y wz hW hD R hR
                          have HRR := Lib.hid hR
                          clear hR
                          have HW := Lib.hid hW
                          have HY := Lib.hid (HBR.out.trans (HW.out.mono HBR.out.size))
                          have h1 := (HY.out.cell (p := ⟨b2, o2 + k, none⟩) HU2.out).trans HX2.out
                          clear hW hD
                          go_wp2_with fail
                          exact HRR.out _ HW.out
                        case hnp => rfl
                        case hv => first | exact ⟨_, fun _ => rfl⟩ | exact ⟨undef, fun _ => rfl⟩
                        apply obl_det
                        case hrun =>
                          intro D y wz hW hD R hR
                          have HRR := Lib.hid hR
                          clear hR
                          have HW := Lib.hid hW
                          clear hW hD
                          go_wp2_with fail
                          exact HRR.out _ HW.out
                        case hnp => rfl
                        case hv => first | exact ⟨_, fun _ => rfl⟩ | exact ⟨undef, fun _ => rfl⟩
                        apply obl_det
                        case hrun =>
                          intro D y wz hW hD R hR
                          have HRR := Lib.hid hR
                          clear hR
                          have HW := Lib.hid hW
                          clear hW hD
                          go_wp2_with fail
                          exact HRR.out _ HW.out
                        case hnp => rfl
                        case hv => first | exact ⟨_, fun _ => rfl⟩ | exact ⟨undef, fun _ => rfl⟩
                        apply obl_det
                        case hrun =>
                          intro D y wz hW hD R hR
                          have HRR := Lib.hid hR
                          clear hR
                          have HW := Lib.hid hW
                          clear hW hD
                          go_wp2_with fail
                          exact HRR.out _ HW.out
                        case hnp => rfl
                        case hv => first | exact ⟨_, fun _ => rfl⟩ | exact ⟨undef, fun _ => rfl⟩
                        apply obl_det
                        case hrun =>
                          intro D y wz hW hD R hR
                          have HRR := Lib.hid hR
                          clear hR
                          have HW := Lib.hid hW
                          have HY := Lib.hid (HBR.out.trans (HW.out.mono HBR.out.size))
                          have h1 := (HY.out.cell (p := ⟨d2, e2 + t * 2 + 1, none⟩) HV2.out).trans HZ2.out
                          clear hW hD
                          go_wp2_with fail
                          exact HRR.out _ HW.out
                        case hnp => rfl
                        case hv => first | exact ⟨_, fun _ => rfl⟩ | exact ⟨undef, fun _ => rfl⟩
                        apply obl_det
                        case hrun =>
                          intro D y wz hW hD R hR
                          have HRR := Lib.hid hR
                          clear hR
                          have HW := Lib.hid hW
                          clear hW hD
                          go_wp2_with fail
                          exact HRR.out _ HW.out
                        case hnp => rfl
                        case hv => first | exact ⟨_, fun _ => rfl⟩ | exact ⟨undef, fun _ => rfl⟩
                        apply obl_det
                        case hrun =>
                          intro D y wz hW hD R hR
                          have HRR := Lib.hid hR
                          clear hR
                          have HW := Lib.hid hW
                          clear hW hD
                          go_wp2_with fail
                          exact HRR.out _ HW.out
                        case hnp => rfl
                        case hv => first | exact ⟨_, fun _ => rfl⟩ | exact ⟨undef, fun _ => rfl⟩
                        apply obl_det
                        case hrun =>
                          intro D y wz hW hD R hR
                          have HRR := Lib.hid hR
                          clear hR
                          have HW := Lib.hid hW
                          clear hW hD
                          go_wp2_with fail
                          exact HRR.out _ HW.out
                        case hnp => rfl
                        case hv => first | exact ⟨_, fun _ => rfl⟩ | exact ⟨undef, fun _ => rfl⟩
                        apply obl_det
                        case hrun =>
                          intro D y wz hW hD R hR
                          have HRR := Lib.hid hR
                          clear hR
                          have HW := Lib.hid hW
                          have HY := Lib.hid (HBR.out.trans (HW.out.mono HBR.out.size))
                          have h1 := (HY.out.cell (p := ⟨b1, o1 + k, none⟩) HU1.out).trans HX1.out
                          clear hW hD
                          go_wp2_with fail
                          exact HRR.out _ HW.out
                        case hnp => rfl
                        case hv => first | exact ⟨_, fun _ => rfl⟩ | exact ⟨undef, fun _ => rfl⟩
                        apply obl_det
                        case hrun =>
                          intro D y wz hW hD R hR
                          have HRR := Lib.hid hR
                          clear hR
                          have HW := Lib.hid hW
                          clear hW hD
                          go_wp2_with fail
                          exact HRR.out _ HW.out
                        case hnp => rfl
                        case hv => first | exact ⟨_, fun _ => rfl⟩ | exact ⟨undef, fun _ => rfl⟩
                        apply obl_det
                        case hrun =>
                          intro D y wz hW hD R hR
                          have HRR := Lib.hid hR
                          clear hR
                          have HW := Lib.hid hW
                          clear hW hD
                          go_wp2_with fail
                          exact HRR.out _ HW.out
                        case hnp => rfl
                        case hv => first | exact ⟨_, fun _ => rfl⟩ | exact ⟨undef, fun _ => rfl⟩
                        apply obl_det
                        case hrun =>
                          intro D y wz hW hD R hR
                          have HRR := Lib.hid hR
                          clear hR
                          have HW := Lib.hid hW
                          clear hW hD
                          go_wp2_with fail
                          exact HRR.out _ HW.out
                        case hnp => rfl
                        case hv => first | exact ⟨_, fun _ => rfl⟩ | exact ⟨undef, fun _ => rfl⟩
                        apply obl_det
                        case hrun =>
                          intro D y wz hW hD R hR
                          have HRR := Lib.hid hR
                          clear hR
                          have HW := Lib.hid hW
                          have HY := Lib.hid (HBR.out.trans (HW.out.mono HBR.out.size))
                          have h1 := (HY.out.cell (p := ⟨d1, e1 + t * 2 + 1, none⟩) HV1.out).trans HZ1.out
                          clear hW hD
                          go_wp2_with fail
                          exact HRR.out _ HW.out
                        case hnp => rfl
                        case hv => first | exact ⟨_, fun _ => rfl⟩ | exact ⟨undef, fun _ => rfl⟩
                        apply obl_det
                        case hrun =>
                          intro D y wz hW hD R hR
                          have HRR := Lib.hid hR
                          clear hR
                          have HW := Lib.hid hW
                          have h1 := Q2.out
                          clear hW hD
                          go_wp2_with fail
                          exact HRR.out _ HW.out
                        case hnp => rfl
                        case hv => first | exact ⟨_, fun _ => rfl⟩ | exact ⟨undef, fun _ => rfl⟩
                        apply obl_det
                        case hrun =>
                          intro D y wz hW hD R hR
                          have HRR := Lib.hid hR
                          clear hR
                          have HW := Lib.hid hW
                          clear hW hD
                          go_wp2_with fail
                          exact HRR.out _ HW.out
                        case hnp => rfl
                        case hv => first | exact ⟨_, fun _ => rfl⟩ | exact ⟨undef, fun _ => rfl⟩
                        apply obl_det
                        case hrun =>
                          intro D y wz hW hD R hR
                          have HRR := Lib.hid hR
                          clear hR
                          have HW := Lib.hid hW
                          clear hW hD
                          go_wp2_with fail
                          exact HRR.out _ HW.out
                        case hnp => rfl
                        case hv => first | exact ⟨_, fun _ => rfl⟩ | exact ⟨undef, fun _ => rfl⟩
                        apply obl_det
                        case hrun =>
                          intro D y wz hW hD R hR
                          have HRR := Lib.hid hR
                          clear hR
                          have HW := Lib.hid hW
                          clear hW hD
                          go_wp2_with fail
                          exact HRR.out _ HW.out
                        case hnp => rfl
                        case hv => first | exact ⟨_, fun _ => rfl⟩ | exact ⟨undef, fun _ => rfl⟩
                        apply obl_det
                        case hrun =>
                          intro D y wz hW hD R hR
                          have HRR := Lib.hid hR
                          clear hR
                          have HW := Lib.hid hW
                          clear hW hD
                          go_wp2_with fail
                          exact HRR.out _ HW.out
                        case hnp => rfl
                        case hv => first | exact ⟨_, fun _ => rfl⟩ | exact ⟨undef, fun _ => rfl⟩
                        apply obl_det
                        case hrun =>
                          intro D y wz hW hD R hR
                          have HRR := Lib.hid hR
                          clear hR
                          have HW := Lib.hid hW
                          clear hW hD
                          go_wp2_with fail
                          exact HRR.out _ HW.out
                        case hnp => rfl
                        case hv => first | exact ⟨_, fun _ => rfl⟩ | exact ⟨undef, fun _ => rfl⟩
                        apply obl_det
                        case hrun =>
                          intro D y wz hW hD R hR
                          have HRR := Lib.hid hR
                          clear hR
                          have HW := Lib.hid hW
                          have HY := Lib.hid (HBR.out.trans (HW.out.mono HBR.out.size))
                          have h1 := (HY.out.cell (p := ⟨b3, o3 + k, none⟩) HU3.out).trans HX3.out
                          clear hW hD
                          go_wp2_with fail
                          exact HRR.out _ HW.out
                        case hnp => rfl
                        case hv => first | exact ⟨_, fun _ => rfl⟩ | exact ⟨undef, fun _ => rfl⟩
                        apply obl_det
                        case hrun =>
                          intro D y wz hW hD R hR
                          have HRR := Lib.hid hR
                          clear hR
                          have HW := Lib.hid hW
                          clear hW hD
                          go_wp2_with fail
                          exact HRR.out _ HW.out
                        case hnp => rfl
                        case hv => first | exact ⟨_, fun _ => rfl⟩ | exact ⟨undef, fun _ => rfl⟩
                        apply obl_det
                        case hrun =>
                          intro D y wz hW hD R hR
                          have HRR := Lib.hid hR
                          clear hR
                          have HW := Lib.hid hW
                          clear hW hD
                          go_wp2_with fail
                          exact HRR.out _ HW.out
                        case hnp => rfl
                        case hv => first | exact ⟨_, fun _ => rfl⟩ | exact ⟨undef, fun _ => rfl⟩
                        apply obl_det
                        case hrun =>
                          intro D y wz hW hD R hR
                          have HRR := Lib.hid hR
                          clear hR
                          have HW := Lib.hid hW
                          clear hW hD
                          go_wp2_with fail
                          exact HRR.out _ HW.out
                        case hnp => rfl
                        case hv => first | exact ⟨_, fun _ => rfl⟩ | exact ⟨undef, fun _ => rfl⟩
                        apply obl_det
                        case hrun =>
                          intro D y wz hW hD R hR
                          have HRR := Lib.hid hR
                          clear hR
                          have HW := Lib.hid hW
                          have HY := Lib.hid (HBR.out.trans (HW.out.mono HBR.out.size))
                          have h1 := (HY.out.cell (p := ⟨d3, e3 + t * 2, none⟩) HV3.out).trans HY3.out
                          clear hW hD
                          go_wp2_with fail
                          exact HRR.out _ HW.out
                        case hnp => rfl
                        case hv => first | exact ⟨_, fun _ => rfl⟩ | exact ⟨undef, fun _ => rfl⟩
                        apply obl_det
                        case hrun =>
                          intro D y wz hW hD R hR
                          have HRR := Lib.hid hR
                          clear hR
                          have HW := Lib.hid hW
                          clear hW hD
                          go_wp2_with fail
                          exact HRR.out _ HW.out
                        case hnp => rfl
                        case hv => first | exact ⟨_, fun _ => rfl⟩ | exact ⟨undef, fun _ => rfl⟩
                        apply obl_det
                        case hrun =>
                          intro D y wz hW hD R hR
                          have HRR := Lib.hid hR
                          clear hR
                          have HW := Lib.hid hW
                          clear hW hD
                          go_wp2_with fail
                          exact HRR.out _ HW.out
                        case hnp => rfl
                        case hv => first | exact ⟨_, fun _ => rfl⟩ | exact ⟨undef, fun _ => rfl⟩
                        apply obl_det
                        case hrun =>
                          intro D y wz hW hD R hR
                          have HRR := Lib.hid hR
                          clear hR
                          have HW := Lib.hid hW
                          clear hW hD
                          go_wp2_with fail
                          exact HRR.out _ HW.out
                        case hnp => rfl
                        case hv => first | exact ⟨_, fun _ => rfl⟩ | exact ⟨undef, fun _ => rfl⟩
                        apply obl_det
                        case hrun =>
                          intro D y wz hW hD R hR
                          have HRR := Lib.hid hR
                          clear hR
                          have HW := Lib.hid hW
                          have HY := Lib.hid (HBR.out.trans (HW.out.mono HBR.out.size))
                          have h1 := (HY.out.cell (p := ⟨b1, o1 + k, none⟩) HU1.out).trans HX1.out
                          clear hW hD
                          go_wp2_with fail
                          exact HRR.out _ HW.out
                        case hnp => rfl
                        case hv => first | exact ⟨_, fun _ => rfl⟩ | exact ⟨undef, fun _ => rfl⟩
                        apply obl_det
                        case hrun =>
                          intro D y wz hW hD R hR
                          have HRR := Lib.hid hR
                          clear hR
                          have HW := Lib.hid hW
                          clear hW hD
                          go_wp2_with fail
                          exact HRR.out _ HW.out
                        case hnp => rfl
                        case hv => first | exact ⟨_, fun _ => rfl⟩ | exact ⟨undef, fun _ => rfl⟩
                        apply obl_det
                        case hrun =>
                          intro D y wz hW hD R hR
                          have HRR := Lib.hid hR
                          clear hR
                          have HW := Lib.hid hW
                          clear hW hD
                          go_wp2_with fail
                          exact HRR.out _ HW.out
                        case hnp => rfl
                        case hv => first | exact ⟨_, fun _ => rfl⟩ | exact ⟨undef, fun _ => rfl⟩
                        apply obl_det
                        case hrun =>
                          intro D y wz hW hD R hR
                          have HRR := Lib.hid hR
                          clear hR
                          have HW := Lib.hid hW
                          clear hW hD
                          go_wp2_with fail
                          exact HRR.out _ HW.out
                        case hnp => rfl
                        case hv => first | exact ⟨_, fun _ => rfl⟩ | exact ⟨undef, fun _ => rfl⟩
                        apply obl_det
                        case hrun =>
                          intro D y wz hW hD R hR
                          have HRR := Lib.hid hR
                          clear hR
                          have HW := Lib.hid hW
                          have HY := Lib.hid (HBR.out.trans (HW.out.mono HBR.out.size))
                          have h1 := (HY.out.cell (p := ⟨d1, e1 + t * 2, none⟩) HV1.out).trans HY1.out
                          clear hW hD
                          go_wp2_with fail
                          exact HRR.out _ HW.out
                        case hnp => rfl
                        case hv => first | exact ⟨_, fun _ => rfl⟩ | exact ⟨undef, fun _ => rfl⟩
                        apply obl_det
                        case hrun =>
                          intro D y wz hW hD R hR
                          have HRR := Lib.hid hR
                          clear hR
                          have HW := Lib.hid hW
                          have h1 := Q3.out
                          clear hW hD
                          go_wp2_with fail
                          exact HRR.out _ HW.out
                        case hnp => rfl
                        case hv => first | exact ⟨_, fun _ => rfl⟩ | exact ⟨undef, fun _ => rfl⟩
                        apply obl_det
                        case hrun =>
                          intro D y wz hW hD R hR
                          have HRR := Lib.hid hR
                          clear hR
                          have HW := Lib.hid hW
                          clear hW hD
                          go_wp2_with fail
                          exact HRR.out _ HW.out
                        case hnp => rfl
                        case hv => first | exact ⟨_, fun _ => rfl⟩ | exact ⟨undef, fun _ => rfl⟩
                        apply obl_det
                        case hrun =>
                          intro D y wz hW hD R hR
                          have HRR := Lib.hid hR
                          clear hR
                          have HW := Lib.hid hW
                          clear hW hD
                          go_wp2_with fail
                          exact HRR.out _ HW.out
                        case hnp => rfl
                        case hv => first | exact ⟨_, fun _ => rfl⟩ | exact ⟨undef, fun _ => rfl⟩
                        apply obl_det
                        case hrun =>
                          intro D y wz hW hD R hR
                          have HRR := Lib.hid hR
                          clear hR
                          have HW := Lib.hid hW
                          clear hW hD
                          go_wp2_with fail
                          exact HRR.out _ HW.out
                        case hnp => rfl
                        case hv => first | exact ⟨_, fun _ => rfl⟩ | exact ⟨undef, fun _ => rfl⟩
                        apply obl_det
                        case hrun =>
                          intro D y wz hW hD R hR
                          have HRR := Lib.hid hR
                          clear hR
                          have HW := Lib.hid hW
                          clear hW hD
                          go_wp2_with fail
                          exact HRR.out _ HW.out
                        case hnp => rfl
                        case hv => first | exact ⟨_, fun _ => rfl⟩ | exact ⟨undef, fun _ => rfl⟩
                        apply obl_det
                        case hrun =>
                          intro D y wz hW hD R hR
                          have HRR := Lib.hid hR
                          clear hR
                          have HW := Lib.hid hW
                          clear hW hD
                          go_wp2_with fail
                          exact HRR.out _ HW.out
                        case hnp => rfl
                        case hv => first | exact ⟨_, fun _ => rfl⟩ | exact ⟨undef, fun _ => rfl⟩
                        apply obl_det
                        case hrun =>
                          intro D y wz hW hD R hR
                          have HRR := Lib.hid hR
                          clear hR
                          have HW := Lib.hid hW
                          have HY := Lib.hid (HBR.out.trans (HW.out.mono HBR.out.size))
                          have h1 := (HY.out.cell (p := ⟨b3, o3 + k, none⟩) HU3.out).trans HX3.out
                          clear hW hD
                          go_wp2_with fail
                          exact HRR.out _ HW.out
                        case hnp => rfl
                        case hv => first | exact ⟨_, fun _ => rfl⟩ | exact ⟨undef, fun _ => rfl⟩
                        apply obl_det
                        case hrun =>
                          intro D y wz hW hD R hR
                          have HRR := Lib.hid hR
                          clear hR
                          have HW := Lib.hid hW
                          clear hW hD
                          go_wp2_with fail
                          exact HRR.out _ HW.out
                        case hnp => rfl
                        case hv => first | exact ⟨_, fun _ => rfl⟩ | exact ⟨undef, fun _ => rfl⟩
                        apply obl_det
                        case hrun =>
                          intro D y wz hW hD R hR
                          have HRR := Lib.hid hR
                          clear hR
                          have HW := Lib.hid hW
                          clear hW hD
                          go_wp2_with fail
                          exact HRR.out _ HW.out
                        case hnp => rfl
                        case hv => first | exact ⟨_, fun _ => rfl⟩ | exact ⟨undef, fun _ => rfl⟩
                        apply obl_det
                        case hrun =>
                          intro D y wz hW hD R hR
                          have HRR := Lib.hid hR
                          clear hR
                          have HW := Lib.hid hW
                          clear hW hD
                          go_wp2_with fail
                          exact HRR.out _ HW.out
                        case hnp => rfl
                        case hv => first | exact ⟨_, fun _ => rfl⟩ | exact ⟨undef, fun _ => rfl⟩
                        apply obl_det
                        case hrun =>
                          intro D y wz hW hD R hR
                          have HRR := Lib.hid hR
                          clear hR
                          have HW := Lib.hid hW
                          have HY := Lib.hid (HBR.out.trans (HW.out.mono HBR.out.size))
                          have h1 := (HY.out.cell (p := ⟨d3, e3 + t * 2 + 1, none⟩) HV3.out).trans HZ3.out
                          clear hW hD
                          go_wp2_with fail
                          exact HRR.out _ HW.out
                        case hnp => rfl
                        case hv => first | exact ⟨_, fun _ => rfl⟩ | exact ⟨undef, fun _ => rfl⟩
                        apply obl_det
                        case hrun =>
                          intro D y wz hW hD R hR
                          have HRR := Lib.hid hR
                          clear hR
                          have HW := Lib.hid hW
                          clear hW hD
                          go_wp2_with fail
                          exact HRR.out _ HW.out
                        case hnp => rfl
                        case hv => first | exact ⟨_, fun _ => rfl⟩ | exact ⟨undef, fun _ => rfl⟩
                        apply obl_det
                        case hrun =>
                          intro D y wz hW hD R hR
                          have HRR := Lib.hid hR
                          clear hR
                          have HW := Lib.hid hW
                          clear hW hD
                          go_wp2_with fail
                          exact HRR.out _ HW.out
                        case hnp => rfl
                        case hv => first | exact ⟨_, fun _ => rfl⟩ | exact ⟨undef, fun _ => rfl⟩
                        apply obl_det
                        case hrun =>
                          intro D y wz hW hD R hR
                          have HRR := Lib.hid hR
                          clear hR
                          have HW := Lib.hid hW
                          clear hW hD
                          go_wp2_with fail
                          exact HRR.out _ HW.out
                        case hnp => rfl
                        case hv => first | exact ⟨_, fun _ => rfl⟩ | exact ⟨undef, fun _ => rfl⟩
                        apply obl_det
                        case hrun =>
                          intro D y wz hW hD R hR
                          have HRR := Lib.hid hR
                          clear hR
                          have HW := Lib.hid hW
                          have HY := Lib.hid (HBR.out.trans (HW.out.mono HBR.out.size))
                          have h1 := (HY.out.cell (p := ⟨b1, o1 + k, none⟩) HU1.out).trans HX1.out
                          clear hW hD
                          go_wp2_with fail
                          exact HRR.out _ HW.out
                        case hnp => rfl
                        case hv => first | exact ⟨_, fun _ => rfl⟩ | exact ⟨undef, fun _ => rfl⟩
                        apply obl_det
                        case hrun =>
                          intro D y wz hW hD R hR
                          have HRR := Lib.hid hR
                          clear hR
                          have HW := Lib.hid hW
                          clear hW hD
                          go_wp2_with fail
                          exact HRR.out _ HW.out
                        case hnp => rfl
                        case hv => first | exact ⟨_, fun _ => rfl⟩ | exact ⟨undef, fun _ => rfl⟩
                        apply obl_det
                        case hrun =>
                          intro D y wz hW hD R hR
                          have HRR := Lib.hid hR
                          clear hR
                          have HW := Lib.hid hW
                          clear hW hD
                          go_wp2_with fail
                          exact HRR.out _ HW.out
                        case hnp => rfl
                        case hv => first | exact ⟨_, fun _ => rfl⟩ | exact ⟨undef, fun _ => rfl⟩
                        apply obl_det
                        case hrun =>
                          intro D y wz hW hD R hR
                          have HRR := Lib.hid hR
                          clear hR
                          have HW := Lib.hid hW
                          clear hW hD
                          go_wp2_with fail
                          exact HRR.out _ HW.out
                        case hnp => rfl
                        case hv => first | exact ⟨_, fun _ => rfl⟩ | exact ⟨undef, fun _ => rfl⟩
                        apply obl_det
                        case hrun =>
                          intro D y wz hW hD R hR
                          have HRR := Lib.hid hR
                          clear hR
                          have HW := Lib.hid hW
                          have HY := Lib.hid (HBR.out.trans (HW.out.mono HBR.out.size))
                          have h1 := (HY.out.cell (p := ⟨d1, e1 + t * 2 + 1, none⟩) HV1.out).trans HZ1.out
                          clear hW hD
                          go_wp2_with fail
                          exact HRR.out _ HW.out
                        case hnp => rfl
                        case hv => first | exact ⟨_, fun _ => rfl⟩ | exact ⟨undef, fun _ => rfl⟩
                        apply obl_det
                        case hrun =>
                          intro D y wz hW hD R hR
                          have HRR := Lib.hid hR
                          clear hR
                          have HW := Lib.hid hW
                          have h1 := Q4.out
                          clear hW hD
                          go_wp2_with fail
                          exact HRR.out _ HW.out
                        case hnp => rfl
                        case hv => first | exact ⟨_, fun _ => rfl⟩ | exact ⟨undef, fun _ => rfl⟩
                        apply obl_det
                        case hrun =>
                          intro D y wz hW hD R hR
                          have HRR := Lib.hid hR
                          clear hR
                          have HW := Lib.hid hW
                          clear hW hD
                          go_wp2_with fail
                          exact HRR.out _ HW.out
                        case hnp => rfl
                        case hv => first | exact ⟨_, fun _ => rfl⟩ | exact ⟨undef, fun _ => rfl⟩
                        apply obl_nil
                        intro D y w8 hall hW
                        have HB8 := Lib.hid (HBR.out.trans (hW.mono HBR.out.size))
                        clear hall hW
                        go_wp2_with fail
                        refine ⟨⟨t + 1, by push_cast; rfl, by omega, HB8.out⟩, ?_⟩
                        simp [intOf]; omega
                    · as_aux_lemma =>
                        obtain rfl : t = s.things.length := by omega
                        obtain ⟨b4, o4, rfl, hb4, hx4, hy4⟩ := T4.out.at' (i := k) (by rw [HPL.out]; exact hkl)
                        obtain ⟨b5, o5, rfl, hb5, hx5, hy5⟩ := T5.out.at' (i := k) (by rw [HPT.out]; exact hkl)
                        have hm := HTP.out k hkl
                        have HX4 : Hid (w7'.cell? ⟨b4, o4 + k * 2, none⟩ = some (.int .i64 (P1.getD k (0, 0)).1)) := hx4
                        have HY4 : Hid (w7'.cell? ⟨b4, o4 + k * 2 + 1, none⟩ = some (.int .i64 (P1.getD k (0, 0)).2)) := hy4
                        have HX5 : Hid (w7'.cell? ⟨b5, o5 + k * 2, none⟩ = some (.int .i64 (P2.getD k (0, 0)).1)) := hx5
                        have HY5 : Hid (w7'.cell? ⟨b5, o5 + k * 2 + 1, none⟩ = some (.int .i64 (P2.getD k (0, 0)).2)) := hy5
                        have HU4 := Lib.hid hb4
                        have HU5 := Lib.hid hb5
                        clear hx4 hy4 hx5 hy5 hb4 hb5
                        generalize P1.getD k (0, 0) = A at *
                        generalize P2.getD k (0, 0) = B' at *
                        obtain ⟨A1, A2⟩ := A
                        obtain ⟨B1, B2⟩ := B'
                        simp only at hm HX4 HY4 HX5 HY5
                        have Q1 : Hid (decide (B1 < A1) = false) := decide_eq_false (by omega)
                        have Q2 : Hid (decide (A2 < B2) = false) := decide_eq_false (by omega)
                        clear hm
                        go_wp2_with fail
                        clear hs0
                        refine wp_region_inv0 (by kernel_rfl) (by kernel_rfl) (fun D w' => Below wr.heap.size wr w') (Below.refl _ _).drew ?_
                        apply obl_det
                        case hrun =>
                          intro D y wz hW hD R hR
                          have HRR := Lib.hid hR
                          clear hR
                          have HW := Lib.hid hW
                          clear hW hD
                          go_wp2_with fail
                          exact HRR.out _ HW.out
                        case hnp => rfl
                        case hv => first | exact ⟨_, fun _ => rfl⟩ | exact ⟨undef, fun _ => rfl⟩
                        apply obl_det
                        case hrun =>
                          intro D y wz hW hD R hR
                          have HRR := Lib.hid hR
                          clear hR
                          have HW := Lib.hid hW
                          clear hW hD
                          go_wp2_with fail
                          exact HRR.out _ HW.out
                        case hnp => rfl
                        case hv => first | exact ⟨_, fun _ => rfl⟩ | exact ⟨undef, fun _ => rfl⟩
                        apply obl_det
                        case hrun =>
                          intro D y wz hW hD R hR
                          have HRR := Lib.hid hR
                          clear hR
                          have HW := Lib.hid hW
                          clear hW hD
                          go_wp2_with fail
                          exact HRR.out _ HW.out
                        case hnp => rfl
                        case hv => first | exact ⟨_, fun _ => rfl⟩ | exact ⟨undef, fun _ => rfl⟩
                        apply obl_det
                        case hrun =>
                          intro D y wz hW hD R hR
                          have HRR := Lib.hid hR
                          clear hR
                          have HW := Lib.hid hW
                          clear hW hD
                          go_wp2_with fail
                          exact HRR.out _ HW.out
                        case hnp => rfl
                        case hv => first | exact ⟨_, fun _ => rfl⟩ | exact ⟨undef, fun _ => rfl⟩
                        apply obl_det
                        case hrun =>
                          intro D y wz hW hD R hR
                          have HRR := Lib.hid hR
                          clear hR
                          have HW := Lib.hid hW
                          have HY := Lib.hid (HBR.out.trans (HW.out.mono HBR.out.size))
                          have h1 := (HY.out.cell (p := ⟨b5, o5 + k * 2, none⟩) HU5.out).trans HX5.out
                          clear hW hD
                          go_wp2_with fail
                          exact HRR.out _ HW.out
                        case hnp => rfl
                        case hv => first | exact ⟨_, fun _ => rfl⟩ | exact ⟨undef, fun _ => rfl⟩
                        apply obl_det
                        case hrun =>
                          intro D y wz hW hD R hR
                          have HRR := Lib.hid hR
                          clear hR
                          have HW := Lib.hid hW
                          clear hW hD
                          go_wp2_with fail
                          exact HRR.out _ HW.out
                        case hnp => rfl
                        case hv => first | exact ⟨_, fun _ => rfl⟩ | exact ⟨undef, fun _ => rfl⟩
                        apply obl_det
                        case hrun =>
                          intro D y wz hW hD R hR
                          have HRR := Lib.hid hR
                          clear hR
                          have HW := Lib.hid hW
                          clear hW hD
                          go_wp2_with fail
                          exact HRR.out _ HW.out
                        case hnp => rfl
                        case hv => first | exact ⟨_, fun _ => rfl⟩ | exact ⟨undef, fun _ => rfl⟩
                        apply obl_det
                        case hrun =>
                          intro D y wz hW hD R hR
                          have HRR := Lib.hid hR
                          clear hR
                          have HW := Lib.hid hW
                          clear hW hD
                          go_wp2_with fail
                          exact HRR.out _ HW.out
                        case hnp => rfl
                        case hv => first | exact ⟨_, fun _ => rfl⟩ | exact ⟨undef, fun _ => rfl⟩
                        apply obl_det
                        case hrun =>
                          intro D y wz hW hD R hR
                          have HRR := Lib.hid hR
                          clear hR
                          have HW := Lib.hid hW
                          clear hW hD
                          go_wp2_with fail
                          exact HRR.out _ HW.out
                        case hnp => rfl
                        case hv => first | exact ⟨_, fun _ => rfl⟩ | exact ⟨undef, fun _ => rfl⟩
                        apply obl_det
                        case hrun =>
                          intro D y wz hW hD R hR
                          have HRR := Lib.hid hR
                          clear hR
                          have HW := Lib.hid hW
                          have HY := Lib.hid (HBR.out.trans (HW.out.mono HBR.out.size))
                          have h1 := (HY.out.cell (p := ⟨b4, o4 + k * 2, none⟩) HU4.out).trans HX4.out
                          clear hW hD
                          go_wp2_with fail
                          exact HRR.out _ HW.out
                        case hnp => rfl
                        case hv => first | exact ⟨_, fun _ => rfl⟩ | exact ⟨undef, fun _ => rfl⟩
                        apply obl_det
                        case hrun =>
                          intro D y wz hW hD R hR
                          have HRR := Lib.hid hR
                          clear hR
                          have HW := Lib.hid hW
                          have h1 := Q1.out
                          clear hW hD
                          go_wp2_with fail
                          exact HRR.out _ HW.out
                        case hnp => rfl
                        case hv => first | exact ⟨_, fun _ => rfl⟩ | exact ⟨undef, fun _ => rfl⟩
                        apply obl_det
                        case hrun =>
                          intro D y wz hW hD R hR
                          have HRR := Lib.hid hR
                          clear hR
                          have HW := Lib.hid hW
                          clear hW hD
                          go_wp2_with fail
                          exact HRR.out _ HW.out
                        case hnp => rfl
                        case hv => first | exact ⟨_, fun _ => rfl⟩ | exact ⟨undef, fun _ => rfl⟩
                        apply obl_det
                        case hrun =>
                          intro D y wz hW hD R hR
                          have HRR := Lib.hid hR
                          clear hR
                          have HW := Lib.hid hW
                          clear hW hD
                          go_wp2_with fail
                          exact HRR.out _ HW.out
                        case hnp => rfl
                        case hv => first | exact ⟨_, fun _ => rfl⟩ | exact ⟨undef, fun _ => rfl⟩
                        apply obl_det
                        case hrun =>
                          intro D y wz hW hD R hR
                          have HRR := Lib.hid hR
                          clear hR
                          have HW := Lib.hid hW
                          clear hW hD
                          go_wp2_with fail
                          exact HRR.out _ HW.out
                        case hnp => rfl
                        case hv => first | exact ⟨_, fun _ => rfl⟩ | exact ⟨undef, fun _ => rfl⟩
                        apply obl_det
                        case hrun =>
                          intro D y wz hW hD R hR
                          have HRR := Lib.hid hR
                          clear hR
                          have HW := Lib.hid hW
                          clear hW hD
                          go_wp2_with fail
                          exact HRR.out _ HW.out
                        case hnp => rfl
                        case hv => first | exact ⟨_, fun _ => rfl⟩ | exact ⟨undef, fun _ => rfl⟩
                        apply obl_det
                        case hrun =>
                          intro D y wz hW hD R hR
                          have HRR := Lib.hid hR
                          clear hR
                          have HW := Lib.hid hW
                          clear hW hD
                          go_wp2_with fail
                          exact HRR.out _ HW.out
                        case hnp => rfl
                        case hv => first | exact ⟨_, fun _ => rfl⟩ | exact ⟨undef, fun _ => rfl⟩
                        apply obl_det
                        case hrun =>
                          intro D y wz hW hD R hR
                          have HRR := Lib.hid hR
                          clear hR
                          have HW := Lib.hid hW
                          have HY := Lib.hid (HBR.out.trans (HW.out.mono HBR.out.size))
                          have h1 := (HY.out.cell (p := ⟨b5, o5 + k * 2 + 1, none⟩) HU5.out).trans HY5.out
                          clear hW hD
                          go_wp2_with fail
                          exact HRR.out _ HW.out
                        case hnp => rfl
                        case hv => first | exact ⟨_, fun _ => rfl⟩ | exact ⟨undef, fun _ => rfl⟩
                        apply obl_det
                        case hrun =>
                          intro D y wz hW hD R hR
                          have HRR := Lib.hid hR
                          clear hR
                          have HW := Lib.hid hW
                          clear hW hD
                          go_wp2_with fail
                          exact HRR.out _ HW.out
                        case hnp => rfl
                        case hv => first | exact ⟨_, fun _ => rfl⟩ | exact ⟨undef, fun _ => rfl⟩
                        apply obl_det
                        case hrun =>
                          intro D y wz hW hD R hR
                          have HRR := Lib.hid hR
                          clear hR
                          have HW := Lib.hid hW
                          clear hW hD
                          go_wp2_with fail
                          exact HRR.out _ HW.out
                        case hnp => rfl
                        case hv => first | exact ⟨_, fun _ => rfl⟩ | exact ⟨undef, fun _ => rfl⟩
                        apply obl_det
                        case hrun =>
                          intro D y wz hW hD R hR
                          have HRR := Lib.hid hR
                          clear hR
                          have HW := Lib.hid hW
                          clear hW hD
                          go_wp2_with fail
                          exact HRR.out _ HW.out
                        case hnp => rfl
                        case hv => first | exact ⟨_, fun _ => rfl⟩ | exact ⟨undef, fun _ => rfl⟩
                        apply obl_det
                        case hrun =>
                          intro D y wz hW hD R hR
                          have HRR := Lib.hid hR
                          clear hR
                          have HW := Lib.hid hW
                          clear hW hD
                          go_wp2_with fail
                          exact HRR.out _ HW.out
                        case hnp => rfl
                        case hv => first | exact ⟨_, fun _ => rfl⟩ | exact ⟨undef, fun _ => rfl⟩
                        apply obl_det
                        case hrun =>
                          intro D y wz hW hD R hR
                          have HRR := Lib.hid hR
                          clear hR
                          have HW := Lib.hid hW
                          have HY := Lib.hid (HBR.out.trans (HW.out.mono HBR.out.size))
                          have h1 := (HY.out.cell (p := ⟨b4, o4 + k * 2 + 1, none⟩) HU4.out).trans HY4.out
                          clear hW hD
                          go_wp2_with fail
                          exact HRR.out _ HW.out
                        case hnp => rfl
                        case hv => first | exact ⟨_, fun _ => rfl⟩ | exact ⟨undef, fun _ => rfl⟩
                        apply obl_det
                        case hrun =>
                          intro D y wz hW hD R hR
                          have HRR := Lib.hid hR
                          clear hR
                          have HW := Lib.hid hW
                          have h1 := Q2.out
                          clear hW hD
                          go_wp2_with fail
                          exact HRR.out _ HW.out
                        case hnp => rfl
                        case hv => first | exact ⟨_, fun _ => rfl⟩ | exact ⟨undef, fun _ => rfl⟩
                        apply obl_det
                        case hrun =>
                          intro D y wz hW hD R hR
                          have HRR := Lib.hid hR
                          clear hR
                          have HW := Lib.hid hW
                          clear hW hD
                          go_wp2_with fail
                          exact HRR.out _ HW.out
                        case hnp => rfl
                        case hv => first | exact ⟨_, fun _ => rfl⟩ | exact ⟨undef, fun _ => rfl⟩
                        apply obl_nil
                        intro D y w8 hall hW
                        have HB9 := Lib.hid (HBR.out.trans (hW.mono HBR.out.size))
                        clear hall hW
                        go_wp2_with fail
                        refine ⟨⟨k + 1, by push_cast; rfl, by omega, HB9.out⟩, ?_⟩
                        simp [intOf]; omega
              · obtain rfl : k = l.length := by omega
                go_wp2_with fail
                refine (awake_any _).mono ?_
                rintro e w14 ⟨rfl, hb⟩
                have CX := Lib.hid ((CX0.out.call HBK.out).call hb)
                clear hb CX0 HBK
                go_wp2_with fail
                go_ret
                exact ⟨rfl, CX.out.bel⟩
theorem turns_of2 {x : List Int} (h : ∀ y ∈ x, 0 ≤ y ∧ y ≤ 4294967295) : Turns x := ⟨fun i => by
  by_cases hi : i < x.length
  · rw [List.getD_eq_getElem?_getD, List.getElem?_eq_getElem hi]
    exact h _ (List.getElem_mem hi)
  · rw [List.getD_eq_getElem?_getD, List.getElem?_eq_none (by omega)]
    exact ⟨Int.le_refl _, by decide⟩⟩
end Go.Proofs.Ytaigbhhmmdfdcaa
