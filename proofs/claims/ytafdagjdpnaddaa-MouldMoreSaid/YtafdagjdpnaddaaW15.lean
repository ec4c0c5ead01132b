/- mould.Cool. -/
import Derived.Test.YtafdagjdpnaddaaW8
import Derived.Test.YtafdagjdpnaddaaW3
import Derived.Laws.CopyOwn
namespace Go.Proofs.Ytafdagjdpnaddaa
open Go.RowKit
def RetLE (l : List Int) (er : Int) (w : World) (e : Ending) (w' : World) : Prop := ∃ v, e = .returned (.tuple #[v, .int .i64 er]) ∧ OwnInts w.heap.size w' v l ∧ Below w.heap.size w w'
theorem fits_within {l : List Int} {a b : Int} (h : l.all (fun x => within x a b) = true) : Fits2 a b l := by
  intro i hi
  have := List.all_eq_true.1 h (l.getD i 0) (by rw [List.getD_eq_getElem?_getD, List.getElem?_eq_getElem hi]; exact List.getElem_mem hi)
  exact within_iff.1 this
theorem Fits2.wide {a b c d : Int} {l : List Int} (h : Fits2 a b l) (h1 : c ≤ a) (h2 : b ≤ d) : Fits2 c d l := fun i hi => by have := h i hi; omega
theorem Fits2.take {a b : Int} {l : List Int} (h : Fits2 a b l) (k : Nat) : Fits2 a b (l.take k) := fun i hi => by
  simp only [List.length_take] at hi
  have := h i (by omega)
  rw [List.getD_eq_getElem?_getD] at this ⊢
  rw [List.getElem?_take, if_pos (by omega)]
  exact this
theorem splice_pad {p : List Int} : splice ((List.replicate 8 0).map (Value.int .i64)) 0 (p.map (Value.int .i64)) = (pad p).map (Value.int .i64) := by
  unfold splice pad
  rw [List.take_zero, List.nil_append, List.length_map, Nat.zero_add, List.map_append, ← List.map_drop, List.drop_replicate]
theorem wpList_copy_bs {P : Program} {w0 w : World} {ops : Array Oper} {rest : List Oper} {o : Oper} {a : Act} {Q : Exit → Act → World → Prop} {l : List (Nat × Obj)} (hgd : o.guard = none) (d s : Operand) (dT sT : TypeId)
    (ho : o.op = .call { callee := .builtin .copy, args := #[d, s], argTypes := #[dT, sT] }) (elem : TypeId) (hu : P.underlying dT = some (.slice elem)) (hsz : (P.info? elem).map (·.size) = some 1)
    (H : Bs w0 l w) (i g off dLen dCap : Nat) (ad : Addr) (sLen sCap : Nat) (hd : a.eval d = .slice (some ⟨g, off, none⟩) dLen dCap) (hs : a.eval s = .slice (some ad) sLen sCap) (cur : List Value) (t : TypeId) (hi : l[i]? = some (g, .cells cur.toArray t))
    (cs : List Value) (hn : cs.length = Nat.min sLen dLen) (hsrc : ∀ j v, cs[j]? = some v → w.cell? (ad.add j) = some v) (hfit : off + cs.length ≤ cur.length) (h1 : ∀ v ∈ cs, v.oneCell' = true)
    (h : ∀ w', Bs w0 (l.set i (g, .cells (splice cur off cs).toArray t)) w' → wpList P ops Q rest (a.put o.dst (goInt cs.length)) w') : wpList P ops Q (o :: rest) a w := by
  refine wpList_copy_own hgd d s dT sT ho elem hu hsz g off dLen dCap ad sLen sCap hd hs cur.toArray t (H.get i hi) cs hn hsrc (by simpa using hfit) h1 (h _ ?_)
  have := H.setRow i hi (splice cur off cs).toArray
  simpa [splice] using this
theorem info28 : (Try.prog.info? 28).map (·.size) = some 2 := by kernel_rfl
theorem info85 : (Try.prog.info? 85).map (·.size) = some 12 := by kernel_rfl
set_option maxRecDepth 100000 in
set_option maxHeartbeats 8000000 in
theorem cool_any (m : Mou) (pv wv : Value) (p ws : List Int) (w : World) (hp : IntsIn .i64 w.heap.size w pv p) (hw : IntsIn .i64 w.heap.size w wv ws) :
    Calls Try.prog 20 #[.agg #[.int .i64 m.rings, .int .i64 m.give, .int .i64 m.pl, .int .i64 m.ph, .int .i64 m.wl, .int .i64 m.wh, .int .i64 m.set, .int .i64 m.shrink, .int .i64 m.skin, .int .i64 m.fill, .int .i64 m.gap, .int .i64 m.deep], .agg #[pv, wv]] w (RetLE (coolV m p ws).1 (coolV m p ws).2 w) := by
  have HP := Lib.hid hp
  have HW := Lib.hid hw
  obtain ⟨ap, cp, rfl, hpl, -⟩ := hp
  obtain ⟨aw, cw, rfl, hwl, -⟩ := hw
  obtain ⟨pn, hpn⟩ : ∃ n, p.length = n := ⟨_, rfl⟩
  obtain ⟨wn, hwn⟩ : ∃ n, ws.length = n := ⟨_, rfl⟩
  have HPN := Lib.hid hpn
  have HWN := Lib.hid hwn
  rw [hpn] at HP hpl ⊢
  rw [hwn] at HW hwl ⊢
  obtain ⟨E, hE⟩ : ∃ E, checkE m = E := ⟨_, rfl⟩
  have HE := Lib.hid hE
  obtain ⟨r1, hr1⟩ : ∃ r, outB m.pl m.ph p = r := ⟨_, rfl⟩
  obtain ⟨r2, hr2⟩ : ∃ r, outB m.wl m.wh ws = r := ⟨_, rfl⟩
  have HR1 := Lib.hid hr1
  have HR2 := Lib.hid hr2
  obtain ⟨res, hres⟩ : ∃ res, coolV m p ws = res := ⟨_, rfl⟩
  have HRES : Hid (res = if E ≠ 0 then ([], E) else if (pn : Int) ≠ m.rings ∨ 600 < wn then ([], 3) else if r1 = true ∨ r2 = true then ([], 7) else (runL m.give p ws, 0)) := by
    unfold Hid
    rw [← hres, ← hE, ← hpn, ← hwn, ← hr1, ← hr2]
    unfold coolV truthE
    rw [out_none, out_none]
    by_cases e1 : checkE m ≠ 0
    · rw [if_pos e1, if_pos e1]
    · rw [if_neg e1, if_neg e1]
      by_cases e2 : (p.length : Int) ≠ m.rings ∨ 600 < ws.length
      · simp only [if_pos e2]; rfl
      · simp only [if_neg e2]
        by_cases e3 : (p.all fun x => within x m.pl m.ph) = false ∨ (ws.all fun x => within x m.wl m.wh) = false
        · rw [if_pos e3, if_pos (by simp), if_pos (by simpa using e3)]
        · rw [if_neg e3, if_neg (by simp), if_neg (by simpa using e3)]
  rw [hres]
  clear hpn hwn hE hr1 hr2 hres
  have C0 := Lib.hid (((Bs.nil w).push _ rfl (.cells #[.int .i64 m.rings, .int .i64 m.give, .int .i64 m.pl, .int .i64 m.ph, .int .i64 m.wl, .int .i64 m.wh, .int .i64 m.set, .int .i64 m.shrink, .int .i64 m.skin, .int .i64 m.fill, .int .i64 m.gap, .int .i64 m.deep] 25)).push (w.heap.size + 1) (by simp) (.cells #[.slice ap pn cp, .slice aw wn cw] 28))
  go_enter Try.func20, Try.ntmps20
  go_wp2_with fail
  refine (check_any m _).mono ?_
  rintro e w1 ⟨rfl, hbw⟩
  have C1 := Lib.hid (C0.out.call hbw)
  have c0 := C1.out.cell 0 rfl
  have c1 := C1.out.cell 1 rfl
  clear hbw C0
  rw [HE.out]
  have hw1 := C1.out.bel.size
  have hws1 : w.heap.size < w1.heap.size := C1.out.lt 0 rfl
  have hws2 : w.heap.size + 1 < w1.heap.size := C1.out.lt 1 rfl
  by_cases h0 : E = 0
  rotate_left
  · have hz : (E != 0) = true := by simpa using h0
    have HX : Hid (res = ([], E)) := by unfold Hid; rw [HRES.out, if_pos h0]
    clear h0 HRES
    go_wp2_with fail
    go_ret2
    rw [HX.out]
    exact ⟨_, rfl, OwnInts.nil _ _, C1.out.bel⟩
  subst h0
  have HX0 : Hid (res = if (pn : Int) ≠ m.rings ∨ 600 < wn then ([], 3) else if r1 = true ∨ r2 = true then ([], 7) else (runL m.give p ws, 0)) := by unfold Hid; rw [HRES.out, if_neg (by simp)]
  clear HRES
  have HV := Lib.hid (valid_of_check HE.out)
  by_cases hl1 : (pn : Int) = m.rings
  rotate_left
  · have hz : ((pn : Int) != m.rings) = true := by simpa using hl1
    have HX : Hid (res = ([], 3)) := by unfold Hid; rw [HX0.out, if_pos (.inl hl1)]
    clear hl1 HX0
    go_wp2_with fail
    go_ret2
    rw [HX.out]
    exact ⟨_, rfl, OwnInts.nil _ _, C1.out.bel.alloc (by have := C1.out.bel.size; omega) _⟩
  have hz1 : ((pn : Int) != m.rings) = false := by simp [hl1]
  have HL1 := Lib.hid hl1
  by_cases hl2 : 600 < wn
  · have hz : decide ((600 : Int) < (wn : Int)) = true := decide_eq_true (by omega)
    have hz' : decide (600 < wn) = true := decide_eq_true hl2
    have HX : Hid (res = ([], 3)) := by unfold Hid; rw [HX0.out, if_pos (.inr hl2)]
    clear hl1 HX0 hl2
    go_wp2_with fail
    go_ret2
    rw [HX.out]
    exact ⟨_, rfl, OwnInts.nil _ _, C1.out.bel.alloc (by have := C1.out.bel.size; omega) _⟩
  have hz2 : decide ((600 : Int) < (wn : Int)) = false := decide_eq_false (by omega)
  have hz2' : decide (600 < wn) = false := decide_eq_false hl2
  have HX1 : Hid (res = if r1 = true ∨ r2 = true then ([], 7) else (runL m.give p ws, 0)) := by unfold Hid; rw [HX0.out, if_neg (by omega)]
  have hwn600 : wn ≤ 600 := by omega
  clear HX0 hl2 hl1
  have C2 := Lib.hid (C1.out.push w1.heap.size rfl (.cells #[.int .i64 m.rings, .int .i64 m.give, .int .i64 m.pl, .int .i64 m.ph, .int .i64 m.wl, .int .i64 m.wh, .int .i64 m.set, .int .i64 m.shrink, .int .i64 m.skin, .int .i64 m.fill, .int .i64 m.gap, .int .i64 m.deep] 85))
  go_wp2_with fail
  refine (out_r r1 m.pl m.ph p HR1.out _ _ ((HP.out.below C2.out.bel).mono C2.out.bel.size)).mono ?_
  rintro e w2 ⟨rfl, hbw⟩
  have C3 := Lib.hid (C2.out.call hbw)
  clear hbw C2 C1 c0 c1
  have c1 := C3.out.cell 1 rfl
  have c2 := C3.out.cell 2 rfl
  cases r1
  rotate_left
  · have HX : Hid (res = ([], 7)) := by unfold Hid; rw [HX1.out, if_pos (.inl rfl)]
    clear HX1
    go_wp2_with fail
    go_ret2
    rw [HX.out]
    exact ⟨_, rfl, OwnInts.nil _ _, C3.out.bel⟩
  go_wp2_with fail
  refine (out_r r2 m.wl m.wh ws HR2.out _ _ ((HW.out.below C3.out.bel).mono C3.out.bel.size)).mono ?_
  rintro e w3 ⟨rfl, hbw⟩
  have C4 := Lib.hid (C3.out.call hbw)
  clear hbw C3 c1 c2
  cases r2
  rotate_left
  · have HX : Hid (res = ([], 7)) := by unfold Hid; rw [HX1.out, if_pos (.inr rfl)]
    clear HX1
    go_wp2_with fail
    go_ret2
    rw [HX.out]
    exact ⟨_, rfl, OwnInts.nil _ _, C4.out.bel⟩
  have HX : Hid (res = (runL m.give p ws, 0)) := by unfold Hid; rw [HX1.out, if_neg (by simp)]
  clear HX1
  have HFP : Hid (Fits2 0 2000 p) := (fits_within (by have := HR1.out; rw [out_none] at this; simpa using this)).wide HV.out.p0 HV.out.p2
  have HFW : Hid (Fits2 0 2000 ws) := (fits_within (by have := HR2.out; rw [out_none] at this; simpa using this)).wide HV.out.w0 HV.out.w2
  have hpn8 : pn ≤ 8 := by have := HL1.out; have := HV.out.r8; omega
  have hpn1 : 1 ≤ pn := by have := HL1.out; have := HV.out.r1; omega
  obtain ⟨_, _, hva, -, hcc⟩ := HP.out
  simp only [Value.slice.injEq] at hva
  obtain ⟨rfl, -, rfl⟩ := hva
  obtain ⟨b, off, rfl, hbb, hcell⟩ := hcc.resolve_left (by intro h; have := HPN.out; rw [h] at this; simp at this; omega)
  have HCELL := Lib.hid hcell
  clear hcell hcc
  have C5 := Lib.hid (C4.out.push w3.heap.size rfl (.cells (ints (List.replicate 8 0)) 87))
  have hws3 : w.heap.size + 1 < w3.heap.size := C4.out.lt 1 rfl
  have c1 := C4.out.cell 1 rfl
  clear C4
  go_wp2_with fail
  refine wp_region_inv0 (by kernel_rfl) (by kernel_rfl) (fun D w' => Bs w ([] ++ [(w.heap.size, .cells #[.int .i64 m.rings, .int .i64 m.give, .int .i64 m.pl, .int .i64 m.ph, .int .i64 m.wl, .int .i64 m.wh, .int .i64 m.set, .int .i64 m.shrink, .int .i64 m.skin, .int .i64 m.fill, .int .i64 m.gap, .int .i64 m.deep] 25)] ++ [(w.heap.size + 1, .cells #[.slice (some ⟨b, off, none⟩) pn cp, .slice aw wn cw] 28)] ++ [(w1.heap.size, .cells #[.int .i64 m.rings, .int .i64 m.give, .int .i64 m.pl, .int .i64 m.ph, .int .i64 m.wl, .int .i64 m.wh, .int .i64 m.set, .int .i64 m.shrink, .int .i64 m.skin, .int .i64 m.fill, .int .i64 m.gap, .int .i64 m.deep] 85)] ++ [(w3.heap.size, .cells (if D 3 = true then ints (pad p) else ints (List.replicate 8 0)) 87)]) w') C5.out.drew ?_
  iterate 3
    (apply obl_det
     case hrun =>
       intro D y wz hW hD R hR
       have HRR := Lib.hid hR
       clear hR
       have HW := Lib.hid hW
       have c1 := hW.cell 1 rfl
       have HW0 := Lib.hid hW
       clear hW hD
       go_wp2
       exact HRR.out _ HW.out
     case hnp => rfl
     case hv => first | exact ⟨_, fun _ => rfl⟩ | exact ⟨undef, fun _ => rfl⟩)
  apply obl_det
  case hrun =>
    intro D y wz hW hD R hR
    have HRR := Lib.hid hR
    clear hR
    have HW := Lib.hid hW
    have hd : D 3 = false := hD.not
    have HW0 := Lib.hid hW
    clear hW hD
    have hmap : (p.map (Value.int .i64)).length = pn := by rw [List.length_map, HPN.out]
    have HMAP := Lib.hid hmap
    refine wpList_copy_bs rfl (.tmp 57) (.tmp 59) 26 26 rfl 3 Try.underlying26 info3 HW0.out 3 w3.heap.size 0 8 8 ⟨b, off, none⟩ pn cp rfl rfl ((List.replicate 8 0).map (Value.int .i64)) 87 (by rw [hd, if_neg (by simp)]; rfl) (p.map (Value.int .i64)) (by rw [HMAP.out]; exact (Nat.min_eq_left hpn8).symm) ?hsrc (by rw [HMAP.out]; simp; omega) (fun u hu => by obtain ⟨z, -, rfl⟩ := List.mem_map.1 hu; rfl) ?_
    case hsrc =>
      intro j u hj
      have hjn : j < pn := by rw [← HMAP.out]; exact (List.getElem?_eq_some_iff.1 hj).1
      rw [addr_add2, ← hj, List.getElem?_map, (HW0.out.bel.cell (p := ⟨b, off + j, none⟩) hbb).trans (HCELL.out j (by rw [HPN.out]; exact hjn)), List.getD_eq_getElem?_getD, List.getElem?_eq_getElem (by rw [HPN.out]; exact hjn)]
      rfl
    intro w9 hH
    rw [splice_pad] at hH
    have HS := Lib.hid hH
    clear hH
    rw [HMAP.out]
    go_wp2
    exact HRR.out _ HS.out
  case hnp => rfl
  case hv => first | exact ⟨_, fun _ => rfl⟩ | exact ⟨undef, fun _ => rfl⟩
  apply obl_nil
  intro D y w8 hall hW
  have h3 : D 3 = true := hall 3 (by decide)
  rw [h3, if_pos rfl] at hW
  have C6 := Lib.hid hW
  clear hW hall h3 D y C5 c1
  have c1 := C6.out.cell 1 rfl
  go_wp2_with fail
  clear c1
  go_loopw [64] (fun i wr => ∃ k : Nat, k ≤ wn ∧ i = .int .i64 k ∧ Bs w ([] ++ [(w.heap.size, .cells #[.int .i64 m.rings, .int .i64 m.give, .int .i64 m.pl, .int .i64 m.ph, .int .i64 m.wl, .int .i64 m.wh, .int .i64 m.set, .int .i64 m.shrink, .int .i64 m.skin, .int .i64 m.fill, .int .i64 m.gap, .int .i64 m.deep] 25)] ++ [(w.heap.size + 1, .cells #[.slice (some ⟨b, off, none⟩) pn cp, .slice aw wn cw] 28)] ++ [(w1.heap.size, .cells #[.int .i64 m.rings, .int .i64 m.give, .int .i64 m.pl, .int .i64 m.ph, .int .i64 m.wl, .int .i64 m.wh, .int .i64 m.set, .int .i64 m.shrink, .int .i64 m.skin, .int .i64 m.fill, .int .i64 m.gap, .int .i64 m.deep] 85)] ++ [(w3.heap.size, .cells (ints (pad (runL m.give p (ws.take k)))) 87)]) wr) (fun i _ => wn - (intOf i).toNat)
  case atStart => exact ⟨0, by omega, rfl, C6.out⟩
  case round =>
    obtain ⟨k, hk, rfl, hC⟩ := hrel
    have C7 := Lib.hid hC
    have c2 := hC.cell 2 rfl
    clear hC
    have hlr : (runL m.give p (ws.take k)).length = pn := by rw [runL_length, HPN.out]
    have hp8 : (pad (runL m.give p (ws.take k))).length = 8 := pad_length (by rw [hlr]; exact hpn8)
    have HLR := Lib.hid hlr
    have HP8 := Lib.hid hp8
    clear hlr hp8
    by_cases hlt : k < wn
    · obtain ⟨wk, hwk⟩ : ∃ x, ws.getD k 0 = x := ⟨_, rfl⟩
      have hkw : k < ws.length := by rw [HWN.out]; exact hlt
      have HRT := Lib.hid (runL_take m.give p ws k hkw)
      have hwb := HFW.out k hkw
      rw [hwk] at HRT hwb
      obtain ⟨_, _, hva, -, hcc⟩ := HW.out.below C7.out.bel
      simp only [Value.slice.injEq] at hva
      obtain ⟨rfl, -, rfl⟩ := hva
      obtain ⟨b2, off2, rfl, hbb2, hcell2⟩ := hcc.resolve_left (by intro h; rw [h] at hkw; simp at hkw)
      have ck := hcell2 k hkw
      rw [hwk] at ck
      have hki : (k : Int) < (wn : Int) := by omega
      have HLT := Lib.hid hlt
      have HFR : Hid (Fits2 0 2000 (runL m.give p (ws.take k))) := runL_fits (by have := HV.out.g1; omega) HV.out.g5 _ _ HFP.out (HFW.out.take k)
      clear hcell2 hcc hwk hkw
      have hc := fun w => next_any m HV.out.g1 HV.out.g5 (runL m.give p (ws.take k)) (by rw [HLR.out]; exact HL1.out) (by rw [HLR.out]; exact hpn1) (by rw [HLR.out]; exact hpn8) HFR.out wk hwb w
      rw [← HRT.out] at hc
      have HCC := Lib.hid hc
      clear hc hwb
      have hp9 : (pad (runL m.give p (ws.take (k + 1)))).length = 8 := pad_length (by rw [runL_length, HPN.out]; exact hpn8)
      have HP9 := Lib.hid hp9
      clear hp9
      go_wp2_with (first | refine wpList_load_bs rfl 87 _ rfl C7.out 3 _ _ _ rfl rfl _ Try.underlying87 rfl (by rw [ints_size, HP8.out]; exact info87) ?_ | (go_at_call 51; refine (HCC.out _).mono ?_; rintro e w' ⟨rfl, hbw⟩; have C8 := Lib.hid (C7.out.call hbw); clear hbw) | (refine wpList_store_bs rfl 87 _ _ rfl C8.out 3 _ _ _ _ rfl rfl rfl (by rw [ints_size, HP9.out]; exact info87) (by rw [ints_size, ints_size, HP8.out, HP9.out]) (ints_oneCell _) ?_; intro w9 hC9; have C9 := Lib.hid hC9; clear hC9))
      go_roundw
      case rel => exact ⟨k + 1, HLT.out, by go_num, C9.out⟩
      case measure => have := HLT.out; simp [intOf]; omega
    · obtain rfl : k = wn := by omega
      have HT : Hid (runL m.give p (ws.take k) = runL m.give p ws) := by unfold Hid; rw [List.take_of_length_le (by rw [HWN.out]; exact Nat.le_refl _)]
      rw [HT.out] at C7 HLR HP8
      have hmr : m.rings = (pn : Int) := HL1.out.symm
      have hpi8 : (pn : Int) ≤ 8 := by omega
      have hc := fun w hb hcell => clone_any (runL m.give p ws) (by rw [HLR.out]; omega) w3.heap.size 0 8 w hb hcell
      rw [HLR.out] at hc
      have hcw := hc wr (C7.out.lt 3 rfl) (fun i hi => by rw [C7.out.cell 3 rfl, Nat.zero_add, ints_get _ _ (by rw [HP8.out]; omega), pad_at (by rw [HLR.out]; exact hi)])
      have HCW := Lib.hid hcw
      clear hc hcw hk hlt
      go_wp2_with fail
      refine HCW.out.mono ?_
      rintro e w9 ⟨v, rfl, hown, hbw⟩
      have HOW := Lib.hid hown
      have HBW := Lib.hid hbw
      clear hown hbw
      go_wp2_with fail
      go_ret2
      rw [HX.out]
      exact ⟨v, rfl, HOW.out.mono C7.out.bel.size, C7.out.bel.trans (HBW.out.mono C7.out.bel.size)⟩
end Go.Proofs.Ytafdagjdpnaddaa
