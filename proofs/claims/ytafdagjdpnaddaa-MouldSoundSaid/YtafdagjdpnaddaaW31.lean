/- stearinlaw05.Truth. -/
import Derived.Test.YtafdagjdpnaddaaW30
import Derived.Test.YtafdagjdpnaddaaW29
namespace Go.Proofs.Ytafdagjdpnaddaa
open Go.RowKit
def mapTo (f : Nat → Int) (k : Nat) : List Int := (List.range k).map f
theorem mapTo_len (f : Nat → Int) (k : Nat) : (mapTo f k).length = k := by simp [mapTo]
theorem mapTo_succ (f : Nat → Int) (k : Nat) : mapTo f (k + 1) = mapTo f k ++ [f k] := by simp [mapTo, List.range_succ]
theorem mapTo_getD (f : Nat → Int) {k i : Nat} (h : i < k) : (mapTo f k).getD i 0 = f i := by simp [mapTo, List.getD, h]
def truthPl (m : Mou) (r : Nat) (yl : List Int) : List Int := mapTo (fun i => amongV m.pl m.ph (turnV yl i)) r
def truthWl (m : Mou) (n : Nat) (zl : List Int) : List Int := mapTo (fun i => amongV m.wl m.wh (turnV zl i)) n
/-- Amid a round that appends to a field of a block. -/
structure TrW (w : World) (l : List (Nat × Obj)) (l' : Value → List (Nat × Obj)) (W : World) (bs g k : Nat) (v : Value) (xs : List Value) (x : Value) (d9 d10 d12 : Bool) (yb ya : Value) (w' : World) : Prop where
  bs1 : d12 = false → Bs w l w'
  bs2 : d12 = true → Bs w (l' ya) w'
  own : d10 = false → w'.ownsRow bs 3 1 v k xs
  src : d9 = true → d10 = false → ∃ b, yb = .slice (some ⟨b, 0, none⟩) 1 1 ∧ w'.heap[b]? = some (.cells [x].toArray 3)
  new : d10 = true → w'.ownsRow bs 3 1 ya (k + 1) (xs ++ [x])
  kb : KB bs g W w'
  hs : bs ≤ w'.heap.size
section
variable {w : World} {l : List (Nat × Obj)} {l' : Value → List (Nat × Obj)} {W : World} {bs g k : Nat} {v : Value} {xs : List Value} {x : Value} {d9 d10 d12 : Bool} {yb ya : Value} {w' w'' : World}
theorem TrW.next (h : TrW w l l' W bs g k v xs x d9 d10 d12 yb ya w') (hb : Below w'.heap.size w' w'') : TrW w l l' W bs g k v xs x d9 d10 d12 yb ya w'' :=
  ⟨fun e => (h.bs1 e).call hb, fun e => (h.bs2 e).call hb, fun e => ownsRow.below (h.own e) hb, fun e1 e2 => by obtain ⟨b, h1, h2⟩ := h.src e1 e2; exact ⟨b, h1, block_keep h2 hb⟩, fun e => ownsRow.below (h.new e) hb,
    fun b h1 h2 => (hb.block b (Nat.lt_of_lt_of_le h1 h.hs)).trans (h.kb b h1 h2), Nat.le_trans h.hs hb.size⟩
theorem TrW.laid (h : TrW w l l' W bs g k v xs x d9 d10 d12 yb ya w') (_hd : d10 = false) {b : Nat} (hb : w'.heap[b]? = some (.cells [x].toArray 3)) : TrW w l l' W bs g k v xs x true d10 d12 (.slice (some ⟨b, 0, none⟩) 1 1) ya w' :=
  ⟨h.bs1, h.bs2, h.own, fun _ _ => ⟨b, rfl, hb⟩, h.new, h.kb, h.hs⟩
theorem TrW.got (h : TrW w l l' W bs g k v xs x d9 d10 d12 yb ya w') (hd : d12 = false) (hb : Below bs w' w'') (hl : ∀ p ∈ l, p.1 < bs) (h0 : w.heap.size ≤ bs) {v' : Value} (hn : w''.ownsRow bs 3 1 v' (k + 1) (xs ++ [x])) : TrW w l l' W bs g k v xs x d9 true d12 yb v' w'' :=
  ⟨fun e => (h.bs1 e).app hb hl h0, fun e => (by rw [hd] at e; cases e), fun e => (by cases e), fun _ e => (by cases e), fun _ => hn, fun b h1 h2 => (hb.block b h1).trans (h.kb b h1 h2), Nat.le_trans h.hs hb.size⟩
theorem TrW.put (h : TrW w l l' W bs g k v xs x d9 d10 d12 yb ya w') (hd : d10 = true) (_hd2 : d12 = false) (hg : g < bs) (_h0 : w.heap.size ≤ bs) (hB : Bs w (l' ya) w'') (hk : ∀ k, k ≠ g → w''.heap[k]? = w'.heap[k]?) (hsz : w''.heap.size = w'.heap.size) : TrW w l l' W bs g k v xs x d9 d10 true yb ya w'' :=
  ⟨fun e => (by cases e), fun _ => hB, fun e => (by rw [hd] at e; cases e), fun _ e => (by rw [hd] at e; cases e), fun e => ownsRow.other (h.new e) hg hk, fun b h1 h2 => (hk b h2).trans (h.kb b h1 h2), by rw [hsz]; exact h.hs⟩
end
set_option maxRecDepth 100000 in
set_option maxHeartbeats 16000000 in
theorem truth_any (m : Mou) (hm : Valid m) (N : Nat) (hN : N ≤ 600) (yv zv : Value) (yl zl : List Int) (w : World) (hy : IntsIn .u16 w.heap.size w yv yl) (hz : IntsIn .u16 w.heap.size w zv zl) (hyr : ∀ x ∈ yl, 0 ≤ x ∧ x ≤ 65535) (hzr : ∀ x ∈ zl, 0 ≤ x ∧ x ≤ 65535) :
    Calls Try.prog 38 #[.agg #[.int .i64 m.rings, .int .i64 m.give, .int .i64 m.pl, .int .i64 m.ph, .int .i64 m.wl, .int .i64 m.wh, .int .i64 m.set, .int .i64 m.shrink, .int .i64 m.skin, .int .i64 m.fill, .int .i64 m.gap, .int .i64 m.deep], .int .i64 N, .agg #[yv, zv]] w (RetT (truthPl m m.rings.toNat yl) (truthWl m N zl) w) := by
  have HY := Lib.hid hy
  have HZ := Lib.hid hz
  have HYR := Lib.hid hyr
  have HZR := Lib.hid hzr
  obtain ⟨ya, yc, rfl, -, -⟩ := hy
  obtain ⟨za, zc, rfl, -, -⟩ := hz
  obtain ⟨yn, hyn⟩ : ∃ n, yl.length = n := ⟨_, rfl⟩
  obtain ⟨zn, hzn⟩ : ∃ n, zl.length = n := ⟨_, rfl⟩
  rw [hyn] at HY ⊢
  rw [hzn] at HZ ⊢
  clear hyn hzn hyr hzr
  have C0 := Lib.hid ((((Bs.nil w).push _ rfl (.cells #[.int .i64 m.rings, .int .i64 m.give, .int .i64 m.pl, .int .i64 m.ph, .int .i64 m.wl, .int .i64 m.wh, .int .i64 m.set, .int .i64 m.shrink, .int .i64 m.skin, .int .i64 m.fill, .int .i64 m.gap, .int .i64 m.deep] 25)).push (w.heap.size + 1) (by simp) (.cells #[.slice ya yn yc, .slice za zn zc] 58)).push (w.heap.size + 1 + 1) (by simp) (.cells #[.slice none 0 0, .slice none 0 0] 28))
  obtain ⟨r, hr⟩ : ∃ r : Nat, m.rings = r := ⟨m.rings.toNat, by have := hm.r1; omega⟩
  have hr8 : r ≤ 8 := by have := hm.r8; omega
  have hr1 : 1 ≤ r := by have := hm.r1; omega
  have HR := Lib.hid hr
  have HRN : Hid (m.rings.toNat = r) := by unfold Hid; rw [hr, Int.toNat_natCast]
  have HM := Lib.hid hm
  clear hr hm
  obtain ⟨i0, hi0, hz0, hz1, hz2⟩ := info3'
  have CB : Hid (Bs w [(w.heap.size, .cells #[.int .i64 m.rings, .int .i64 m.give, .int .i64 m.pl, .int .i64 m.ph, .int .i64 m.wl, .int .i64 m.wh, .int .i64 m.set, .int .i64 m.shrink, .int .i64 m.skin, .int .i64 m.fill, .int .i64 m.gap, .int .i64 m.deep] 25), (w.heap.size + 1, .cells #[.slice ya yn yc, .slice za zn zc] 58), (w.heap.size + 1 + 1, .cells #[.slice none 0 0, .slice none 0 0] 28), (w.heap.size + 1 + 1 + 1, .cells #[.slice none 0 0, .slice none 0 0] 28)] _) := C0.out.push (w.heap.size + 1 + 1 + 1) (by simp) (.cells #[.slice none 0 0, .slice none 0 0] 28)
  have HB4 : Hid (w.heap.size + 1 + 1 + 1 + 1 ≤ ((((w.alloc (.cells #[.int .i64 m.rings, .int .i64 m.give, .int .i64 m.pl, .int .i64 m.ph, .int .i64 m.wl, .int .i64 m.wh, .int .i64 m.set, .int .i64 m.shrink, .int .i64 m.skin, .int .i64 m.fill, .int .i64 m.gap, .int .i64 m.deep] 25)).alloc (.cells #[.slice ya yn yc, .slice za zn zc] 58)).alloc (.cells #[.slice none 0 0, .slice none 0 0] 28)).alloc (.cells #[.slice none 0 0, .slice none 0 0] 28)).heap.size) := by unfold Hid; simp
  clear C0
  go_enter Try.func38, Try.ntmps38
  go_wp2_with fail
  generalize (((w.alloc (.cells #[.int .i64 m.rings, .int .i64 m.give, .int .i64 m.pl, .int .i64 m.ph, .int .i64 m.wl, .int .i64 m.wh, .int .i64 m.set, .int .i64 m.shrink, .int .i64 m.skin, .int .i64 m.fill, .int .i64 m.gap, .int .i64 m.deep] 25)).alloc (.cells #[.slice ya yn yc, .slice za zn zc] 58)).alloc (.cells #[.slice none 0 0, .slice none 0 0] 28)).alloc (.cells #[.slice none 0 0, .slice none 0 0] 28) = W1 at *
  go_loopw [8] (fun iv wr => ∃ (k : Nat) (a8 : Option Addr) (c8 : Nat), iv = .int .i64 k ∧ k ≤ r ∧ Bs w [(w.heap.size, .cells #[.int .i64 m.rings, .int .i64 m.give, .int .i64 m.pl, .int .i64 m.ph, .int .i64 m.wl, .int .i64 m.wh, .int .i64 m.set, .int .i64 m.shrink, .int .i64 m.skin, .int .i64 m.fill, .int .i64 m.gap, .int .i64 m.deep] 25), (w.heap.size + 1, .cells #[.slice ya yn yc, .slice za zn zc] 58), (w.heap.size + 1 + 1, .cells #[.slice none 0 0, .slice none 0 0] 28), (w.heap.size + 1 + 1 + 1, .cells #[.slice a8 k c8, .slice none 0 0] 28)] wr ∧ wr.ownsRow (w.heap.size + 1 + 1 + 1 + 1) 3 1 (.slice a8 k c8) k ((mapTo (fun i => amongV m.pl m.ph (turnV yl i)) k).map (Value.int .i64)) ∧ KB (w.heap.size + 1 + 1 + 1 + 1) (w.heap.size + 1 + 1 + 1) W1 wr ∧ w.heap.size + 1 + 1 + 1 + 1 ≤ wr.heap.size) (fun iv _ => r - (intOf iv).toNat)
  case atStart => exact ⟨0, none, 0, rfl, by omega, CB.out, World.ownsRow_nil _ _ 3 1, fun _ _ _ => rfl, by exact HB4.out⟩
  case round =>
    obtain ⟨k, a8, c8, rfl, hk, hC, hO, hKB, hS⟩ := hrel
    have CK := Lib.hid hC
    have OK := Lib.hid hO
    have HKB := Lib.hid hKB
    have HS := Lib.hid hS
    have c00 : wr.cell? ⟨w.heap.size, 0, none⟩ = some (.int .i64 r) := by
      rw [hC.cell 0 rfl, ← HR.out]
      rfl
    clear hO hC CB hKB hS
    by_cases hlt : k < r
    · have hki : (k : Int) < (r : Int) := by omega
      go_wp2_with fail
      clear c00
      refine wp_region_inv1 (by kernel_rfl) (by kernel_rfl) [25, 26] (fun D y w' => TrW w [(w.heap.size, .cells #[.int .i64 m.rings, .int .i64 m.give, .int .i64 m.pl, .int .i64 m.ph, .int .i64 m.wl, .int .i64 m.wh, .int .i64 m.set, .int .i64 m.shrink, .int .i64 m.skin, .int .i64 m.fill, .int .i64 m.gap, .int .i64 m.deep] 25), (w.heap.size + 1, .cells #[.slice ya yn yc, .slice za zn zc] 58), (w.heap.size + 1 + 1, .cells #[.slice none 0 0, .slice none 0 0] 28), (w.heap.size + 1 + 1 + 1, .cells #[.slice a8 k c8, .slice none 0 0] 28)] (fun v => [(w.heap.size, .cells #[.int .i64 m.rings, .int .i64 m.give, .int .i64 m.pl, .int .i64 m.ph, .int .i64 m.wl, .int .i64 m.wh, .int .i64 m.set, .int .i64 m.shrink, .int .i64 m.skin, .int .i64 m.fill, .int .i64 m.gap, .int .i64 m.deep] 25), (w.heap.size + 1, .cells #[.slice ya yn yc, .slice za zn zc] 58), (w.heap.size + 1 + 1, .cells #[.slice none 0 0, .slice none 0 0] 28), (w.heap.size + 1 + 1 + 1, .cells #[v, .slice none 0 0] 28)]) W1 (w.heap.size + 1 + 1 + 1 + 1) (w.heap.size + 1 + 1 + 1) k (.slice a8 k c8) ((mapTo (fun i => amongV m.pl m.ph (turnV yl i)) k).map (Value.int .i64)) (.int .i64 (amongV m.pl m.ph (turnV yl k))) (D 9) (D 10) (D 12) (y 25) (y 26) w') ?_ ?F0 ?hF0 ?_
      · exact ⟨fun _ => CK.out.drew, fun h => (by cases h), fun _ => ownsRow.below OK.out (Below.refl _ _).drew, fun h => (by cases h), fun h => (by cases h), HKB.out, HS.out⟩
      case hF0 =>
        intro y
        simp only [fill, List.foldl, Act.put, List.setIfInBounds_toArray, List.set]
        exact rfl
      apply obl_det
      case hrun =>
        intro D y wz hW hD R hR
        have HRR := Lib.hid hR
        clear hR
        have HW := Lib.hid hW
        clear hW hD
        go_wp2
        exact HRR.out _ HW.out
      case hnp => rfl
      case hv => first | exact ⟨_, fun _ => rfl⟩ | exact ⟨undef, fun _ => rfl⟩
      apply obl_det
      case hrun =>
        intro D y wz hW hD R hR
        have HRR := Lib.hid hR
        clear hR
        have HW := Lib.hid hW
        have h12 : D 12 = false := hD.post _ 12 rfl (by kernel_rfl)
        have c7 := (hW.bs1 h12).cell 3 rfl
        clear hW hD
        go_wp2
        exact HRR.out _ HW.out
      case hnp => rfl
      case hv => first | exact ⟨_, fun _ => rfl⟩ | exact ⟨undef, fun _ => rfl⟩
      apply obl_det
      case hrun =>
        intro D y wz hW hD R hR
        have HRR := Lib.hid hR
        clear hR
        have HW := Lib.hid hW
        clear hW hD
        go_wp2
        exact HRR.out _ HW.out
      case hnp => rfl
      case hv => first | exact ⟨_, fun _ => rfl⟩ | exact ⟨undef, fun _ => rfl⟩
      apply obl_det
      case hrun =>
        intro D y wz hW hD R hR
        have HRR := Lib.hid hR
        clear hR
        have HW := Lib.hid hW
        have h12 : D 12 = false := hD.post _ 12 rfl (by kernel_rfl)
        have c0 := (hW.bs1 h12).cell 0 rfl
        clear hW hD
        go_wp2
        exact HRR.out _ HW.out
      case hnp => rfl
      case hv => first | exact ⟨_, fun _ => rfl⟩ | exact ⟨undef, fun _ => rfl⟩
      apply obl_det
      case hrun =>
        intro D y wz hW hD R hR
        have HRR := Lib.hid hR
        clear hR
        have HW := Lib.hid hW
        clear hW hD
        go_wp2
        exact HRR.out _ HW.out
      case hnp => rfl
      case hv => first | exact ⟨_, fun _ => rfl⟩ | exact ⟨undef, fun _ => rfl⟩
      apply obl_det
      case hrun =>
        intro D y wz hW hD R hR
        have HRR := Lib.hid hR
        clear hR
        have HW := Lib.hid hW
        have h12 : D 12 = false := hD.post _ 12 rfl (by kernel_rfl)
        have c1 := (hW.bs1 h12).cell 1 rfl
        clear hW hD
        go_wp2
        exact HRR.out _ HW.out
      case hnp => rfl
      case hv => first | exact ⟨_, fun _ => rfl⟩ | exact ⟨undef, fun _ => rfl⟩
      apply obl_det
      case hrun =>
        intro D y wz hW hD R hR
        have HRR := Lib.hid hR
        clear hR
        have HW := Lib.hid hW
        clear hW hD
        go_wp2
        exact HRR.out _ HW.out
      case hnp => rfl
      case hv => first | exact ⟨_, fun _ => rfl⟩ | exact ⟨undef, fun _ => rfl⟩
      apply obl_det
      case hrun =>
        intro D y wz hW hD R hR
        have HRR := Lib.hid hR
        clear hR
        have HW := Lib.hid hW
        have h12 : D 12 = false := hD.post _ 12 rfl (by kernel_rfl)
        have HYW := Lib.hid ((HY.out.below (hW.bs1 h12).bel).mono (hW.bs1 h12).bel.size)
        clear hW hD
        go_wp2_with fail
        refine (turn_any yl (.slice ya yn yc) k (by omega) wz (HYW.out) HYR.out).mono ?_
        rintro e w' ⟨rfl, rfl⟩
        go_wp2_with fail
        exact HRR.out _ HW.out
      case hnp => rfl
      case hv => first | exact ⟨_, fun _ => rfl⟩ | exact ⟨undef, fun _ => rfl⟩
      apply obl_det
      case hrun =>
        intro D y wz hW hD R hR
        have HRR := Lib.hid hR
        clear hR
        have HW := Lib.hid hW
        have hm0 := HM.out.p0
        have hm1 := HM.out.pp
        have hm2 := HM.out.p2
        have hm3 := HM.out.w0
        have hm4 := HM.out.ww
        have hm5 := HM.out.w2
        have htr := (turnV_range HYR.out k).1
        clear hW hD
        go_wp2_with fail
        refine (among_any m.pl m.ph _ (by omega) (by omega) (by omega) (by omega) wz).mono ?_
        rintro e w' ⟨rfl, hb⟩
        have HW2 := Lib.hid (HW.out.next hb)
        clear hb
        go_wp2_with fail
        exact HRR.out _ HW2.out
      case hnp => rfl
      case hv => first | exact ⟨_, fun _ => rfl⟩ | exact ⟨undef, fun _ => rfl⟩
      apply obl_priv 25
      case hd => rfl
      case hp => rfl
      case hrun =>
        intro D y wz hW hD R hR
        have HRR := Lib.hid hR
        clear hR
        have h12 : D 12 = false := hD.post _ 12 rfl (by kernel_rfl)
        have h10 : D 10 = false := hD.post _ 10 rfl (by kernel_rfl)
        have HW := Lib.hid hW
        have H10 := Lib.hid h10
        have H12 := Lib.hid h12
        clear hW hD h10 h12
        go_wp2_with fail
        refine HRR.out _ _ ?_
        show TrW w [(w.heap.size, .cells #[.int .i64 m.rings, .int .i64 m.give, .int .i64 m.pl, .int .i64 m.ph, .int .i64 m.wl, .int .i64 m.wh, .int .i64 m.set, .int .i64 m.shrink, .int .i64 m.skin, .int .i64 m.fill, .int .i64 m.gap, .int .i64 m.deep] 25), (w.heap.size + 1, .cells #[.slice ya yn yc, .slice za zn zc] 58), (w.heap.size + 1 + 1, .cells #[.slice none 0 0, .slice none 0 0] 28), (w.heap.size + 1 + 1 + 1, .cells #[.slice a8 k c8, .slice none 0 0] 28)] (fun v => [(w.heap.size, .cells #[.int .i64 m.rings, .int .i64 m.give, .int .i64 m.pl, .int .i64 m.ph, .int .i64 m.wl, .int .i64 m.wh, .int .i64 m.set, .int .i64 m.shrink, .int .i64 m.skin, .int .i64 m.fill, .int .i64 m.gap, .int .i64 m.deep] 25), (w.heap.size + 1, .cells #[.slice ya yn yc, .slice za zn zc] 58), (w.heap.size + 1 + 1, .cells #[.slice none 0 0, .slice none 0 0] 28), (w.heap.size + 1 + 1 + 1, .cells #[v, .slice none 0 0] 28)]) W1 (w.heap.size + 1 + 1 + 1 + 1) (w.heap.size + 1 + 1 + 1) k (.slice a8 k c8) ((mapTo (fun i => amongV m.pl m.ph (turnV yl i)) k).map (Value.int .i64)) (.int .i64 (amongV m.pl m.ph (turnV yl k))) true (D 10) (D 12) (.slice (some ⟨wz.heap.size, 0, none⟩) 1 1) (y 26) _
        exact (HW.out.next ((Below.refl _ _).alloc (Nat.le_refl _) _)).laid H10.out (heap_alloc_new _ _)
      apply obl_priv 26
      case hd => rfl
      case hp => rfl
      case hrun =>
        intro D y wz hW hD R hR
        have HRR := Lib.hid hR
        clear hR
        have h12 : D 12 = false := hD.post _ 12 rfl (by kernel_rfl)
        have h10 : D 10 = false := hD.not
        have h9 : D 9 = true := hD.pre _ 9 rfl (by kernel_rfl)
        obtain ⟨b9, e9, hb9⟩ := hW.src h9 h10
        have ho := hW.own h10
        have hs := hW.hs
        have HW := Lib.hid hW
        have H12 := Lib.hid h12
        have HB9 := Lib.hid hb9
        have E9 := Lib.hid e9
        clear hW hD h10 h12 h9 hb9 e9
        refine wpList_append_own _ rfl _ _ 26 rfl (w.heap.size + 1 + 1 + 1 + 1) 3 i0 (.int .i64 0) 1 8 Try.underlying26 hi0 hz0 hz1 hz2 rfl (by decide) _ _ _ rfl ho ⟨b9, 0, none⟩ 1 1 [.int .i64 (amongV m.pl m.ph (turnV yl k))] E9.out rfl (cell_news _ _ _ _ HB9.out) (one_int _) (by unfold maxLen; omega) (by omega) hs ?_
        intro v' w12 hown12 hgrow12 _
        have hlt12 := World.ownsRow.lt ho
        have hb12 : Below (w.heap.size + 1 + 1 + 1 + 1) wz w12 := (Below.refl (w.heap.size + 1 + 1 + 1 + 1) wz).grown hgrow12 hs (fun k e => (hlt12 k e).1)
        have HN := Lib.hid (HW.out.got H12.out hb12 (by simp; omega) (by omega) hown12)
        clear hown12 hgrow12 hlt12 hb12 ho
        go_wp2
        refine HRR.out v' _ ?_
        exact HN.out
      apply obl_det
      case hrun =>
        intro D y wz hW hD R hR
        have HRR := Lib.hid hR
        clear hR
        have HW := Lib.hid hW
        clear hW hD
        go_wp2
        exact HRR.out _ HW.out
      case hnp => rfl
      case hv => first | exact ⟨_, fun _ => rfl⟩ | exact ⟨undef, fun _ => rfl⟩
      apply obl_det
      case hrun =>
        intro D y wz hW hD R hR
        have HRR := Lib.hid hR
        clear hR
        have HW := Lib.hid hW
        have h12 : D 12 = false := hD.not
        have h10 : D 10 = true := hD.pre _ 10 rfl (by kernel_rfl)
        have H10 := Lib.hid h10
        have H12 := Lib.hid h12
        have H1c : Hid ((y 26).oneCell' = true) := by obtain ⟨a, c, e⟩ := ownsRow_slice (hW.new h10); unfold Hid; rw [e]; rfl
        clear h10 h12
        clear hW hD
        refine wpList_cell_bz rfl 26 _ _ rfl (HW.out.bs1 H12.out) 3 (w.heap.size + 1 + 1 + 1) 0 _ _ rfl rfl (y 26) rfl (by simp) H1c.out info26 ?_
        intro w13 hC13 hk13 hs13
        have HN := Lib.hid (HW.out.put H10.out H12.out (by omega) (by omega) hC13 hk13 hs13)
        clear hC13 hk13 hs13
        go_wp2
        exact HRR.out _ HN.out
      case hnp => rfl
      case hv => first | exact ⟨_, fun _ => rfl⟩ | exact ⟨undef, fun _ => rfl⟩
      apply obl_nil
      intro D y w8 hall hW
      have d9 := hall 9 (by decide)
      have d10 := hall 10 (by decide)
      have d12 := hall 12 (by decide)
      have HN := Lib.hid (hW.new d10)
      have HC8 := Lib.hid (hW.bs2 d12)
      have HKB := Lib.hid hW.kb
      have HS := Lib.hid hW.hs
      clear hW hall d9 d10 d12
      generalize y 26 = y' at *
      obtain ⟨a9, c9, rfl⟩ := ownsRow_slice1 HN.out
      clear CK OK
      go_wp2_with fail
      refine ⟨⟨k + 1, a9, c9, by push_cast; rfl, by omega, HC8.out, ?_, HKB.out, HS.out⟩, ?_⟩
      · rw [mapTo_succ, List.map_append]
        exact HN.out
      · simp [intOf]
        omega
    · obtain rfl : r = k := by omega
      have CE0 := Lib.hid CK.out
      have HB1 := Lib.hid (World.ownsRow.lt OK.out)
      have HI1 : Hid (LV (w.heap.size + 1 + 1 + 1) r wr (.slice a8 r c8) (truthPl m r yl)) := LV.own (l := truthPl m r yl) (base := w.heap.size + 1 + 1 + 1 + 1) (by unfold OwnInts; rw [truthPl, mapTo_len]; exact OK.out) (mapTo_len _ _) hr1 (fun b h1 _ => by omega) (by omega)
      have HS4 := HS.out
      go_wp2_with fail
      clear c00 OK CK HKB
      generalize wr = W2 at *
      generalize a8 = av1 at *
      generalize c8 = cv1 at *
      have CE := Lib.hid CE0.out
      clear CE0
      go_loopw [9] (fun iv wr => ∃ (k : Nat) (a8 : Option Addr) (c8 : Nat), iv = .int .i64 k ∧ k ≤ N ∧ Bs w [(w.heap.size, .cells #[.int .i64 m.rings, .int .i64 m.give, .int .i64 m.pl, .int .i64 m.ph, .int .i64 m.wl, .int .i64 m.wh, .int .i64 m.set, .int .i64 m.shrink, .int .i64 m.skin, .int .i64 m.fill, .int .i64 m.gap, .int .i64 m.deep] 25), (w.heap.size + 1, .cells #[.slice ya yn yc, .slice za zn zc] 58), (w.heap.size + 1 + 1, .cells #[.slice none 0 0, .slice none 0 0] 28), (w.heap.size + 1 + 1 + 1, .cells #[.slice av1 r cv1, .slice a8 k c8] 28)] wr ∧ wr.ownsRow (W2.heap.size) 3 1 (.slice a8 k c8) k ((mapTo (fun i => amongV m.wl m.wh (turnV zl i)) k).map (Value.int .i64)) ∧ KB (W2.heap.size) (w.heap.size + 1 + 1 + 1) W2 wr ∧ W2.heap.size ≤ wr.heap.size) (fun iv _ => N - (intOf iv).toNat)
      case atStart => exact ⟨0, none, 0, rfl, by omega, CE.out, World.ownsRow_nil _ _ 3 1, fun _ _ _ => rfl, by exact Nat.le_refl _⟩
      case round =>
        obtain ⟨k, a8, c8, rfl, hk, hC, hO, hKB, hS⟩ := hrel
        have CK := Lib.hid hC
        have OK := Lib.hid hO
        have HKB := Lib.hid hKB
        have HS := Lib.hid hS
        have c00 : wr.cell? ⟨w.heap.size, 0, none⟩ = some (.int .i64 r) := by
          rw [hC.cell 0 rfl, ← HR.out]
          rfl
        clear hO hC CE hKB hS
        by_cases hlt : k < N
        · have hki : (k : Int) < (N : Int) := by omega
          go_wp2_with fail
          clear c00
          refine wp_region_inv1 (by kernel_rfl) (by kernel_rfl) [42, 43] (fun D y w' => TrW w [(w.heap.size, .cells #[.int .i64 m.rings, .int .i64 m.give, .int .i64 m.pl, .int .i64 m.ph, .int .i64 m.wl, .int .i64 m.wh, .int .i64 m.set, .int .i64 m.shrink, .int .i64 m.skin, .int .i64 m.fill, .int .i64 m.gap, .int .i64 m.deep] 25), (w.heap.size + 1, .cells #[.slice ya yn yc, .slice za zn zc] 58), (w.heap.size + 1 + 1, .cells #[.slice none 0 0, .slice none 0 0] 28), (w.heap.size + 1 + 1 + 1, .cells #[.slice av1 r cv1, .slice a8 k c8] 28)] (fun v => [(w.heap.size, .cells #[.int .i64 m.rings, .int .i64 m.give, .int .i64 m.pl, .int .i64 m.ph, .int .i64 m.wl, .int .i64 m.wh, .int .i64 m.set, .int .i64 m.shrink, .int .i64 m.skin, .int .i64 m.fill, .int .i64 m.gap, .int .i64 m.deep] 25), (w.heap.size + 1, .cells #[.slice ya yn yc, .slice za zn zc] 58), (w.heap.size + 1 + 1, .cells #[.slice none 0 0, .slice none 0 0] 28), (w.heap.size + 1 + 1 + 1, .cells #[.slice av1 r cv1, v] 28)]) W2 (W2.heap.size) (w.heap.size + 1 + 1 + 1) k (.slice a8 k c8) ((mapTo (fun i => amongV m.wl m.wh (turnV zl i)) k).map (Value.int .i64)) (.int .i64 (amongV m.wl m.wh (turnV zl k))) (D 9) (D 10) (D 12) (y 42) (y 43) w') ?_ ?F1 ?hF1 ?_
          · exact ⟨fun _ => CK.out.drew, fun h => (by cases h), fun _ => ownsRow.below OK.out (Below.refl _ _).drew, fun h => (by cases h), fun h => (by cases h), HKB.out, HS.out⟩
          case hF1 =>
            intro y
            simp only [fill, List.foldl, Act.put, List.setIfInBounds_toArray, List.set]
            exact rfl
          apply obl_det
          case hrun =>
            intro D y wz hW hD R hR
            have HRR := Lib.hid hR
            clear hR
            have HW := Lib.hid hW
            clear hW hD
            go_wp2
            exact HRR.out _ HW.out
          case hnp => rfl
          case hv => first | exact ⟨_, fun _ => rfl⟩ | exact ⟨undef, fun _ => rfl⟩
          apply obl_det
          case hrun =>
            intro D y wz hW hD R hR
            have HRR := Lib.hid hR
            clear hR
            have HW := Lib.hid hW
            have h12 : D 12 = false := hD.post _ 12 rfl (by kernel_rfl)
            have c7 := (hW.bs1 h12).cell 3 rfl
            clear hW hD
            go_wp2
            exact HRR.out _ HW.out
          case hnp => rfl
          case hv => first | exact ⟨_, fun _ => rfl⟩ | exact ⟨undef, fun _ => rfl⟩
          apply obl_det
          case hrun =>
            intro D y wz hW hD R hR
            have HRR := Lib.hid hR
            clear hR
            have HW := Lib.hid hW
            clear hW hD
            go_wp2
            exact HRR.out _ HW.out
          case hnp => rfl
          case hv => first | exact ⟨_, fun _ => rfl⟩ | exact ⟨undef, fun _ => rfl⟩
          apply obl_det
          case hrun =>
            intro D y wz hW hD R hR
            have HRR := Lib.hid hR
            clear hR
            have HW := Lib.hid hW
            have h12 : D 12 = false := hD.post _ 12 rfl (by kernel_rfl)
            have c0 := (hW.bs1 h12).cell 0 rfl
            clear hW hD
            go_wp2
            exact HRR.out _ HW.out
          case hnp => rfl
          case hv => first | exact ⟨_, fun _ => rfl⟩ | exact ⟨undef, fun _ => rfl⟩
          apply obl_det
          case hrun =>
            intro D y wz hW hD R hR
            have HRR := Lib.hid hR
            clear hR
            have HW := Lib.hid hW
            clear hW hD
            go_wp2
            exact HRR.out _ HW.out
          case hnp => rfl
          case hv => first | exact ⟨_, fun _ => rfl⟩ | exact ⟨undef, fun _ => rfl⟩
          apply obl_det
          case hrun =>
            intro D y wz hW hD R hR
            have HRR := Lib.hid hR
            clear hR
            have HW := Lib.hid hW
            have h12 : D 12 = false := hD.post _ 12 rfl (by kernel_rfl)
            have c1 := (hW.bs1 h12).cell 1 rfl
            clear hW hD
            go_wp2
            exact HRR.out _ HW.out
          case hnp => rfl
          case hv => first | exact ⟨_, fun _ => rfl⟩ | exact ⟨undef, fun _ => rfl⟩
          apply obl_det
          case hrun =>
            intro D y wz hW hD R hR
            have HRR := Lib.hid hR
            clear hR
            have HW := Lib.hid hW
            clear hW hD
            go_wp2
            exact HRR.out _ HW.out
          case hnp => rfl
          case hv => first | exact ⟨_, fun _ => rfl⟩ | exact ⟨undef, fun _ => rfl⟩
          apply obl_det
          case hrun =>
            intro D y wz hW hD R hR
            have HRR := Lib.hid hR
            clear hR
            have HW := Lib.hid hW
            have h12 : D 12 = false := hD.post _ 12 rfl (by kernel_rfl)
            have HYW := Lib.hid ((HZ.out.below (hW.bs1 h12).bel).mono (hW.bs1 h12).bel.size)
            clear hW hD
            go_wp2_with fail
            refine (turn_any zl (.slice za zn zc) k (by omega) wz (HYW.out) HZR.out).mono ?_
            rintro e w' ⟨rfl, rfl⟩
            go_wp2_with fail
            exact HRR.out _ HW.out
          case hnp => rfl
          case hv => first | exact ⟨_, fun _ => rfl⟩ | exact ⟨undef, fun _ => rfl⟩
          apply obl_det
          case hrun =>
            intro D y wz hW hD R hR
            have HRR := Lib.hid hR
            clear hR
            have HW := Lib.hid hW
            have hm0 := HM.out.p0
            have hm1 := HM.out.pp
            have hm2 := HM.out.p2
            have hm3 := HM.out.w0
            have hm4 := HM.out.ww
            have hm5 := HM.out.w2
            have htr := (turnV_range HZR.out k).1
            clear hW hD
            go_wp2_with fail
            refine (among_any m.wl m.wh _ (by omega) (by omega) (by omega) (by omega) wz).mono ?_
            rintro e w' ⟨rfl, hb⟩
            have HW2 := Lib.hid (HW.out.next hb)
            clear hb
            go_wp2_with fail
            exact HRR.out _ HW2.out
          case hnp => rfl
          case hv => first | exact ⟨_, fun _ => rfl⟩ | exact ⟨undef, fun _ => rfl⟩
          apply obl_priv 42
          case hd => rfl
          case hp => rfl
          case hrun =>
            intro D y wz hW hD R hR
            have HRR := Lib.hid hR
            clear hR
            have h12 : D 12 = false := hD.post _ 12 rfl (by kernel_rfl)
            have h10 : D 10 = false := hD.post _ 10 rfl (by kernel_rfl)
            have HW := Lib.hid hW
            have H10 := Lib.hid h10
            have H12 := Lib.hid h12
            clear hW hD h10 h12
            go_wp2_with fail
            refine HRR.out _ _ ?_
            show TrW w [(w.heap.size, .cells #[.int .i64 m.rings, .int .i64 m.give, .int .i64 m.pl, .int .i64 m.ph, .int .i64 m.wl, .int .i64 m.wh, .int .i64 m.set, .int .i64 m.shrink, .int .i64 m.skin, .int .i64 m.fill, .int .i64 m.gap, .int .i64 m.deep] 25), (w.heap.size + 1, .cells #[.slice ya yn yc, .slice za zn zc] 58), (w.heap.size + 1 + 1, .cells #[.slice none 0 0, .slice none 0 0] 28), (w.heap.size + 1 + 1 + 1, .cells #[.slice av1 r cv1, .slice a8 k c8] 28)] (fun v => [(w.heap.size, .cells #[.int .i64 m.rings, .int .i64 m.give, .int .i64 m.pl, .int .i64 m.ph, .int .i64 m.wl, .int .i64 m.wh, .int .i64 m.set, .int .i64 m.shrink, .int .i64 m.skin, .int .i64 m.fill, .int .i64 m.gap, .int .i64 m.deep] 25), (w.heap.size + 1, .cells #[.slice ya yn yc, .slice za zn zc] 58), (w.heap.size + 1 + 1, .cells #[.slice none 0 0, .slice none 0 0] 28), (w.heap.size + 1 + 1 + 1, .cells #[.slice av1 r cv1, v] 28)]) W2 (W2.heap.size) (w.heap.size + 1 + 1 + 1) k (.slice a8 k c8) ((mapTo (fun i => amongV m.wl m.wh (turnV zl i)) k).map (Value.int .i64)) (.int .i64 (amongV m.wl m.wh (turnV zl k))) true (D 10) (D 12) (.slice (some ⟨wz.heap.size, 0, none⟩) 1 1) (y 43) _
            exact (HW.out.next ((Below.refl _ _).alloc (Nat.le_refl _) _)).laid H10.out (heap_alloc_new _ _)
          apply obl_priv 43
          case hd => rfl
          case hp => rfl
          case hrun =>
            intro D y wz hW hD R hR
            have HRR := Lib.hid hR
            clear hR
            have h12 : D 12 = false := hD.post _ 12 rfl (by kernel_rfl)
            have h10 : D 10 = false := hD.not
            have h9 : D 9 = true := hD.pre _ 9 rfl (by kernel_rfl)
            obtain ⟨b9, e9, hb9⟩ := hW.src h9 h10
            have ho := hW.own h10
            have hs := hW.hs
            have HW := Lib.hid hW
            have H12 := Lib.hid h12
            have HB9 := Lib.hid hb9
            have E9 := Lib.hid e9
            clear hW hD h10 h12 h9 hb9 e9
            refine wpList_append_own _ rfl _ _ 26 rfl (W2.heap.size) 3 i0 (.int .i64 0) 1 8 Try.underlying26 hi0 hz0 hz1 hz2 rfl (by decide) _ _ _ rfl ho ⟨b9, 0, none⟩ 1 1 [.int .i64 (amongV m.wl m.wh (turnV zl k))] E9.out rfl (cell_news _ _ _ _ HB9.out) (one_int _) (by unfold maxLen; omega) (by omega) hs ?_
            intro v' w12 hown12 hgrow12 _
            have hlt12 := World.ownsRow.lt ho
            have hb12 : Below (W2.heap.size) wz w12 := (Below.refl (W2.heap.size) wz).grown hgrow12 hs (fun k e => (hlt12 k e).1)
            have HN := Lib.hid (HW.out.got H12.out hb12 (by simp; omega) (by omega) hown12)
            clear hown12 hgrow12 hlt12 hb12 ho
            go_wp2
            refine HRR.out v' _ ?_
            exact HN.out
          apply obl_det
          case hrun =>
            intro D y wz hW hD R hR
            have HRR := Lib.hid hR
            clear hR
            have HW := Lib.hid hW
            clear hW hD
            go_wp2
            exact HRR.out _ HW.out
          case hnp => rfl
          case hv => first | exact ⟨_, fun _ => rfl⟩ | exact ⟨undef, fun _ => rfl⟩
          apply obl_det
          case hrun =>
            intro D y wz hW hD R hR
            have HRR := Lib.hid hR
            clear hR
            have HW := Lib.hid hW
            have h12 : D 12 = false := hD.not
            have h10 : D 10 = true := hD.pre _ 10 rfl (by kernel_rfl)
            have H10 := Lib.hid h10
            have H12 := Lib.hid h12
            have H1c : Hid ((y 43).oneCell' = true) := by obtain ⟨a, c, e⟩ := ownsRow_slice (hW.new h10); unfold Hid; rw [e]; rfl
            clear h10 h12
            clear hW hD
            refine wpList_cell_bz rfl 26 _ _ rfl (HW.out.bs1 H12.out) 3 (w.heap.size + 1 + 1 + 1) 1 _ _ rfl rfl (y 43) rfl (by simp) H1c.out info26 ?_
            intro w13 hC13 hk13 hs13
            have HN := Lib.hid (HW.out.put H10.out H12.out (by omega) (by omega) hC13 hk13 hs13)
            clear hC13 hk13 hs13
            go_wp2
            exact HRR.out _ HN.out
          case hnp => rfl
          case hv => first | exact ⟨_, fun _ => rfl⟩ | exact ⟨undef, fun _ => rfl⟩
          apply obl_nil
          intro D y w8 hall hW
          have d9 := hall 9 (by decide)
          have d10 := hall 10 (by decide)
          have d12 := hall 12 (by decide)
          have HN := Lib.hid (hW.new d10)
          have HC8 := Lib.hid (hW.bs2 d12)
          have HKB := Lib.hid hW.kb
          have HS := Lib.hid hW.hs
          clear hW hall d9 d10 d12
          generalize y 43 = y' at *
          obtain ⟨a9, c9, rfl⟩ := ownsRow_slice1 HN.out
          clear CK OK
          go_wp2_with fail
          refine ⟨⟨k + 1, a9, c9, by push_cast; rfl, by omega, HC8.out, ?_, HKB.out, HS.out⟩, ?_⟩
          · rw [mapTo_succ, List.map_append]
            exact HN.out
          · simp [intOf]
            omega
        · obtain rfl : N = k := by omega
          have HL2 : Hid (LV (w.heap.size + 1 + 1 + 1) r wr (.slice av1 r cv1) (truthPl m r yl)) := LV.ke HI1.out HKB.out HS.out
          have hlen : (truthWl m N zl).length = N := mapTo_len _ _
          have HNE := Lib.hid (World.ownsRow.lt OK.out)
          obtain ⟨bl, ol, cl, e0, hbl1, hbl2, hbl3⟩ := HL2.out
          simp only [Value.slice.injEq, true_and] at e0
          obtain ⟨rfl, rfl⟩ := e0
          have HC3 := Lib.hid hbl3
          have HLEN := Lib.hid hlen
          clear hbl3 hlen
          go_wp2_with (first
            | refine wpList_load_row rfl 28 _ rfl _ rfl _ _ _ _ (CK.out.get 3 rfl) Try.underlying28 rfl info28 ?_
            | refine wpList_store_row rfl 28 _ _ rfl (w.heap.size + 1 + 1) #[.slice (some ⟨bl, ol, none⟩) r cv1, .slice a8 N c8] rfl rfl 28 _ (CK.out.get 2 rfl) info28 rfl (by simp [Value.oneCell']) ?_)
          have hB1 := (HB1.out bl rfl).1
          have L3 : LV (w.heap.size + 1 + 1) r (wr.setRow (w.heap.size + 1 + 1) #[.slice (some ⟨bl, ol, none⟩) r cv1, .slice a8 N c8]) (.slice (some ⟨bl, ol, none⟩) r cv1) (truthPl m r yl) := LV.other (w := wr) ⟨bl, ol, cv1, rfl, by omega, hbl2, HC3.out⟩ (fun k hk => setRow_other _ _ _ _ hk)
          have I1 := L3.ints (mapTo_len _ _) (by omega)
          have I2 : IntsIn .i64 (wr.setRow (w.heap.size + 1 + 1) #[.slice (some ⟨bl, ol, none⟩) r cv1, .slice a8 N c8]).heap.size (wr.setRow (w.heap.size + 1 + 1) #[.slice (some ⟨bl, ol, none⟩) r cv1, .slice a8 N c8]) (.slice a8 N c8) (truthWl m N zl) := OwnInts.ints (base := W2.heap.size) (by unfold OwnInts; rw [HLEN.out]; exact ownsRow.setRow OK.out (by omega) _) (by rw [HLEN.out]; omega)
          exact bodyPost_ret (v := .agg #[.slice (some ⟨bl, ol, none⟩) r cv1, .slice a8 N c8]) (results_cell_row (fn := Try.f38) rfl _ _ _ _ _ _ _ rfl (setRow_heap _ _ _ _ _ _ (CK.out.get 2 rfl)) Try.underlying28 rfl info28) rfl ⟨_, _, rfl, by rw [HRN.out]; exact I1, I2, below_setRow CK.out.bel (by omega) _⟩

end Go.Proofs.Ytafdagjdpnaddaa
