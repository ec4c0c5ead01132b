/- stearinref07.Ends. -/
import Derived.Test.YtaigbhhmmdfdcaaY12
import Derived.Deep.AppendLies
namespace Go.Proofs.Ytaigbhhmmdfdcaa
open Go.RowKit
/-- Two rows of their own, amid a statement that makes both longer. -/
structure MoW (W0 : World) (x x' : Value) (c1 : Value) (k1 : Nat) (l1 : List Value) (c2 : Value) (k2 : Nat) (l2 : List Value) (d5 d6 d12 d13 : Bool) (ya yb : Value) (w : World) : Prop where
  low : Below W0.heap.size W0 w
  hs : W0.heap.size ≤ w.heap.size
  r1 : w.ownsRow W0.heap.size 3 1 c1 k1 l1
  r2 : w.ownsRow W0.heap.size 3 1 c2 k2 l2
  ne : ∀ g, c1.ownBlock = some g → c2.ownBlock ≠ some g
  s1 : d5 = true → d6 = false → ∃ b, ya = .slice (some ⟨b, 0, none⟩) 1 1 ∧ w.heap[b]? = some (.cells [x].toArray 3) ∧ c2.ownBlock ≠ some b
  s2 : d12 = true → d13 = false → ∃ b, yb = .slice (some ⟨b, 0, none⟩) 1 1 ∧ w.heap[b]? = some (.cells [x'].toArray 3) ∧ c1.ownBlock ≠ some b
section
variable {W0 w w' : World} {x x' c1 c2 ya yb : Value} {k1 k2 : Nat} {l1 l2 : List Value} {d5 d6 d12 d13 : Bool}
theorem MoW.next (h : MoW W0 x x' c1 k1 l1 c2 k2 l2 d5 d6 d12 d13 ya yb w) (hb : Below w.heap.size w w') : MoW W0 x x' c1 k1 l1 c2 k2 l2 d5 d6 d12 d13 ya yb w' :=
  ⟨h.low.trans (hb.mono h.hs), Nat.le_trans h.hs hb.size, ownsRow.below h.r1 hb, ownsRow.below h.r2 hb, h.ne, fun e1 e2 => (by obtain ⟨b, h1, h2, h3⟩ := h.s1 e1 e2; exact ⟨b, h1, block_keep h2 hb, h3⟩), fun e1 e2 => (by obtain ⟨b, h1, h2, h3⟩ := h.s2 e1 e2; exact ⟨b, h1, block_keep h2 hb, h3⟩)⟩
theorem MoW.puts1 (h : MoW W0 x x' c1 k1 l1 c2 k2 l2 d5 d6 d12 d13 ya yb w) : MoW W0 x x' c1 k1 l1 c2 k2 l2 true d6 d12 d13 (.slice (some ⟨w.heap.size, 0, none⟩) 1 1) yb (w.alloc (.cells [x].toArray 3)) := by
  have h' := h.next ((Below.refl w.heap.size w).alloc (Nat.le_refl _) (.cells [x].toArray 3))
  exact ⟨h'.low, h'.hs, h'.r1, h'.r2, h'.ne, fun _ _ => ⟨w.heap.size, rfl, heap_alloc_new _ _, fun e => by have := (World.ownsRow.lt h.r2 _ e).2; omega⟩, h'.s2⟩
theorem MoW.puts2 (h : MoW W0 x x' c1 k1 l1 c2 k2 l2 d5 d6 d12 d13 ya yb w) : MoW W0 x x' c1 k1 l1 c2 k2 l2 d5 d6 true d13 ya (.slice (some ⟨w.heap.size, 0, none⟩) 1 1) (w.alloc (.cells [x'].toArray 3)) := by
  have h' := h.next ((Below.refl w.heap.size w).alloc (Nat.le_refl _) (.cells [x'].toArray 3))
  exact ⟨h'.low, h'.hs, h'.r1, h'.r2, h'.ne, h'.s1, fun _ _ => ⟨w.heap.size, rfl, heap_alloc_new _ _, fun e => by have := (World.ownsRow.lt h.r1 _ e).2; omega⟩⟩
theorem ownsRow.grownP {base n sz : Nat} {e : TypeId} {v : Value} {xs : List Value} {row : Option Nat} (h : w.ownsRow base e sz v n xs) (hg : w.grownBy w' row) (hne : ∀ g, v.ownBlock = some g → row ≠ some g) : w'.ownsRow base e sz v n xs := by
  refine ⟨h.1, ?_⟩
  rcases h.2 with h0 | ⟨g, cap, cur, rfl, h1, h2, h3⟩
  · exact .inl h0
  · exact .inr ⟨g, cap, cur, rfl, h1, (hg.block g (block_lt h2) (fun e => hne g rfl e.symm)).trans h2, h3⟩
theorem MoW.gotr1 (h : MoW W0 x x' c1 k1 l1 c2 k2 l2 d5 d6 d12 d13 ya yb w) {g cap : Nat} {z : Value} (ho : w'.ownsRow W0.heap.size 3 1 (.slice (some ⟨g, 0, none⟩) (k1 + 1) cap) (k1 + 1) (l1 ++ [z])) (hg : w.grownBy w' c1.ownBlock) (hgg : c1.ownBlock = some g ∨ g = w.heap.size) :
    MoW W0 x x' (.slice (some ⟨g, 0, none⟩) (k1 + 1) cap) (k1 + 1) (l1 ++ [z]) c2 k2 l2 d5 true d12 d13 ya yb w' := by
  have l1' := World.ownsRow.lt h.r1
  have l2' := World.ownsRow.lt h.r2
  refine ⟨h.low.grown hg h.hs (fun k e => (l1' k e).1), Nat.le_trans h.hs hg.size, ho, ownsRow.grownP h.r2 hg (fun g2 e2 e1 => h.ne g2 e1 e2), fun g' e e2 => ?_, fun _ e => (by cases e), fun e1 e2 => ?_⟩
  · have e' : g = g' := by simpa [Value.ownBlock] using e
    subst e'
    rcases hgg with h1 | h1
    · exact h.ne g h1 e2
    · have := (l2' g e2).2; omega
  · obtain ⟨b, h1, h2, h3⟩ := h.s2 e1 e2
    refine ⟨b, h1, (hg.block b (block_lt h2) (fun e => h3 e.symm)).trans h2, fun e => ?_⟩
    have e' : g = b := by simpa [Value.ownBlock] using e
    subst e'
    rcases hgg with h4 | h4
    · exact h3 h4
    · have := block_lt h2; omega
theorem MoW.gotr2 (h : MoW W0 x x' c1 k1 l1 c2 k2 l2 d5 d6 d12 d13 ya yb w) {g cap : Nat} {z : Value} (ho : w'.ownsRow W0.heap.size 3 1 (.slice (some ⟨g, 0, none⟩) (k2 + 1) cap) (k2 + 1) (l2 ++ [z])) (hg : w.grownBy w' c2.ownBlock) (hgg : c2.ownBlock = some g ∨ g = w.heap.size) :
    MoW W0 x x' c1 k1 l1 (.slice (some ⟨g, 0, none⟩) (k2 + 1) cap) (k2 + 1) (l2 ++ [z]) d5 d6 d12 true ya yb w' := by
  have l1' := World.ownsRow.lt h.r1
  have l2' := World.ownsRow.lt h.r2
  refine ⟨h.low.grown hg h.hs (fun k e => (l2' k e).1), Nat.le_trans h.hs hg.size, ownsRow.grownP h.r1 hg (fun g2 e2 e1 => h.ne g2 e2 e1), ho, fun g' e e2 => ?_, fun e1 e2 => ?_, fun _ e => (by cases e)⟩
  · have e' : g = g' := by simpa [Value.ownBlock] using e2
    subst e'
    rcases hgg with h1 | h1
    · exact h.ne g e h1
    · have := (l1' g e).2; omega
  · obtain ⟨b, h1, h2, h3⟩ := h.s1 e1 e2
    refine ⟨b, h1, (hg.block b (block_lt h2) (fun e => h3 e.symm)).trans h2, fun e => ?_⟩
    have e' : g = b := by simpa [Value.ownBlock] using e
    subst e'
    rcases hgg with h4 | h4
    · exact h3 h4
    · have := block_lt h2; omega
end
/-- Amid Ends' round: two rows grow by one each. -/
structure EnW (W0 : World) (x1 x2 c1 c2 : Value) (k : Nat) (l1 l2 : List Value) (D : Nat → Bool) (y : Tmp → Value) (w : World) : Prop where
  m : MoW W0 x1 x2 (cond (D 7) (y 20) c1) (cond (D 7) (k + 1) k) (cond (D 7) (l1 ++ [x1]) l1) (cond (D 15) (y 28) c2) (cond (D 15) (k + 1) k) (cond (D 15) (l2 ++ [x2]) l2) (D 6) (D 7) (D 14) (D 15) (y 19) (y 27) w
  o4 : D 16 = false → y 4 = c1
  n4 : D 16 = true → y 4 = y 20
  o5 : D 17 = false → y 5 = c2
  n5 : D 17 = true → y 5 = y 28
/-- Two lists of ints are handed back. -/
def RetTwo (a b : List Int) (w : World) : Ending → World → Prop := fun e w' => ∃ u v, e = .returned (.tuple #[u, v]) ∧ IntsIn .i64 w'.heap.size w' u a ∧ IntsIn .i64 w'.heap.size w' v b ∧ Below w.heap.size w w'
set_option maxRecDepth 100000 in
set_option maxHeartbeats 16000000 in
/-- Ends -/
theorem ends_ref (l : List (Int × Int)) (v : Value) (w : World) (hv : SpansIn w.heap.size w v l) (hl : l.length ≤ 100) : Calls Try.prog 43 #[v] w (RetTwo (l.map Prod.fst) (l.map Prod.snd) w) := by
  unfold RetTwo
  have HV := Lib.hid hv
  obtain ⟨a, c, rfl, -, -⟩ := sl_shape hv
  clear hv
  have HM0 : Hid (MoW w .nilFunc .nilFunc (.slice none 0 0) 0 [] (.slice none 0 0) 0 [] false false false false undef undef w) := ⟨Below.refl _ _, Nat.le_refl _, World.ownsRow_nil _ _ 3 1, World.ownsRow_nil _ _ 3 1, fun g e => by simp [Value.ownBlock] at e, fun h => (by cases h), fun h => (by cases h)⟩
  generalize hn : l.length = n at *
  have HN := Lib.hid hn
  clear hn
  go_enter Try.func43, Try.ntmps43
  go_wp2_with fail
  go_loopw [4, 5, 6] (fun c1 c2 iv wr => ∃ (k : Nat) (u1 u2 : Value), u1 = c1 ∧ u2 = c2 ∧ iv = .int .i64 k ∧ k ≤ n ∧ ∀ x1 x2, MoW w x1 x2 u1 k (((l.take k).map Prod.fst).map (Value.int .i64)) u2 k (((l.take k).map Prod.snd).map (Value.int .i64)) false false false false undef undef wr) (fun _ _ iv _ => n - (intOf iv).toNat)
  case atStart => exact ⟨0, _, _, rfl, rfl, rfl, by omega, fun x1 x2 => ⟨HM0.out.low, HM0.out.hs, HM0.out.r1, HM0.out.r2, HM0.out.ne, fun h => (by cases h), fun h => (by cases h)⟩⟩
  case round =>
    clear HM0
    obtain ⟨k, u1, u2, rfl, rfl, rfl, hk, hm⟩ := hrel
    have HM := Lib.hid hm
    clear hm
    have HLOW := Lib.hid (HM.out undef undef).low
    have HHS := Lib.hid (HM.out undef undef).hs
    by_cases hlt : k < n
    · have hki : (k : Int) < (n : Int) := by omega
      obtain ⟨b, o, rfl, hb, hc1, hc2⟩ := HV.out.at' (i := k) (by rw [HN.out]; exact hlt)
      have HC1 : Hid (w.cell? ⟨b, o + k * 2, none⟩ = some (.int .i64 (l.getD k default).1)) := hc1
      have HC2 : Hid (w.cell? ⟨b, o + k * 2 + 1, none⟩ = some (.int .i64 (l.getD k default).2)) := hc2
      have HBB := Lib.hid hb
      have HT1 : Hid (((l.take k).map Prod.fst).map (Value.int .i64) ++ [.int .i64 (l.getD k default).1] = ((l.take (k + 1)).map Prod.fst).map (Value.int .i64)) := by unfold Hid; rw [take_snoc l k (by rw [HN.out]; exact hlt) default]; simp
      have HT2 : Hid (((l.take k).map Prod.snd).map (Value.int .i64) ++ [.int .i64 (l.getD k default).2] = ((l.take (k + 1)).map Prod.snd).map (Value.int .i64)) := by unfold Hid; rw [take_snoc l k (by rw [HN.out]; exact hlt) default]; simp
      clear hc1 hc2 hb
      obtain ⟨p, hp⟩ : ∃ p, l.getD k default = p := ⟨_, rfl⟩
      rw [hp] at HC1 HC2 HT1 HT2
      clear hp
      obtain ⟨x, x'⟩ := p
      simp only at HC1 HC2 HT1 HT2
      generalize ((l.take k).map Prod.fst).map (Value.int .i64) = L1 at *
      generalize ((l.take k).map Prod.snd).map (Value.int .i64) = L2 at *
      go_wp2_with fail
      refine wp_region_inv1 (by kernel_rfl) (by kernel_rfl) [19, 20, 27, 28, 4, 5] (fun D y w' => EnW w (.int .i64 x) (.int .i64 x') u1 u2 k L1 L2 D y w') ?_ ?FE ?hFE ?_
      · have h := (HM.out (.int .i64 x) (.int .i64 x')).next (Below.refl wr.heap.size wr).drew
        exact ⟨⟨h.low, h.hs, h.r1, h.r2, h.ne, fun h => (by cases h), fun h => (by cases h)⟩, fun _ => rfl, fun h => (by cases h), fun _ => rfl, fun h => (by cases h)⟩
      case hFE =>
        intro y
        simp only [fill, List.foldl, Act.put, List.setIfInBounds_toArray, List.set]
        exact rfl
      clear HM HLOW HHS
      apply obl_det
      case hrun =>
        intro D y wz hW hD R hR
        have HRR := Lib.hid hR
        clear hR
        have h15 : D 16 = false := hD.post _ 16 rfl (by kernel_rfl)
        refine wpList_mv rfl _ rfl (u1) (hW.o4 h15) ?_
        have HW := Lib.hid hW
        clear hW hD
        go_wp2_with fail
        exact HRR.out _ ⟨HW.out.m, HW.out.o4, HW.out.n4, HW.out.o5, HW.out.n5⟩
      case hnp => rfl
      case hv => first | exact ⟨_, fun _ => rfl⟩ | exact ⟨undef, fun _ => rfl⟩
      apply obl_det
      case hrun =>
        intro D y wz hW hD R hR
        have HRR := Lib.hid hR
        clear hR
        have HW := Lib.hid hW
        clear hW hD
        go_wp2_with fail
        exact HRR.out _ ⟨HW.out.m, HW.out.o4, HW.out.n4, HW.out.o5, HW.out.n5⟩
      case hnp => rfl
      case hv => first | exact ⟨_, fun _ => rfl⟩ | exact ⟨undef, fun _ => rfl⟩
      apply obl_det
      case hrun =>
        intro D y wz hW hD R hR
        have HRR := Lib.hid hR
        clear hR
        have HW := Lib.hid hW
        clear hW hD
        go_wp2_with fail
        exact HRR.out _ ⟨HW.out.m, HW.out.o4, HW.out.n4, HW.out.o5, HW.out.n5⟩
      case hnp => rfl
      case hv => first | exact ⟨_, fun _ => rfl⟩ | exact ⟨undef, fun _ => rfl⟩
      apply obl_det
      case hrun =>
        intro D y wz hW hD R hR
        have HRR := Lib.hid hR
        clear hR
        have HW := Lib.hid hW
        clear hW hD
        go_wp2_with fail
        exact HRR.out _ ⟨HW.out.m, HW.out.o4, HW.out.n4, HW.out.o5, HW.out.n5⟩
      case hnp => rfl
      case hv => first | exact ⟨_, fun _ => rfl⟩ | exact ⟨undef, fun _ => rfl⟩
      apply obl_det
      case hrun =>
        intro D y wz hW hD R hR
        have HRR := Lib.hid hR
        clear hR
        have HW := Lib.hid hW
        clear hW hD
        go_wp2_with fail
        exact HRR.out _ ⟨HW.out.m, HW.out.o4, HW.out.n4, HW.out.o5, HW.out.n5⟩
      case hnp => rfl
      case hv => first | exact ⟨_, fun _ => rfl⟩ | exact ⟨undef, fun _ => rfl⟩
      apply obl_det
      case hrun =>
        intro D y wz hW hD R hR
        have HRR := Lib.hid hR
        clear hR
        have HW := Lib.hid hW
        have h1 := (HW.out.m.low.cell (p := ⟨b, o + k * 2, none⟩) HBB.out).trans HC1.out
        clear hW hD
        go_wp2_with fail
        exact HRR.out _ ⟨HW.out.m, HW.out.o4, HW.out.n4, HW.out.o5, HW.out.n5⟩
      case hnp => rfl
      case hv => first | exact ⟨_, fun _ => rfl⟩ | exact ⟨undef, fun _ => rfl⟩
      apply obl_priv 19
      case hd => rfl
      case hp => rfl
      case hrun =>
        intro D y wz hW hD R hR
        have HRR := Lib.hid hR
        clear hR
        have HW := Lib.hid hW
        clear hW hD
        go_wp2_with fail
        refine HRR.out (.slice (some ⟨wz.heap.size, 0, none⟩) 1 1) _ ?_
        exact ⟨HW.out.m.puts1, HW.out.o4, HW.out.n4, HW.out.o5, HW.out.n5⟩
      apply obl_priv 20
      case hd => rfl
      case hp => rfl
      case hrun =>
        intro D y wz hW hD R hR
        have HRR := Lib.hid hR
        clear hR
        have h15 : D 15 = false := hD.post _ 15 rfl (by kernel_rfl)
        have h7 : D 7 = false := hD.not
        have h6 : D 6 = true := hD.pre _ 6 rfl (by kernel_rfl)
        have h16 : D 16 = false := hD.post _ 16 rfl (by kernel_rfl)
        have h17 : D 17 = false := hD.post _ 17 rfl (by kernel_rfl)
        have hm := hW.m
        rw [h15, h7] at hm
        simp only [cond_false] at hm
        obtain ⟨bb, hyb, hgc, -⟩ := hm.s1 h6 rfl
        have HMM := Lib.hid hm
        have H4 := Lib.hid (hW.o4 h16)
        have H5 := Lib.hid (hW.o5 h17)
        have H15 := Lib.hid h15
        have H7 := Lib.hid h7
        have H16 := Lib.hid h16
        have H17 := Lib.hid h17
        clear hW hD h15 h7 h6 h16 h17 hm
        obtain ⟨i0, hi0, hz0, hz1, hz2⟩ := info3'
        refine wpList_append_lies _ rfl _ _ 36 rfl w.heap.size 3 i0 (.int .i64 0) 1 8 Try.underlying36 hi0 hz0 hz1 hz2 rfl (by decide) _ k _ rfl HMM.out.r1 ⟨bb, 0, none⟩ 1 1 [.int .i64 x] hyb rfl (cell_news _ _ _ _ hgc) (one_int _) (by omega) (by unfold maxLen; omega) (by omega) HMM.out.hs _ rfl ?_
        intro g cap w12 hown12 hgrow12 hgg12 _
        have HG := Lib.hid (HMM.out.gotr1 hown12 hgrow12 hgg12)
        clear hown12 hgrow12 hgg12 hyb hgc hi0 hz0 hz1 hz2
        go_wp2_with fail
        refine HRR.out _ _ ?_
        refine ⟨?_, fun _ => H4.out, fun h => absurd (h : D 16 = true) (by rw [H16.out]; simp), fun _ => H5.out, fun h => absurd (h : D 17 = true) (by rw [H17.out]; simp)⟩
        show MoW w _ _ _ _ _ (cond (D 15) _ _) (cond (D 15) _ _) (cond (D 15) _ _) (D 6) true (D 14) (D 15) (y 19) (y 27) _
        rw [H15.out]
        have h := HG.out
        exact h
      apply obl_det
      case hrun =>
        intro D y wz hW hD R hR
        have HRR := Lib.hid hR
        clear hR
        have h15 : D 17 = false := hD.post _ 17 rfl (by kernel_rfl)
        refine wpList_mv rfl _ rfl (u2) (hW.o5 h15) ?_
        have HW := Lib.hid hW
        clear hW hD
        go_wp2_with fail
        exact HRR.out _ ⟨HW.out.m, HW.out.o4, HW.out.n4, HW.out.o5, HW.out.n5⟩
      case hnp => rfl
      case hv => first | exact ⟨_, fun _ => rfl⟩ | exact ⟨undef, fun _ => rfl⟩
      apply obl_det
      case hrun =>
        intro D y wz hW hD R hR
        have HRR := Lib.hid hR
        clear hR
        have HW := Lib.hid hW
        clear hW hD
        go_wp2_with fail
        exact HRR.out _ ⟨HW.out.m, HW.out.o4, HW.out.n4, HW.out.o5, HW.out.n5⟩
      case hnp => rfl
      case hv => first | exact ⟨_, fun _ => rfl⟩ | exact ⟨undef, fun _ => rfl⟩
      apply obl_det
      case hrun =>
        intro D y wz hW hD R hR
        have HRR := Lib.hid hR
        clear hR
        have HW := Lib.hid hW
        clear hW hD
        go_wp2_with fail
        exact HRR.out _ ⟨HW.out.m, HW.out.o4, HW.out.n4, HW.out.o5, HW.out.n5⟩
      case hnp => rfl
      case hv => first | exact ⟨_, fun _ => rfl⟩ | exact ⟨undef, fun _ => rfl⟩
      apply obl_det
      case hrun =>
        intro D y wz hW hD R hR
        have HRR := Lib.hid hR
        clear hR
        have HW := Lib.hid hW
        clear hW hD
        go_wp2_with fail
        exact HRR.out _ ⟨HW.out.m, HW.out.o4, HW.out.n4, HW.out.o5, HW.out.n5⟩
      case hnp => rfl
      case hv => first | exact ⟨_, fun _ => rfl⟩ | exact ⟨undef, fun _ => rfl⟩
      apply obl_det
      case hrun =>
        intro D y wz hW hD R hR
        have HRR := Lib.hid hR
        clear hR
        have HW := Lib.hid hW
        clear hW hD
        go_wp2_with fail
        exact HRR.out _ ⟨HW.out.m, HW.out.o4, HW.out.n4, HW.out.o5, HW.out.n5⟩
      case hnp => rfl
      case hv => first | exact ⟨_, fun _ => rfl⟩ | exact ⟨undef, fun _ => rfl⟩
      apply obl_det
      case hrun =>
        intro D y wz hW hD R hR
        have HRR := Lib.hid hR
        clear hR
        have HW := Lib.hid hW
        have h1 := (HW.out.m.low.cell (p := ⟨b, o + k * 2 + 1, none⟩) HBB.out).trans HC2.out
        clear hW hD
        go_wp2_with fail
        exact HRR.out _ ⟨HW.out.m, HW.out.o4, HW.out.n4, HW.out.o5, HW.out.n5⟩
      case hnp => rfl
      case hv => first | exact ⟨_, fun _ => rfl⟩ | exact ⟨undef, fun _ => rfl⟩
      apply obl_priv 27
      case hd => rfl
      case hp => rfl
      case hrun =>
        intro D y wz hW hD R hR
        have HRR := Lib.hid hR
        clear hR
        have HW := Lib.hid hW
        clear hW hD
        go_wp2_with fail
        refine HRR.out (.slice (some ⟨wz.heap.size, 0, none⟩) 1 1) _ ?_
        exact ⟨HW.out.m.puts2, HW.out.o4, HW.out.n4, HW.out.o5, HW.out.n5⟩
      apply obl_priv 28
      case hd => rfl
      case hp => rfl
      case hrun =>
        intro D y wz hW hD R hR
        have HRR := Lib.hid hR
        clear hR
        have h15 : D 15 = false := hD.not
        have h7 : D 7 = true := hD.pre _ 7 rfl (by kernel_rfl)
        have h6 : D 14 = true := hD.pre _ 14 rfl (by kernel_rfl)
        have h16 : D 16 = false := hD.post _ 16 rfl (by kernel_rfl)
        have h17 : D 17 = false := hD.post _ 17 rfl (by kernel_rfl)
        have hm := hW.m
        rw [h15, h7] at hm
        simp only [cond_true, cond_false] at hm
        obtain ⟨bb, hyb, hgc, -⟩ := hm.s2 h6 rfl
        have HMM := Lib.hid hm
        have H4 := Lib.hid (hW.o4 h16)
        have H5 := Lib.hid (hW.o5 h17)
        have H15 := Lib.hid h15
        have H7 := Lib.hid h7
        have H16 := Lib.hid h16
        have H17 := Lib.hid h17
        clear hW hD h15 h7 h6 h16 h17 hm
        obtain ⟨i0, hi0, hz0, hz1, hz2⟩ := info3'
        refine wpList_append_lies _ rfl _ _ 36 rfl w.heap.size 3 i0 (.int .i64 0) 1 8 Try.underlying36 hi0 hz0 hz1 hz2 rfl (by decide) _ k _ rfl HMM.out.r2 ⟨bb, 0, none⟩ 1 1 [.int .i64 x'] hyb rfl (cell_news _ _ _ _ hgc) (one_int _) (by omega) (by unfold maxLen; omega) (by omega) HMM.out.hs _ rfl ?_
        intro g cap w12 hown12 hgrow12 hgg12 _
        have HG := Lib.hid (HMM.out.gotr2 hown12 hgrow12 hgg12)
        clear hown12 hgrow12 hgg12 hyb hgc hi0 hz0 hz1 hz2
        go_wp2_with fail
        refine HRR.out _ _ ?_
        refine ⟨?_, fun _ => H4.out, fun h => absurd (h : D 16 = true) (by rw [H16.out]; simp), fun _ => H5.out, fun h => absurd (h : D 17 = true) (by rw [H17.out]; simp)⟩
        show MoW w _ _ (cond (D 7) (y 20) _) (cond (D 7) _ _) (cond (D 7) _ _) _ _ _ (D 6) (D 7) (D 14) true (y 19) (y 27) _
        rw [H7.out]
        have h := HG.out
        exact h
      apply obl_priv 4
      case hd => rfl
      case hp => rfl
      case hrun =>
        intro D y wz hW hD R hR
        have HRR := Lib.hid hR
        clear hR
        have HW := Lib.hid hW
        clear hW hD
        go_wp2_with fail
        refine HRR.out (y 20) _ ?_
        exact ⟨HW.out.m, fun h => (by cases h), fun _ => rfl, HW.out.o5, HW.out.n5⟩
      apply obl_priv 5
      case hd => rfl
      case hp => rfl
      case hrun =>
        intro D y wz hW hD R hR
        have HRR := Lib.hid hR
        clear hR
        have HW := Lib.hid hW
        clear hW hD
        go_wp2_with fail
        refine HRR.out (y 28) _ ?_
        exact ⟨HW.out.m, HW.out.o4, HW.out.n4, fun h => (by cases h), fun _ => rfl⟩
      apply obl_nil
      intro D y w8 hall hW
      have hm := hW.m
      rw [hall 7 (by decide), hall 15 (by decide)] at hm
      simp only [cond_true, HT1.out, HT2.out] at hm
      have HMN := Lib.hid hm
      have h4 := hW.n4 (hall 16 (by decide))
      have h5 := hW.n5 (hall 17 (by decide))
      rw [h4, h5]
      clear hm hW hall h4 h5
      generalize y 20 = v1 at *
      generalize y 28 = v2 at *
      generalize y 19 = v3 at *
      generalize y 27 = v4 at *
      go_wp2_with fail
      refine ⟨⟨k + 1, _, _, rfl, rfl, by push_cast; rfl, by omega, fun x1 x2 => ⟨HMN.out.low, HMN.out.hs, HMN.out.r1, HMN.out.r2, HMN.out.ne, fun h => (by cases h), fun h => (by cases h)⟩⟩, ?_⟩
      simp [intOf]; omega
    · obtain rfl : n = k := by omega
      have hr1 := (HM.out undef undef).r1
      have hr2 := (HM.out undef undef).r2
      rw [List.take_of_length_le (by rw [HN.out]; exact Nat.le_refl _)] at hr1 hr2
      have H1 : Hid (IntsIn .i64 wr.heap.size wr u1 (l.map Prod.fst)) := OwnInts.ints (base := w.heap.size) (by unfold OwnInts; simpa [HN.out] using hr1) (by simp; have := HN.out; omega)
      have H2 : Hid (IntsIn .i64 wr.heap.size wr u2 (l.map Prod.snd)) := OwnInts.ints (base := w.heap.size) (by unfold OwnInts; simpa [HN.out] using hr2) (by simp; have := HN.out; omega)
      clear hr1 hr2
      go_wp2_with fail
      go_ret2
      exact ⟨_, _, rfl, H1.out, H2.out, HLOW.out⟩
end Go.Proofs.Ytaigbhhmmdfdcaa
