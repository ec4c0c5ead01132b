/- slices.Repeat of one element. -/
import Derived.Test.YtafdagjdpnaddaaW6
import Derived.Test.YtafdagjdpnaddaaW4
namespace Go.Proofs.Ytafdagjdpnaddaa
open Go.RowKit
theorem addr_add {g o j : Nat} : ((⟨g, o, none⟩ : Addr).add j) = ⟨g, o + j, none⟩ := by unfold Addr.add; split <;> simp_all
theorem made_one (z : Value) (n : Nat) : madeCells #[z] (n * 1) = (List.replicate n z).toArray := by
  unfold madeCells
  apply Array.ext
  · simp
  · intro i h1 h2
    simp [Nat.mod_one]
theorem run_made {P : Program} (w : World) (t e : TypeId) (z : Value) (ht : P.underlying t = some (.slice e)) (hi : ∃ i, P.info? e = some i ∧ i.zero = some z ∧ i.size = 1 ∧ i.bytes ≤ 8) (hz : z.cells = #[z]) (n : Nat) (hn : n ≤ 1000) :
    (Instr.makeSlice t (.int .i64 n) (.int .i64 n)).run P w = .ok (.slice (some ⟨w.heap.size, 0, none⟩) n n) (w.alloc (.cells (List.replicate n z).toArray e)) := by
  obtain ⟨i, h1, h2, h3, h4⟩ := hi
  have hb : (i.bytes : Int) * (n : Int) ≤ 8 * (n : Int) := Int.mul_le_mul_of_nonneg_right (by omega) (by omega)
  have := run_make w t e i z ht h1 h2 .i64 .i64 n n (by omega) (by omega) (by omega) (by omega)
  rw [this, hz, h3, Int.toNat_natCast, made_one]
/-- The first t are x. -/
def rep (c t : Nat) (x z : Value) : List Value := List.replicate t x ++ List.replicate (c - t) z
theorem rep_len {c t : Nat} (h : t ≤ c) (x z : Value) : (rep c t x z).length = c := by simp [rep]; omega
theorem rep_zero (c : Nat) (x z : Value) : rep c 0 x z = List.replicate c z := by simp [rep]
theorem rep_all (c : Nat) (x z : Value) : rep c c x z = List.replicate c x := by simp [rep]
theorem rep_splice {c t m : Nat} (h : t + m ≤ c) (x z : Value) : splice (rep c t x z) t (List.replicate m x) = rep c (t + m) x z := by
  unfold splice rep
  rw [List.take_left' (by simp), List.length_replicate, List.drop_append, List.length_replicate, List.drop_eq_nil_of_le (by simp), List.nil_append, List.drop_replicate, ← List.append_assoc, List.replicate_append_replicate]
  congr 2
  omega
theorem rep_at {c t j : Nat} (h : j < t) (x z : Value) : (rep c t x z)[j]? = some x := by
  unfold rep
  rw [List.getElem?_append_left (by simpa using h), List.getElem?_replicate, if_pos h]
theorem info4' : ∃ i, Try.prog.info? 4 = some i ∧ i.zero = some (.bool false) ∧ i.size = 1 ∧ i.bytes ≤ 8 := by
  obtain ⟨i, h1, h2⟩ := Option.map_eq_some_iff.1 (show (Try.prog.info? 4).map (fun i => (i.zero, i.size, i.bytes)) = some (some (.bool false), 1, 1) by kernel_rfl)
  simp only [Prod.mk.injEq] at h2
  exact ⟨i, h1, h2.1, h2.2.1, by omega⟩
theorem info3'' : ∃ i, Try.prog.info? 3 = some i ∧ i.zero = some (.int .i64 0) ∧ i.size = 1 ∧ i.bytes ≤ 8 := by
  obtain ⟨i, h1, h2, h3, h4⟩ := info3'
  exact ⟨i, h1, h2, h3, by omega⟩
theorem info4 : (Try.prog.info? 4).map (·.size) = some 1 := by kernel_rfl
/-- A new row of c equal cells. -/
def RetRep (c : Nat) (x : Value) (t : TypeId) (w : World) (e : Ending) (w' : World) : Prop := ∃ g, e = .returned (.slice (some ⟨g, 0, none⟩) c c) ∧ w'.heap[g]? = some (.cells (List.replicate c x).toArray t) ∧ w.heap.size ≤ g ∧ Below w.heap.size w w'
set_option maxRecDepth 100000 in
set_option maxHeartbeats 4000000 in
theorem repI_any (x : Value) (hx1 : x.oneCell' = true) (b off cap c : Nat) (h1 : 1 ≤ c) (h8 : c ≤ 8) (w : World) (hb : b < w.heap.size) (hx : w.cell? ⟨b, off, none⟩ = some x) :
    Calls Try.prog 74 #[.slice (some ⟨b, off, none⟩) 1 cap, .int .i64 c] w (RetRep c x 3 w) := by
  have hmk := fun w : World => run_made (P := Try.prog) w 26 3 (.int .i64 0) Try.underlying26 info3'' rfl c (by omega)
  have C0 := Lib.hid ((Bs.nil w).push _ rfl (.cells (List.replicate c (.int .i64 0)).toArray 3))
  have HX := Lib.hid hx
  have hc0 : ¬ ((c : Int) < 0) := by omega
  clear hx
  have hg0 : Hid ((w.alloc (.cells (Array.replicate c (.int .i64 0)) 3)).heap[w.heap.size]? = some (.cells (List.replicate c (.int .i64 0)).toArray 3)) := by unfold Hid; rw [← List.toArray_replicate]; exact heap_alloc_new _ _
  go_enter Try.func74, Try.ntmps74
  go_wp2_with (first | (go_at_call 75; refine (mul_any c h1 h8 _).mono ?_; rintro e w' ⟨rfl, rfl⟩) | (with_reducible refine wpList_copy_splice rfl (.tmp 31) (.tmp 32) 26 26 rfl 3 Try.underlying26 info3 (some ⟨w.heap.size, 0, none⟩) (some ⟨b, off, none⟩) c c 1 cap rfl rfl w.heap.size 0 (List.replicate c (.int .i64 0)) 3 hg0.out [x] ?c1 ?c2 ?c3 ?c4 w.heap.size w ?c5 (Nat.le_refl _) ?_))
  case c1 => exact (Nat.min_eq_left h1).symm
  case c2 =>
    intro j u hj
    match j, hj with
    | 0, hj =>
      simp at hj
      subst hj
      exact HX.out
  case c3 => simp; omega
  case c4 => intro u hu; simp at hu; subst hu; exact hx1
  case c5 => exact (Below.refl _ _).alloc (Nat.le_refl _) _
  intro w1 hH hB
  have hR1 : Hid (Bs w [(w.heap.size, .cells (rep c 1 x (.int .i64 0)).toArray 3)] w1) := by
    refine ⟨fun p hp => ?_, by simp, fun p hp => by simp at hp; subst hp; exact Nat.le_refl _, hB⟩
    simp at hp
    subst hp
    have := hH.out
    rw [← rep_zero c x, show [x] = List.replicate 1 x from rfl, rep_splice (by omega)] at this
    exact this
  clear hH hB
  clear hmk hg0
  go_wp2_with fail
  go_loopw [8] (fun i wr => ∃ t : Nat, 1 ≤ t ∧ t ≤ c ∧ i = .int .i64 t ∧ Bs w [(w.heap.size, .cells (rep c t x (.int .i64 0)).toArray 3)] wr) (fun i _ => c - (intOf i).toNat)
  case atStart => exact ⟨1, by omega, by omega, rfl, hR1.out⟩
  case round =>
    obtain ⟨t, ht1, htc, rfl, hC⟩ := hrel
    have C3 := Lib.hid hC
    clear hC
    by_cases hlt : t < c
    · have hlt' : (t : Int) < (c : Int) := by omega
      have hd : decide ((t : Int) < (c : Int)) = true := decide_eq_true hlt'
      have hd' : decide (t < c) = true := decide_eq_true hlt
      have HLT := Lib.hid hlt
      have hm1 : Nat.min t (c - t) ≤ t := Nat.min_le_left _ _
      have hm2 : Nat.min t (c - t) ≤ c - t := Nat.min_le_right _ _
      have hm3 : 1 ≤ Nat.min t (c - t) := Nat.le_min.2 ⟨by omega, by omega⟩
      go_wp2_with fail
      refine wp_region_inv0 (by kernel_rfl) (by kernel_rfl) (fun D w' => Bs w [(w.heap.size, .cells (if D 7 = true then (rep c (t + Nat.min t (c - t)) x (.int .i64 0)).toArray else (rep c t x (.int .i64 0)).toArray) 3)] w') C3.out.drew ?_
      iterate 7
        (apply obl_det
         case hrun =>
           intro D y wz hW hD R hR
           have HRR := Lib.hid hR
           clear hR
           have HW := Lib.hid hW
           clear hW hD
           go_wp2
           exact HRR.out _ HW.out
         case hnp => rfl
         case hv => first | exact ⟨_, fun _ => rfl⟩ | exact ⟨undef, fun _ => rfl⟩)
      apply obl_det
      case hrun =>
        intro D y wz hW hD R hR
        have HRR := Lib.hid hR
        clear hR
        have HW := Lib.hid hW
        have hd : D 7 = false := hD.not
        clear hW hD
        refine wpList_copy_splice rfl (.tmp 41) (.tmp 44) 26 26 rfl 3 Try.underlying26 info3 (some ⟨w.heap.size, t, none⟩) (some ⟨w.heap.size, 0, none⟩) (c - t) (c - t) t c rfl rfl w.heap.size t (rep c t x (.int .i64 0)) 3 (by have := HW.out.get 0 rfl; rw [hd, if_neg (by simp)] at this; exact this) (List.replicate (Nat.min t (c - t)) x) (by simp) (fun _ => ⟨rfl, ⟨w.heap.size, 0, none⟩, rfl, fun j u hj => ?hsrc⟩) (by rw [rep_len (by omega), List.length_replicate]; have := Nat.min_le_right t (c - t); omega) (fun u hu => by rw [List.eq_of_mem_replicate hu]; exact hx1) w.heap.size w HW.out.bel (Nat.le_refl _) ?_
        case hsrc =>
          rw [List.getElem?_replicate] at hj
          split at hj
          · cases hj
            rename_i hjm
            have := HW.out.cell 0 rfl j
            rw [hd, if_neg (by simp)] at this
            rw [addr_add, Nat.zero_add, this]
            simp only [List.getElem?_toArray]
            exact rep_at (by have := Nat.min_le_left t (c - t); omega) _ _
          · cases hj
        intro w2 hH hB
        rw [rep_splice (by have := Nat.min_le_right t (c - t); omega)] at hH
        rw [List.length_replicate]
        have HR2 : Bs w [(w.heap.size, .cells (rep c (t + Nat.min t (c - t)) x (.int .i64 0)).toArray 3)] w2 := ⟨fun p hp => by simp at hp; subst hp; exact hH.out, by simp, fun p hp => by simp at hp; subst hp; exact Nat.le_refl _, hB⟩
        clear hH hB
        exact HRR.out _ HR2
      case hnp => rfl
      case hv => first | exact ⟨_, fun _ => rfl⟩ | exact ⟨undef, fun _ => rfl⟩
      iterate 2
        (apply obl_det
         case hrun =>
           intro D y wz hW hD R hR
           have HRR := Lib.hid hR
           clear hR
           have HW := Lib.hid hW
           clear hW hD
           go_wp2
           exact HRR.out _ HW.out
         case hnp => rfl
         case hv => first | exact ⟨_, fun _ => rfl⟩ | exact ⟨undef, fun _ => rfl⟩)
      apply obl_nil
      intro D y w8 hall hW
      have h7 : D 7 = true := hall 7 (by decide)
      rw [h7, if_pos rfl] at hW
      have HW := Lib.hid hW
      clear hW hall h7 D
      go_wp2_with fail
      go_roundw
      case rel => exact ⟨t + Nat.min t (c - t), by omega, by omega, by go_num, HW.out⟩
      case measure => simp [intOf]; omega
    · obtain rfl : t = c := by omega
      go_wp2_with fail
      go_ret
      have hg := C3.out.get 0 rfl
      rw [rep_all] at hg
      exact ⟨w.heap.size, rfl, hg, Nat.le_refl _, C3.out.bel⟩
set_option maxRecDepth 100000 in
set_option maxHeartbeats 4000000 in
theorem repB_any (x : Value) (hx1 : x.oneCell' = true) (b off cap c : Nat) (h1 : 1 ≤ c) (h8 : c ≤ 8) (w : World) (hb : b < w.heap.size) (hx : w.cell? ⟨b, off, none⟩ = some x) :
    Calls Try.prog 72 #[.slice (some ⟨b, off, none⟩) 1 cap, .int .i64 c] w (RetRep c x 4 w) := by
  have hmk := fun w : World => run_made (P := Try.prog) w 115 4 (.bool false) Try.underlying115 info4' rfl c (by omega)
  have C0 := Lib.hid ((Bs.nil w).push _ rfl (.cells (List.replicate c (.bool false)).toArray 4))
  have HX := Lib.hid hx
  have hc0 : ¬ ((c : Int) < 0) := by omega
  clear hx
  have hg0 : Hid ((w.alloc (.cells (Array.replicate c (.bool false)) 4)).heap[w.heap.size]? = some (.cells (List.replicate c (.bool false)).toArray 4)) := by unfold Hid; rw [← List.toArray_replicate]; exact heap_alloc_new _ _
  go_enter Try.func72, Try.ntmps72
  go_wp2_with (first | (go_at_call 75; refine (mul_any c h1 h8 _).mono ?_; rintro e w' ⟨rfl, rfl⟩) | (with_reducible refine wpList_copy_splice rfl (.tmp 31) (.tmp 32) 115 115 rfl 4 Try.underlying115 info4 (some ⟨w.heap.size, 0, none⟩) (some ⟨b, off, none⟩) c c 1 cap rfl rfl w.heap.size 0 (List.replicate c (.bool false)) 4 hg0.out [x] ?c1 ?c2 ?c3 ?c4 w.heap.size w ?c5 (Nat.le_refl _) ?_))
  case c1 => exact (Nat.min_eq_left h1).symm
  case c2 =>
    intro j u hj
    match j, hj with
    | 0, hj =>
      simp at hj
      subst hj
      exact HX.out
  case c3 => simp; omega
  case c4 => intro u hu; simp at hu; subst hu; exact hx1
  case c5 => exact (Below.refl _ _).alloc (Nat.le_refl _) _
  intro w1 hH hB
  have hR1 : Hid (Bs w [(w.heap.size, .cells (rep c 1 x (.bool false)).toArray 4)] w1) := by
    refine ⟨fun p hp => ?_, by simp, fun p hp => by simp at hp; subst hp; exact Nat.le_refl _, hB⟩
    simp at hp
    subst hp
    have := hH.out
    rw [← rep_zero c x, show [x] = List.replicate 1 x from rfl, rep_splice (by omega)] at this
    exact this
  clear hH hB
  clear hmk hg0
  go_wp2_with fail
  go_loopw [8] (fun i wr => ∃ t : Nat, 1 ≤ t ∧ t ≤ c ∧ i = .int .i64 t ∧ Bs w [(w.heap.size, .cells (rep c t x (.bool false)).toArray 4)] wr) (fun i _ => c - (intOf i).toNat)
  case atStart => exact ⟨1, by omega, by omega, rfl, hR1.out⟩
  case round =>
    obtain ⟨t, ht1, htc, rfl, hC⟩ := hrel
    have C3 := Lib.hid hC
    clear hC
    by_cases hlt : t < c
    · have hlt' : (t : Int) < (c : Int) := by omega
      have hd : decide ((t : Int) < (c : Int)) = true := decide_eq_true hlt'
      have hd' : decide (t < c) = true := decide_eq_true hlt
      have HLT := Lib.hid hlt
      have hm1 : Nat.min t (c - t) ≤ t := Nat.min_le_left _ _
      have hm2 : Nat.min t (c - t) ≤ c - t := Nat.min_le_right _ _
      have hm3 : 1 ≤ Nat.min t (c - t) := Nat.le_min.2 ⟨by omega, by omega⟩
      go_wp2_with fail
      refine wp_region_inv0 (by kernel_rfl) (by kernel_rfl) (fun D w' => Bs w [(w.heap.size, .cells (if D 7 = true then (rep c (t + Nat.min t (c - t)) x (.bool false)).toArray else (rep c t x (.bool false)).toArray) 4)] w') C3.out.drew ?_
      iterate 7
        (apply obl_det
         case hrun =>
           intro D y wz hW hD R hR
           have HRR := Lib.hid hR
           clear hR
           have HW := Lib.hid hW
           clear hW hD
           go_wp2
           exact HRR.out _ HW.out
         case hnp => rfl
         case hv => first | exact ⟨_, fun _ => rfl⟩ | exact ⟨undef, fun _ => rfl⟩)
      apply obl_det
      case hrun =>
        intro D y wz hW hD R hR
        have HRR := Lib.hid hR
        clear hR
        have HW := Lib.hid hW
        have hd : D 7 = false := hD.not
        clear hW hD
        refine wpList_copy_splice rfl (.tmp 41) (.tmp 44) 115 115 rfl 4 Try.underlying115 info4 (some ⟨w.heap.size, t, none⟩) (some ⟨w.heap.size, 0, none⟩) (c - t) (c - t) t c rfl rfl w.heap.size t (rep c t x (.bool false)) 4 (by have := HW.out.get 0 rfl; rw [hd, if_neg (by simp)] at this; exact this) (List.replicate (Nat.min t (c - t)) x) (by simp) (fun _ => ⟨rfl, ⟨w.heap.size, 0, none⟩, rfl, fun j u hj => ?hsrc⟩) (by rw [rep_len (by omega), List.length_replicate]; have := Nat.min_le_right t (c - t); omega) (fun u hu => by rw [List.eq_of_mem_replicate hu]; exact hx1) w.heap.size w HW.out.bel (Nat.le_refl _) ?_
        case hsrc =>
          rw [List.getElem?_replicate] at hj
          split at hj
          · cases hj
            rename_i hjm
            have := HW.out.cell 0 rfl j
            rw [hd, if_neg (by simp)] at this
            rw [addr_add, Nat.zero_add, this]
            simp only [List.getElem?_toArray]
            exact rep_at (by have := Nat.min_le_left t (c - t); omega) _ _
          · cases hj
        intro w2 hH hB
        rw [rep_splice (by have := Nat.min_le_right t (c - t); omega)] at hH
        rw [List.length_replicate]
        have HR2 : Bs w [(w.heap.size, .cells (rep c (t + Nat.min t (c - t)) x (.bool false)).toArray 4)] w2 := ⟨fun p hp => by simp at hp; subst hp; exact hH.out, by simp, fun p hp => by simp at hp; subst hp; exact Nat.le_refl _, hB⟩
        clear hH hB
        exact HRR.out _ HR2
      case hnp => rfl
      case hv => first | exact ⟨_, fun _ => rfl⟩ | exact ⟨undef, fun _ => rfl⟩
      iterate 2
        (apply obl_det
         case hrun =>
           intro D y wz hW hD R hR
           have HRR := Lib.hid hR
           clear hR
           have HW := Lib.hid hW
           clear hW hD
           go_wp2
           exact HRR.out _ HW.out
         case hnp => rfl
         case hv => first | exact ⟨_, fun _ => rfl⟩ | exact ⟨undef, fun _ => rfl⟩)
      apply obl_nil
      intro D y w8 hall hW
      have h7 : D 7 = true := hall 7 (by decide)
      rw [h7, if_pos rfl] at hW
      have HW := Lib.hid hW
      clear hW hall h7 D
      go_wp2_with fail
      go_roundw
      case rel => exact ⟨t + Nat.min t (c - t), by omega, by omega, by go_num, HW.out⟩
      case measure => simp [intOf]; omega
    · obtain rfl : t = c := by omega
      go_wp2_with fail
      go_ret
      have hg := C3.out.get 0 rfl
      rw [rep_all] at hg
      exact ⟨w.heap.size, rfl, hg, Nat.le_refl _, C3.out.bel⟩
end Go.Proofs.Ytafdagjdpnaddaa
