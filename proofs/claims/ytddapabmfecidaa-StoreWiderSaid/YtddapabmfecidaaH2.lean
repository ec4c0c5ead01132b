/- counted: hot days one after the other, and jumps, at some warmth. -/
import Derived.Test.YtddapabmfecidaaW18
import Derived.Test.YtddapabmfecidaaP1
import Derived.BigQuiet
namespace Go.Proofs.Ytddapabmfecidaa
open Go.RowKit
/-- The first k numbers, the last one first. -/
def revTake (l : List Int) : Nat → List Int
  | 0 => []
  | k + 1 => l.getD k 0 :: revTake l k
theorem hr_bound (be : Int) : ∀ t : List Int, 0 ≤ hr be t ∧ hr be t ≤ t.length
  | [] => by simp [hr]
  | x :: t => by
    have := hr_bound be t
    simp only [hr, List.length_cons]
    split <;> omega
theorem mr_bound (be : Int) : ∀ t : List Int, 0 ≤ mr be t ∧ mr be t ≤ t.length
  | [] => by simp [mr]
  | x :: t => by
    have h1 := mr_bound be t
    have h2 := hr_bound be (x :: t)
    simp only [mr, List.length_cons] at *
    omega
theorem jr_bound (jm : Int) : ∀ t : List Int, 0 ≤ jr jm t ∧ jr jm t ≤ t.length
  | [] => by simp [jr]
  | [x] => by simp [jr]
  | x :: y :: t => by
    have h1 := jr_bound jm (y :: t)
    have h2 := jb_bound jm y x
    rw [show jr jm (x :: y :: t) = jb jm y x + jr jm (y :: t) from rfl]
    simp only [List.length_cons] at *
    omega
theorem revTake_len (l : List Int) : ∀ k, (revTake l k).length = k
  | 0 => rfl
  | k + 1 => by simp [revTake, revTake_len l k]
theorem jr_rev (jm : Int) (l : List Int) (k : Nat) (hk : 0 < k) : jr jm (revTake l (k + 1)) = jb jm (l.getD (k - 1) 0) (l.getD k 0) + jr jm (revTake l k) := by
  obtain ⟨m, rfl⟩ : ∃ m, k = m + 1 := ⟨k - 1, by omega⟩
  rfl
set_option maxRecDepth 100000 in
set_option maxHeartbeats 4000000 in
theorem counted_any (be d jm t : Int) (l : List Int) (v : Value) (w : World) (hv : IntsIn .i64 w.heap.size w v l) (hl8 : l.length ≤ 8) (hr60 : ∀ k, k < l.length → 0 ≤ l.getD k 0 ∧ l.getD k 0 ≤ 60) :
    Calls Try.prog 23 #[.agg #[.int .i64 be, .int .i64 d, .int .i64 jm, .int .i64 t], v] w
      fun e w' => e = .returned (.tuple #[.int .i64 (mr be (revTake l l.length)), .int .i64 (jr jm (revTake l l.length))]) ∧ Below w.heap.size w w' := by
  have HV := Lib.hid hv
  obtain ⟨a, c, rfl, hl, h1⟩ := hv
  clear h1
  have HR := Lib.hid hr60
  clear hr60
  obtain ⟨n, hn⟩ : ∃ n, l.length = n := ⟨_, rfl⟩
  have HN := Lib.hid hn
  rw [hn] at hl hl8 HV ⊢
  clear hn
  have R0 : Hid ((w.alloc (.cells #[.int .i64 be, .int .i64 d, .int .i64 jm, .int .i64 t] 28)).heap[w.heap.size]? = some (.cells #[.int .i64 be, .int .i64 d, .int .i64 jm, .int .i64 t] 28)) := heap_alloc_new _ _
  have C0 : Hid (Below w.heap.size w (w.alloc (.cells #[.int .i64 be, .int .i64 d, .int .i64 jm, .int .i64 t] 28))) := (Below.refl _ _).alloc (Nat.le_refl _) _
  go_enter Try.func23, Try.ntmps23
  go_wp2_with fail
  go_loopw [6, 7, 8, 9] (fun mv hv' jv kv wr => ∃ k : Nat, kv = .int .i64 k ∧ k ≤ n ∧ mv = .int .i64 (mr be (revTake l k)) ∧ hv' = .int .i64 (hr be (revTake l k)) ∧ jv = .int .i64 (jr jm (revTake l k)) ∧ wr.heap[w.heap.size]? = some (.cells #[.int .i64 be, .int .i64 d, .int .i64 jm, .int .i64 t] 28) ∧ Below w.heap.size w wr) (fun _ _ _ kv _ => n - (intOf kv).toNat)
  case atStart => exact ⟨0, rfl, by omega, rfl, rfl, rfl, R0.out, C0.out⟩
  case round =>
    obtain ⟨k, rfl, hk, rfl, rfl, rfl, hr0, hb⟩ := hrel
    have RR := Lib.hid hr0
    have CB := Lib.hid hb
    clear hr0 hb
    by_cases hlt : k < n
    · obtain ⟨a', c', hvv, _, hcc⟩ := HV.out.below CB.out
      simp only [Value.slice.injEq] at hvv
      obtain ⟨rfl, -, rfl⟩ := hvv
      have hnl := HN.out
      obtain ⟨b, o, rfl, hbb, hc⟩ := hcc.resolve_left (by intro h; rw [h] at hnl; simp at hnl; omega)
      have hck := hc k (by omega)
      have hxk := HR.out k (by omega)
      have hbh := hr_bound be (revTake l k)
      have hbm := mr_bound be (revTake l k)
      have hbj := jr_bound jm (revTake l k)
      rw [revTake_len] at hbh hbm hbj
      have HMR : Hid (mr be (revTake l (k + 1)) = max (mr be (revTake l k)) (hr be (revTake l (k + 1)))) := rfl
      have HHR : Hid (hr be (revTake l (k + 1)) = if l.getD k 0 < be then 0 else hr be (revTake l k) + 1) := rfl
      obtain ⟨x, hx⟩ : ∃ x, l.getD k 0 = x := ⟨_, rfl⟩
      rw [hx] at hck hxk HHR
      have HX := Lib.hid hx
      clear hx hcc
      generalize hmm : mr be (revTake l k) = m at *
      generalize hhh : hr be (revTake l k) = h at *
      have cs := fun i => cell_of_row wr _ i _ _ _ RR.out
      obtain ⟨hd, hdx⟩ : ∃ q, decide (x < be) = q := ⟨_, rfl⟩
      have HS0 : k = 0 → Hid (jr jm (revTake l (k + 1)) = jr jm (revTake l k)) := by intro h; subst h; rfl
      have HSp : 0 < k → Hid (jr jm (revTake l (k + 1)) = jb jm (l.getD (k - 1) 0) x + jr jm (revTake l k)) := by intro h; unfold Hid; rw [jr_rev jm l k h, HX.out]
      generalize hjj : jr jm (revTake l k) = J at *
      clear hmm hhh hjj
      obtain hk0 | ⟨p, hp⟩ : k = 0 ∨ ∃ p, k = p + 1 := by rcases k with _ | p; · exact Or.inl rfl
                                                          · exact Or.inr ⟨p, rfl⟩
      · have HJ := HS0 hk0
        subst hk0
        rw [Nat.add_zero] at hck
        clear HS0 HSp hc
        cases hd
        · have HH : Hid (hr be (revTake l (0 + 1)) = h + 1) := by unfold Hid; rw [HHR.out]; have := hdx; simp at this; first | rw [if_pos this] | rw [if_neg (by omega)]
          rw [HH.out] at HMR
          clear HHR HN HR R0 C0
          go_wp2_with fail
          go_quiet (fail)
          simp only [Exit.then]
          go_wp2_with fail
          all_goals
            go_quiet (fail)
            simp only [Exit.then]
            go_wp2_with fail
            refine ⟨⟨0 + 1, by push_cast; rfl, by omega, ?_, by rw [HH.out], by rw [HJ.out], RR.out, ⟨CB.out.os, CB.out.tape, CB.out.output, CB.out.size, CB.out.block⟩⟩, ?_⟩
            · rw [HMR.out]; congr 1; omega
            · simp [intOf]; omega
        · have HH : Hid (hr be (revTake l (0 + 1)) = 0) := by unfold Hid; rw [HHR.out]; have := hdx; simp at this; first | rw [if_pos this] | rw [if_neg (by omega)]
          rw [HH.out] at HMR
          clear HHR HN HR R0 C0
          go_wp2_with fail
          go_quiet (fail)
          simp only [Exit.then]
          go_wp2_with fail
          all_goals
            go_quiet (fail)
            simp only [Exit.then]
            go_wp2_with fail
            refine ⟨⟨0 + 1, by push_cast; rfl, by omega, ?_, by rw [HH.out], by rw [HJ.out], RR.out, ⟨CB.out.os, CB.out.tape, CB.out.output, CB.out.size, CB.out.block⟩⟩, ?_⟩
            · rw [HMR.out]; congr 1; omega
            · simp [intOf]; omega
      · have HJ := HSp (by omega)
        subst hp
        rw [show p + 1 - 1 = p from rfl] at HJ
        have hc0 := hc p (by omega)
        have hx0 := HR.out p (by have := (HN.out : l.length = n); omega)
        obtain ⟨y, hy⟩ : ∃ y, l.getD p 0 = y := ⟨_, rfl⟩
        rw [hy] at hc0 hx0 HJ
        clear HS0 HSp hy hc
        have hk1 : (((p + 1 : Nat) : Int) - 1) = p := by omega
        have hk2 : decide ((0 : Int) < ((p + 1 : Nat) : Int)) = true := by simp
        obtain ⟨q1, hq1⟩ : ∃ q, decide (jm < x - y) = q := ⟨_, rfl⟩
        obtain ⟨q2, hq2⟩ : ∃ q, decide (jm < y - x) = q := ⟨_, rfl⟩
        cases hd
        · have HH : Hid (hr be (revTake l (p + 1 + 1)) = h + 1) := by unfold Hid; rw [HHR.out]; have := hdx; simp at this; first | rw [if_pos this] | rw [if_neg (by omega)]
          rw [HH.out] at HMR
          clear HHR HN HR R0 C0
          go_wp2_with fail
          go_quiet (fail)
          simp only [Exit.then]
          go_wp2_with fail
          all_goals
            cases q1
            · cases q2
              · have HK : Hid (jb jm y x = 0) := by unfold Hid jb jumpB; simp at hq1 hq2; rw [if_neg (by simp; omega)]
                go_quiet (fail)
                simp only [Exit.then]
                go_wp2_with fail
                refine ⟨⟨p + 1 + 1, by push_cast; rfl, by omega, ?_, by rw [HH.out], by rw [HJ.out, HK.out, Int.zero_add], RR.out, ⟨CB.out.os, CB.out.tape, CB.out.output, CB.out.size, CB.out.block⟩⟩, ?_⟩
                · rw [HMR.out]; congr 1; omega
                · simp [intOf]; omega
              · have HK : Hid (jb jm y x = 1) := by unfold Hid jb jumpB; simp at hq1 hq2; rw [if_pos (by simp; omega)]
                go_quiet (fail)
                simp only [Exit.then]
                go_wp2_with fail
                refine ⟨⟨p + 1 + 1, by push_cast; rfl, by omega, ?_, by rw [HH.out], by rw [HJ.out, HK.out, Int.add_comm], RR.out, ⟨CB.out.os, CB.out.tape, CB.out.output, CB.out.size, CB.out.block⟩⟩, ?_⟩
                · rw [HMR.out]; congr 1; omega
                · simp [intOf]; omega
            · have HK : Hid (jb jm y x = 1) := by unfold Hid jb jumpB; simp at hq1; rw [if_pos (by simp; omega)]
              go_quiet (fail)
              simp only [Exit.then]
              go_wp2_with fail
              refine ⟨⟨p + 1 + 1, by push_cast; rfl, by omega, ?_, by rw [HH.out], by rw [HJ.out, HK.out, Int.add_comm], RR.out, ⟨CB.out.os, CB.out.tape, CB.out.output, CB.out.size, CB.out.block⟩⟩, ?_⟩
              · rw [HMR.out]; congr 1; omega
              · simp [intOf]; omega
        · have HH : Hid (hr be (revTake l (p + 1 + 1)) = 0) := by unfold Hid; rw [HHR.out]; have := hdx; simp at this; first | rw [if_pos this] | rw [if_neg (by omega)]
          rw [HH.out] at HMR
          clear HHR HN HR R0 C0
          go_wp2_with fail
          go_quiet (fail)
          simp only [Exit.then]
          go_wp2_with fail
          all_goals
            cases q1
            · cases q2
              · have HK : Hid (jb jm y x = 0) := by unfold Hid jb jumpB; simp at hq1 hq2; rw [if_neg (by simp; omega)]
                go_quiet (fail)
                simp only [Exit.then]
                go_wp2_with fail
                refine ⟨⟨p + 1 + 1, by push_cast; rfl, by omega, ?_, by rw [HH.out], by rw [HJ.out, HK.out, Int.zero_add], RR.out, ⟨CB.out.os, CB.out.tape, CB.out.output, CB.out.size, CB.out.block⟩⟩, ?_⟩
                · rw [HMR.out]; congr 1; omega
                · simp [intOf]; omega
              · have HK : Hid (jb jm y x = 1) := by unfold Hid jb jumpB; simp at hq1 hq2; rw [if_pos (by simp; omega)]
                go_quiet (fail)
                simp only [Exit.then]
                go_wp2_with fail
                refine ⟨⟨p + 1 + 1, by push_cast; rfl, by omega, ?_, by rw [HH.out], by rw [HJ.out, HK.out, Int.add_comm], RR.out, ⟨CB.out.os, CB.out.tape, CB.out.output, CB.out.size, CB.out.block⟩⟩, ?_⟩
                · rw [HMR.out]; congr 1; omega
                · simp [intOf]; omega
            · have HK : Hid (jb jm y x = 1) := by unfold Hid jb jumpB; simp at hq1; rw [if_pos (by simp; omega)]
              go_quiet (fail)
              simp only [Exit.then]
              go_wp2_with fail
              refine ⟨⟨p + 1 + 1, by push_cast; rfl, by omega, ?_, by rw [HH.out], by rw [HJ.out, HK.out, Int.add_comm], RR.out, ⟨CB.out.os, CB.out.tape, CB.out.output, CB.out.size, CB.out.block⟩⟩, ?_⟩
              · rw [HMR.out]; congr 1; omega
              · simp [intOf]; omega
    · obtain rfl : k = n := by omega
      go_wp2_with fail
      go_ret2
      exact ⟨rfl, CB.out⟩
end Go.Proofs.Ytddapabmfecidaa
