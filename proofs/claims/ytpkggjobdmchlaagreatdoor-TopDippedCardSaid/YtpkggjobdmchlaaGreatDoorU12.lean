/- A range over an iterator, the body of which makes new memory of its own between the rounds. -/
import Derived.Test.YtpkggjobdmchlaaGreatDoorU11
import Derived.RangeFuncNested
import Derived.RangeFuncBound
import Derived.RangeFuncCalls
import Derived.RangeFuncLeaves
import Derived.Shelf.Abstract
import Derived.Shelf.RegionOpen
import Derived.OwnWalkIn
import Derived.TacticsInMore
import Derived.LoopNIn
import Derived.LoopIn
import Derived.Test.YtpkggjobdmchlaaGreatDoorK4
namespace Go.Proofs.YtpkggjobdmchlaaGreatDoor
open Go.RowKit
/-- What stays where new blocks alone come. -/
def StabB (J : World → Prop) : Prop := ∀ W W', J W → Below W.heap.size W W' → J W'
/-- What stays where a loop's record turns. -/
def Turny (B : Nat) (J : World → Prop) : Prop := ∀ W l o o', B ≤ l → J W → W.heap[l]? = some o → o.isCells = false → J (W.putObj l o')
/-- The iterator's contract: whatever firm thing the caller holds, round by round. -/
def IterGives2 {α : Type} (F : Fence) (n : Nat) (P : Program) (g : Nat) (lb : Array Value) (encs : α → Array Value) (Kp : World → World → Prop) (S Sp : List α → Prop) (N : Nat) (w : World) : Prop :=
  ∀ (l : Nat) (J Jx : List α → World → Prop) (W : World), Below w.heap.size w W → (∀ s, StabB (J s)) → (∀ s, StabB (Jx s)) →
    (∀ pre x W1, J pre W1 → pre.length < N → W.heap.size ≤ W1.heap.size → YieldAt F (n - 1) P l (encs x) W1 fun e W' =>
      (e = .returned (.bool true) ∧ J (pre ++ [x]) W' ∧ Kp W1 W') ∨ (e = .returned (.bool false) ∧ Jx (pre ++ [x]) W')) →
    J [] W →
    CallsIn F n P g (#[.func (.yield l) #[] #[]] ++ lb) W fun e W' => (∃ v, e = .returned v) ∧ ((∃ xs, S xs ∧ J xs W') ∨ (∃ pre, Sp pre ∧ Jx pre W'))
section
variable {P : Program} {F : Fence} {n : Nat}
theorem wpIn_range_stab {α : Type} {g : Operand} {ps : Array Tmp} {assign body : Code} {Q : Exit → Act → World → Prop} {a : Act} {w : World}
    (hro : F.round = none) (h1 : 1 ≤ n) {gf : Nat} {lb : Array Value} (hg : a.eval g = .func (.func gf) #[] lb) (hFg : F.fn gf) (eg : ∀ args w, (callFunc gf args).run P w = .ok (.enter gf args) w)
    {encs : α → Array Value} {Kp : World → World → Prop} {S Sp : List α → Prop} {N : Nat} (hseq : IterGives2 F (n - 1) P gf lb encs Kp S Sp N w)
    (hKt : ∀ {A B C : World}, Kp A B → Kp B C → Kp A C) (hKb : ∀ (W : World) (l : Nat) (o o' : Obj), w.heap.size ≤ l → W.heap[l]? = some o → o.isCells = false → Kp W (W.putObj l o')) (hps : ∀ x, (encs x).size = ps.size)
    (I : List α → World → Prop) (Ix : Code → List α → World → Prop) (hI : ∀ s, StabB (I s)) (hIx : ∀ c s, StabB (Ix c s)) (tI : ∀ s, Turny w.heap.size (I s)) (tIx : ∀ c s, Turny w.heap.size (Ix c s)) (h0 : I [] w)
    (Ax : α → Act → World → Prop) (hAx : ∀ x a' W l o o', Ax x a' W → w.heap.size ≤ l → W.heap[l]? = some o → o.isCells = false → Ax x a' (W.putObj l o'))
    (hassign : ∀ (l : Nat) (pre : List α) (x : α) (W : World) (K : Act → World → Prop), I pre W → w.heap.size ≤ W.heap.size → (∀ a' W', KeepsFrom w.heap.size W W' → Kp W W' → I pre W' → Ax x a' W' → K a' W') →
      assign.wpIn (F.inRound l) (n - 1 - 1) P (Exit.then K (fun _ _ _ => False)) { tmps := (ps.zip (encs x)).foldl (fun t (p, v) => t.setIfInBounds p v) a.tmps, defers := [] } W)
    (hbody : ∀ (l : Nat) (pre : List α) (x : α) (a' : Act) (W : World), w.heap.size ≤ W.heap.size → I pre W → Ax x a' W → pre.length < N → body.wpIn (F.inRound l) (n - 1 - 1) P (ownPostG w.heap.size Kp I Ix (pre ++ [x]) W) a' W)
    (hdone : ∀ (D : Nat) (xs : List α) (W : World), w.heap.size ≤ D → S xs → I xs W → W.heap[D]? = some (.deferred (some [])) → Q .normal { a with defers := { target := .collected D, args := #[] } :: a.defers } W)
    (hstop : ∀ (D : Nat) (c : Code) (pre : List α) (W : World), w.heap.size ≤ D → Sp pre → Ix c pre W → W.heap[D]? = some (.deferred (some [])) → c.wpIn F n P Q { a with defers := { target := .collected D, args := #[] } :: a.defers } W) :
    (Code.rangeFunc g ps assign body).wpIn F n P Q a w := by
  refine wpIn_rangeFunc fun fn hfn => ?_
  rw [hro]
  -- the record of the loop, in its states
  let R : LoopState → Option Code → Obj := fun st pe => .loop { state := st, pending := pe, fn, tmps := a.tmps, params := ps, assign, body, defers := w.heap.size }
  let B := w.heap.size
  let W1 := (w.alloc (.deferred (some []))).alloc (R .ready none)
  have z1 : W1.heap.size = B + 2 := by simp [W1, B]
  have b1 : Below B w W1 := ((Below.refl B w).alloc (Nat.le_refl _) _).alloc (by simp [B]) _
  have d1 : W1.heap[B]? = some (.deferred (some [])) := (Below.heap_alloc _ _ _ (by simp [B])).trans (World.alloc_heap_new w _)
  have l1 : W1.heap[B + 1]? = some (R .ready none) := by
    have := World.alloc_heap_new (w.alloc (.deferred (some []))) (R .ready none)
    rwa [World.size_alloc] at this
  refine ⟨B + 1, [{ target := .collected B, args := #[] }], W1, { target := .fn (.func gf) lb, args := #[.func (.yield (B + 1)) #[] #[]] }, W1, gf, #[.func (.yield (B + 1)) #[] #[]] ++ lb, W1,
    run_enterLoop_outer _ _ _ _ _, ?_, ?_, ?_, fun _ => h1, ?_⟩
  · simp only [resolve, hg]
    simp [go_sem]
  · intro f' hf'
    simp [Target.leads] at hf'
    subst hf'
    exact hFg
  · simp [invoke, go_sem, eg]
  have firm2 : ∀ (J : World → Prop) (st : LoopState) (pe : Option Code), StabB J → StabB (fun W => J W ∧ W.heap[B + 1]? = some (R st pe) ∧ W.heap[B]? = some (.deferred (some []))) := by
    intro J st pe hJ W W' hW hb
    exact ⟨hJ W W' hW.1 hb, (hb.block _ (Array.getElem?_eq_some_iff.1 hW.2.1).1).trans hW.2.1, (hb.block _ (Array.getElem?_eq_some_iff.1 hW.2.2).1).trans hW.2.2⟩
  refine (hseq (B + 1) (fun pre W => I pre W ∧ W.heap[B + 1]? = some (R .ready none) ∧ W.heap[B]? = some (.deferred (some [])))
    (fun pre W => ∃ c, Ix c pre W ∧ W.heap[B + 1]? = some (R .done (some c)) ∧ W.heap[B]? = some (.deferred (some []))) W1 b1 (fun s => firm2 _ _ _ (hI s))
    (fun s W W' hW hb => by obtain ⟨c, hc⟩ := hW; exact ⟨c, firm2 _ _ _ (hIx c s) W W' hc hb⟩) ?_ ⟨hI _ _ _ h0 b1, l1, d1⟩).mono ?_
  · -- one round
    rintro pre x W ⟨hi, hl, hd⟩ hlen hsz
    have hy := run_yield (P := P) (args := encs x) hl (hps x)
    refine ⟨fn, _, assign, body, hy, roundIn_of_wpIn hfn (hassign _ pre x W _ hi (by omega) ?_)⟩
    intro a' V hkf hkp hi' hax
    have hl' := hkf.same _ _ (by omega) hl rfl
    have hd' := hkf.same _ _ (Nat.le_refl _) hd rfl
    have hlV : B + 1 < V.heap.size := (Array.getElem?_eq_some_iff.1 hl').1
    refine ⟨_, run_beginRound hl' rfl, ?_⟩
    have hl2 : (V.putObj (B + 1) (R .busy none)).heap[B + 1]? = some (R .busy none) := World.putObj_heap_same hlV
    have hd2 : (V.putObj (B + 1) (R .busy none)).heap[B]? = some (.deferred (some [])) := (World.putObj_heap_other (by omega)).trans hd'
    have hk2 : Kp V (V.putObj (B + 1) (R .busy none)) := hKb _ _ _ _ (by omega) hl' rfl
    refine wpIn_mono (hbody _ pre x a' _ (by simp [World.putObj]; omega) (tI _ _ _ _ _ (by omega) hi' hl' rfl) (hAx _ _ _ _ _ _ hax (by omega) hl' rfl) hlen) ?_
    have ends : ∀ (jump : Option Code) (W3 : World), KeepsFrom B (V.putObj (B + 1) (R .busy none)) W3 →
        (Instr.endRound (B + 1) jump).run P W3 = .ok (.bool jump.isNone) (W3.putObj (B + 1) (R (if jump.isNone then .ready else .done) jump)) ∧ W3.heap[B + 1]? = some (R .busy none) ∧
        (W3.putObj (B + 1) (R (if jump.isNone then .ready else .done) jump)).heap[B + 1]? = some (R (if jump.isNone then .ready else .done) jump) ∧
        (W3.putObj (B + 1) (R (if jump.isNone then .ready else .done) jump)).heap[B]? = some (.deferred (some [])) := by
      intro jump W3 hk3
      have hl3 := hk3.same _ _ (by omega) hl2 rfl
      exact ⟨run_endRound (P := P) jump hl3, hl3, World.putObj_heap_same (Array.getElem?_eq_some_iff.1 hl3).1, (World.putObj_heap_other (by omega)).trans (hk3.same _ _ (Nat.le_refl _) hd2 rfl)⟩
    have leaves : ∀ (c : Code) (W3 : World), KeepsFrom B (V.putObj (B + 1) (R .busy none)) W3 → Ix c (pre ++ [x]) W3 →
        ∃ b W4, (Instr.endRound (B + 1) (some c)).run P W3 = .ok b W4 ∧ ((Ending.returned b = .returned (.bool true) ∧ (I (pre ++ [x]) W4 ∧ W4.heap[B + 1]? = some (R .ready none) ∧ W4.heap[B]? = some (.deferred (some []))) ∧ Kp W W4) ∨
          (Ending.returned b = .returned (.bool false) ∧ ∃ c, Ix c (pre ++ [x]) W4 ∧ W4.heap[B + 1]? = some (R .done (some c)) ∧ W4.heap[B]? = some (.deferred (some [])))) := by
      intro c W3 hk3 hx
      obtain ⟨e1, -, e3, e4⟩ := ends (some c) W3 hk3
      exact ⟨_, _, e1, .inr ⟨rfl, c, tIx _ _ _ _ _ _ (by omega) hx (hk3.same _ _ (by omega) hl2 rfl) rfl, e3, e4⟩⟩
    rintro e a3 W3 hp
    cases e with
    | normal =>
      obtain ⟨hk3, hkp3, hi3⟩ := hp
      obtain ⟨e1, e2, e3, e4⟩ := ends none W3 hk3
      exact ⟨_, _, e1, .inl ⟨rfl, ⟨tI _ _ _ _ _ (by omega) hi3 e2 rfl, e3, e4⟩, hKt hkp (hKt (hKt hk2 hkp3) (hKb _ _ _ _ (by omega) e2 rfl))⟩⟩
    | ret => exact leaves _ _ hp.1 hp.2
    | exit id => exact leaves _ _ hp.1 hp.2
    | goto t => exact leaves _ _ hp.1 hp.2
    | panic ch => exact hp.elim
    | outgrown => exact hp.elim
  · rintro e W2 ⟨⟨v, rfl⟩, (⟨xs, hS, hi, hl, hd⟩ | ⟨pre, hSp, c, hi, hl, hd⟩)⟩
    · exact ⟨none, _, run_endLoop (P := P) hl (by simp), hdone _ xs _ (Nat.le_refl _) hS (tI _ _ _ _ _ (by omega) hi hl rfl) ((World.putObj_heap_other (by omega)).trans hd)⟩
    · exact ⟨some c, _, run_endLoop (P := P) hl (by simp), hstop _ c pre _ (Nat.le_refl _) hSp (tIx _ _ _ _ _ _ (by omega) hi hl rfl) ((World.putObj_heap_other (by omega)).trans hd)⟩
end
end Go.Proofs.YtpkggjobdmchlaaGreatDoor
/- wick.suiting, Suits. -/
namespace Go.Proofs.YtpkggjobdmchlaaGreatDoor
open Go.RowKit Go.Shelf
attribute [local go_sem] Oper.semAt_some
/-- What a round keeps: what the iterator reads. -/
structure SuK (Bq g b : Nat) (W W' : World) : Prop where
  size : W.heap.size ≤ W'.heap.size
  bel : Below Bq W W'
  g : W'.heap[g]? = W.heap[g]?
  b : W'.heap[b]? = W.heap[b]?
theorem SuK.refl (Bq g b : Nat) (W : World) : SuK Bq g b W W := ⟨Nat.le_refl _, Below.refl _ _, rfl, rfl⟩
theorem SuK.t {Bq g b : Nat} {X Y Z : World} (h : SuK Bq g b X Y) (k : SuK Bq g b Y Z) : SuK Bq g b X Z := ⟨Nat.le_trans h.size k.size, h.bel.trans k.bel, k.g.trans h.g, k.b.trans h.b⟩
theorem SuK.turn {B Bq g b : Nat} (hq : Bq ≤ B) (hg : g < B) (hb : b < B) (W : World) (l : Nat) (o o' : Obj) (hl : B ≤ l) (_h : W.heap[l]? = some o) (_hc : o.isCells = false) : SuK Bq g b W (W.putObj l o') :=
  ⟨by simp [World.putObj], ⟨rfl, rfl, rfl, by simp [World.putObj], fun k hk => World.putObj_heap_other (by omega)⟩, World.putObj_heap_other (by omega), World.putObj_heap_other (by omega)⟩
theorem SuK.below {Bq g b : Nat} {W W' : World} (hq : Bq ≤ W.heap.size) (hg : g < W.heap.size) (hb : b < W.heap.size) (h : Below W.heap.size W W') : SuK Bq g b W W' := ⟨h.size, h.mono hq, h.block _ hg, h.block _ hb⟩
def suitF (s : WShop) (c : Candle) (i : Nat) : List Nat := (List.range i).filter (suitsB s c)
theorem suitF_succ (s : WShop) (c : Candle) (i : Nat) : suitF s c (i + 1) = if suitsB s c i = true then suitF s c i ++ [i] else suitF s c i := by
  unfold suitF
  rw [List.range_succ, List.filter_append]
  simp only [List.filter_cons, List.filter_nil]
  split <;> simp
theorem suitF_length (s : WShop) (c : Candle) (i : Nat) : (suitF s c i).length ≤ i := by
  have := List.length_filter_le (suitsB s c) (List.range i)
  simpa [suitF] using this
theorem suiting_any (g : Nat) (w : World) : Calls Tryz.prog 63 #[.pointer (some ⟨g, 0, none⟩)] w fun e w' => e = .returned (.func (.func 96) #[] #[.pointer (some ⟨w.heap.size, 0, none⟩)]) ∧ w' = w.alloc (.cells #[.pointer (some ⟨g, 0, none⟩)] 96) := by
  go_enter Tryz.func63, Tryz.ntmps63
  go_wp2
  go_ret
  exact ⟨rfl, rfl⟩
set_option maxRecDepth 100000 in
set_option maxHeartbeats 8000000 in
theorem suit1_gives {α : Type} (encs : α → Array Value) (day : Nat → α) {s : WShop} {c : Candle} (hs : WOk s c) (hen : ∀ i, i < s.wicks.length → encs (day i) = #[.int .i64 i]) (n : Nat) (hn : 1 ≤ n) (va : Option Addr) (vc : Nat) (vx : Value) (g b Bq : Nat) (w : World) (hb : w.heap[b]? = some (.cells #[.pointer (some ⟨g, 0, none⟩)] 96)) (hg : w.heap[g]? = some (.cells (opC (.slice va s.wicks.length vc) vx s c (waxOf s c)) 104)) (hv : WShopAt Bq w (.slice va s.wicks.length vc) vx s) (hq : Bq ≤ w.heap.size) :
    IterGives2 Fence.wide n Tryz.prog 96 #[.pointer (some ⟨b, 0, none⟩)] encs (SuK Bq g b) (fun xs => xs = (suitF s c s.wicks.length).map day) (fun _ => True) 12 w := by
  intro lp J Jx W hWb hJ hJx hY h0
  have HY := Lib.hid hY
  have HEN := Lib.hid hen
  clear hen
  have HJ := Lib.hid hJ
  have HBW := Lib.hid (block_keep hb hWb)
  have HGW := Lib.hid (block_keep hg hWb)
  have HV := Lib.hid (hv.below (hWb.mono hq))
  have hqW : Bq ≤ W.heap.size := Nat.le_trans hq hWb.size
  have HFA := fun k hk vw vx g w h1 h2 => Lib.hid (faults_ok (s := s) (c := c) hs k hk vw vx g w h1 h2)
  have hn12 := hs.nw12
  have HJ0 := Lib.hid h0
  have hgl := block_lt HGW.out
  have hbl := block_lt HBW.out
  have c0 := cell_of_row _ _ 0 _ _ _ HBW.out
  have c1 := cell_of_row _ _ 0 _ _ _ HGW.out
  clear hY hJ hJx hb hg hWb h0 hv hs
  obtain ⟨nt, HNT⟩ : ∃ k, Hid (s.wicks.length = k) := ⟨_, rfl⟩
  rw [HNT.out] at hn12 HFA HGW c1 HEN ⊢
  refine callsIn_of_wp Tryz.func96 rfl trivial ?_ rfl
  simp only [Tryz.ntmps96, List.size_toArray, List.length_cons, List.length_nil, Nat.reduceAdd, Nat.reduceSub, Array.replicate_succ, Array.replicate_zero, List.push_toArray, List.append_toArray, List.nil_append, List.cons_append]
  gi_wp2_with fail
  clear c0 c1
  gi_loopw [10] (fun iv wr => ∃ i : Nat, i ≤ nt ∧ iv = .int .i64 i ∧ J ((suitF s c i).map day) wr ∧ SuK Bq g b W wr) (fun iv _ => nt - (intOf iv).toNat)
  case atStart => exact ⟨0, by omega, rfl, HJ0.out, SuK.refl _ _ _ _⟩
  case round =>
    obtain ⟨i, hi, rfl, hJi, hki⟩ := hrel
    have HJI := Lib.hid hJi
    have HKI := Lib.hid hki
    clear hJi hki
    by_cases hlt : i < nt
    · have hilt : (i : Int) < (nt : Int) := by omega
      have c0 := cell_of_row _ _ 0 _ _ _ (HKI.out.b.trans HBW.out)
      have HFS := Lib.hid (suitF_succ s c i)
      have hfl := Nat.lt_of_le_of_lt (suitF_length s c i) (show i < 12 by omega)
      gi_wp2_with fail
      refine ⟨trivial, (callsIn_wide.2 (HFA i hlt (.slice va nt vc) vx g wr (by rw [← HNT.out]; exact (HV.out.below HKI.out.bel).mono (Nat.le_trans hqW HKI.out.size)) (HKI.out.g.trans HGW.out)).out).mono ?_⟩
      rintro e w3 ⟨v, rfl, hiv, hbw⟩
      have HJ3 := Lib.hid (HJ.out _ _ _ HJI.out hbw)
      have HK3 := Lib.hid (HKI.out.t (SuK.below (Nat.le_trans hqW HKI.out.size) (Nat.lt_of_lt_of_le hgl HKI.out.size) (Nat.lt_of_lt_of_le hbl HKI.out.size) hbw))
      obtain ⟨ra, rc, rfl, -⟩ := hiv
      have hyx := HY.out _ (day i) _ HJ3.out (by rw [List.length_map]; exact hfl) HK3.out.size
      rw [HEN.out i hlt] at hyx
      have HSU : Hid (suitsB s c i = decide ((faultsV s c i).length = 0)) := by unfold Hid suitsB; cases faultsV s c i <;> simp
      generalize (faultsV s c i).length = nf at *
      clear hbw c0 HJI HKI
      by_cases h0 : nf = 0
      · subst h0
        rw [if_pos (by rw [HSU.out]; simp)] at HFS
        obtain ⟨fn, tmps, assign, body, hy, hR⟩ := hyx
        gi_wp2_with fail
        refine hR.mono ?_
        rintro e W3 (⟨rfl, hJ4, hk4⟩ | ⟨rfl, hJx4⟩)
        · have HJ4 : Hid (J ((suitF s c (i + 1)).map day) W3) := by rw [HFS.out, List.map_append]; exact hJ4
          have HK4 := Lib.hid (HK3.out.t hk4)
          clear hJ4 hk4 hy hR
          gi_wp2_with fail
          go_roundw
          case rel => exact ⟨i + 1, by omega, by simp, HJ4.out, HK4.out⟩
          case measure => simp [intOf]; omega
        · gi_wp2_with fail
          refine bodyPost_ret (results_none rfl _ _ _) rfl ?_
          exact ⟨⟨_, rfl⟩, .inr ⟨_, trivial, hJx4⟩⟩
      · rw [if_neg (by rw [HSU.out]; simpa using h0)] at HFS
        have hq0 : ((nf : Int) == 0) = false := by simp; omega
        clear hyx
        gi_wp2_with fail
        refine ⟨fun f hf => (by cases hf), ?_⟩
        apply_assumption
        gi_wp2_with fail
        go_roundw
        case rel => exact ⟨i + 1, by omega, by simp, by rw [HFS.out]; exact HJ3.out, HK3.out⟩
        case measure => simp [intOf]; omega
    · obtain rfl : i = nt := by omega
      gi_wp2_with fail
      go_end0
      exact ⟨⟨_, rfl⟩, .inl ⟨_, by rw [← HNT.out], HJI.out⟩⟩
end Go.Proofs.YtpkggjobdmchlaaGreatDoor
/- slices.AppendSeq and Collect at the wicks that suit; Suits. -/
namespace Go.Proofs.YtpkggjobdmchlaaGreatDoor
open Go.RowKit Go.Shelf
attribute [local go_sem] Oper.semAt_some
/-- What holds after some wicks: the row. -/
structure ApI (w : World) (pre : List Nat) (W : World) : Prop where
  row : ∃ tv, W.heap[w.heap.size]? = some (.cells #[tv] 49) ∧ W.ownsRow (w.heap.size + 1) 3 1 tv pre.length ((pre.map (fun i : Nat => (i : Int))).map (Value.int .i64))
  bel : Below w.heap.size w W
  size : w.heap.size + 1 ≤ W.heap.size
theorem ApI.stab {w : World} (pre : List Nat) : StabB (ApI w pre) := by
  intro W W' h hb
  obtain ⟨tv, h1, h2⟩ := h.row
  exact ⟨⟨tv, block_keep h1 hb, ownsRow.below h2 hb⟩, h.bel.trans (hb.mono (by have := h.size; omega)), Nat.le_trans h.size hb.size⟩
theorem cells_turn {W : World} {l : Nat} {o o' : Obj} (hl : W.heap[l]? = some o) (hc : o.isCells = false) (k : Nat) (cs : Array Value) (t : TypeId) (fr : Nat × Nat) (h : W.heap[k]? = some (.cells cs t fr)) : (W.putObj l o').heap[k]? = some (.cells cs t fr) := by
  by_cases e : k = l
  · subst e
    rw [h] at hl
    cases hl
    simp [Obj.isCells] at hc
  · exact (World.putObj_heap_other e).trans h
theorem ApI.turn {w : World} (pre : List Nat) : Turny (w.heap.size + 1) (ApI w pre) := by
  intro W l o o' hB h hl hc
  obtain ⟨tv, h1, h2⟩ := h.row
  refine ⟨⟨tv, cells_turn hl hc _ _ _ _ h1, ownsRow.keepC h2 (fun k cs t fr hk => cells_turn hl hc k cs t fr hk)⟩, h.bel.trans ⟨rfl, rfl, rfl, by simp [World.putObj], fun k hk => World.putObj_heap_other (by omega)⟩, by simp [World.putObj]; exact h.size⟩
theorem infoLI : (Tryz.prog.info? 49).map (·.size) = some 1 := by kernel_rfl
set_option maxRecDepth 100000 in
set_option maxHeartbeats 8000000 in
theorem appendSeq_ok {s : WShop} {c : Candle} (hs : WOk s c) (va : Option Addr) (vc : Nat) (vx : Value) (g b : Nat) (w : World) (hb : w.heap[b]? = some (.cells #[.pointer (some ⟨g, 0, none⟩)] 96)) (hg : w.heap[g]? = some (.cells (opC (.slice va s.wicks.length vc) vx s c (waxOf s c)) 104)) (hv : WShopAt w.heap.size w (.slice va s.wicks.length vc) vx s) :
    Calls Tryz.prog 95 #[.slice none 0 0, .func (.func 96) #[] #[.pointer (some ⟨b, 0, none⟩)]] w fun e w' => ∃ v, e = .returned v ∧ IntsIn .i64 w'.heap.size w' v (suitsV s c) ∧ Below w.heap.size w w' := by
  obtain ⟨i0, hi0, hz0, hz1, hz2⟩ := info3'
  have HI0 := Lib.hid hi0
  have HZ0 := Lib.hid hz0
  have HZ1 := Lib.hid hz1
  have HZ2 := Lib.hid hz2
  clear hi0 hz0 hz1 hz2
  have HN12 := Lib.hid hs.nw12
  have HSU : Hid (suitsV s c = (suitF s c s.wicks.length).map (fun i : Nat => (i : Int))) := rfl
  have HSL := Lib.hid (suitF_length s c s.wicks.length)
  have HBA : Hid (Below w.heap.size w (w.alloc (.cells #[.slice none 0 0] 49))) := (Below.refl _ _).alloc (Nat.le_refl _) _
  have HZS : Hid ((w.alloc (.cells #[.slice none 0 0] 49)).heap.size = w.heap.size + 1) := by unfold Hid; simp
  have HGV := Lib.hid (suit1_gives (fun i : Nat => #[.int .i64 i]) id hs (fun _ _ => rfl) 2 (by omega) va vc vx g b w.heap.size (w.alloc (.cells #[.slice none 0 0] 49)) (block_keep hb HBA.out) (block_keep hg HBA.out) (hv.below HBA.out) HBA.out.size)
  have HI1 : Hid (ApI w [] (w.alloc (.cells #[.slice none 0 0] 49))) := ⟨⟨.slice none 0 0, heap_alloc_new _ _, World.ownsRow_nil _ _ _ _⟩, HBA.out, by rw [HZS.out]; exact Nat.le_refl _⟩
  have hgl := block_lt hg
  have hbl := block_lt hb
  rw [HSU.out]
  clear HSU hs hb hg hv
  refine (callsIn_wide (n := 3)).1 ?_
  refine callsIn_of_wp_marks Tryz.func95 rfl trivial ?_ rfl
  simp only [Tryz.ntmps95, List.size_toArray, List.length_cons, List.length_nil, Nat.reduceAdd, Nat.reduceSub, Array.replicate_succ, Array.replicate_zero, List.push_toArray, List.append_toArray, List.nil_append, List.cons_append]
  gi_wp2_with fail
  refine wpIn_range_stab (α := Nat) rfl (by omega) (gf := 96) (lb := #[.pointer (some ⟨b, 0, none⟩)]) rfl trivial (enters_of Tryz.func96 (by kernel_rfl) rfl) HGV.out
    (fun h k => SuK.t h k) (SuK.turn (by simp) (by simp; omega) (by simp; omega)) (fun _ => rfl)
    (fun pre W => ApI w pre W) (fun _ _ _ => False) (fun pre => ApI.stab pre) (fun _ _ _ _ h _ => h) (fun pre => by rw [HZS.out]; exact ApI.turn pre) (fun _ _ _ _ _ _ _ h _ _ => h) HI1.out
    (fun x a' _ => a' = { tmps := #[.slice none 0 0, .func (.func 96) #[] #[.pointer (some ⟨b, 0, none⟩)], .pointer (some ⟨w.heap.size, 0, none⟩), undef, .slice none 0 0, .int .i64 x, .func (.func 96) #[] #[.pointer (some ⟨b, 0, none⟩)], .int .i64 x, undef, undef, undef, undef, undef], defers := [] }) (fun x a' W l o o' h _ _ _ => h) ?assign ?body ?done ?stop
  case stop =>
    intro D c pre W _ _ h _
    exact h.elim
  case assign =>
    intro lp pre x W K hI hszV hK
    have HK := Lib.hid hK
    have HI := Lib.hid hI
    clear hK hI
    gi_wp2_with fail
    exact HK.out _ _ ⟨Nat.le_refl _, fun _ _ _ h _ => h⟩ (SuK.refl _ _ _ _) HI.out rfl
  case body =>
    rintro lp pre x a' W hszW hI rfl hlen
    obtain ⟨tv, h1, h2⟩ := hI.row
    have HR := Lib.hid h2
    have HB := Lib.hid h1
    have HBL := Lib.hid hI.bel
    have HS := Lib.hid hI.size
    obtain ⟨ra, rc, rfl⟩ := ownsRow_slice h2
    have c0 := cell_of_row _ _ 0 _ _ _ HB.out
    have hs1 := HS.out
    clear h1 h2 hI
    gi_wp2_with (first | (refine wpListIn_append_own (o := ⟨some 11, _, _, _, _, _⟩) (W.alloc (.cells #[.int .i64 x] 3)) rfl _ _ 49 rfl (w.heap.size + 1) 3 i0 (.int .i64 0) 1 8 Tryz.underlying49 HI0.out HZ0.out HZ1.out HZ2.out rfl (by decide) (.slice ra pre.length rc) pre.length ((pre.map (fun i : Nat => (i : Int))).map (Value.int .i64)) ?_ ?_ ⟨W.heap.size, 0, none⟩ 1 1 [.int .i64 x] ?_ ?_ ?_ ?_ ?_ ?_ ?_ ?_; (exact rfl); (exact HR.out.alloc _); (exact rfl); (exact rfl); (exact cell_news _ _ _ _ (heap_alloc_new _ _)); (exact one_int _); (unfold maxLen; omega); omega; (simp; omega); intro v' w8 hown hgrow _; obtain ⟨ra', rc', rfl⟩ := ownsRow_slice hown; have HO8 := Lib.hid hown; have HBW8 := Lib.hid ((HBL.out.alloc (by omega) (.cells #[.int .i64 x] 3)).grown hgrow (by simp; omega) (fun k e => by have := (HR.out.lt k e).1; omega)); have HNK := Lib.hid ((NonK.below ((Below.refl W.heap.size W).alloc (Nat.le_refl _) (.cells #[.int .i64 x] 3))).trans (NonK.grown (HR.out.alloc (.cells #[.int .i64 x] 3)) hgrow)); have HC8 : Hid (w8.heap[w.heap.size]? = some (.cells #[.slice ra pre.length rc] 49)) := (hgrow.block w.heap.size (by simp; omega) (fun e => by have := (HR.out.lt _ e.symm).1; omega)).trans (block_keep HB.out ((Below.refl _ _).alloc (Nat.le_refl _) _)); have HZ8 : Hid (W.heap.size ≤ w8.heap.size) := (by have h1 := hgrow.size; unfold Hid; simp at h1; omega); clear hown hgrow c0; have C8 := Lib.hid (Bs.snoc (l := []) (w := w) ⟨by simp, by simp, by simp, HBW8.out⟩ (by simp) HC8.out (Nat.le_refl _))) | (refine wpListIn_cell_bb (o := ⟨none, .store 49 (.tmp 2) (.tmp 11), _, _, _, _⟩) rfl 49 _ _ rfl C8.out 0 w.heap.size 0 _ _ rfl ?_ (.slice ra' (pre.length + 1) rc') ?_ ?_ ?_ ?_ ?_; (exact rfl); (exact rfl); (simp); (exact rfl); (exact infoLI); intro w9 hC9 hB9; have HC9 := Lib.hid (hC9.get 0 rfl); have HBW9 := Lib.hid hC9.bel; have HB9 := Lib.hid hB9; clear hC9 hB9 C8) | fail)
    try simp only [Exit.inBlock]
    have hz9 : W.heap.size ≤ w9.heap.size := Nat.le_trans HZ8.out HB9.out.size
    refine ⟨⟨hz9, fun q o hq hqo hnc => ?_⟩, ⟨hz9, ⟨HBW9.out.os.trans HBL.out.os.symm, HBW9.out.tape.trans HBL.out.tape.symm, HBW9.out.output.trans HBL.out.output.symm, hz9, fun k hk => (HBW9.out.block k hk).trans (HBL.out.block k hk).symm⟩, (HBW9.out.block g hgl).trans (HBL.out.block g hgl).symm, (HBW9.out.block b hbl).trans (HBL.out.block b hbl).symm⟩, ⟨⟨_, HC9.out, ?_⟩, HBW9.out, by omega⟩⟩
    · have h8 := HNK.out q o hqo hnc
      by_cases e : q = w.heap.size
      · subst e
        rw [HC8.out] at h8
        cases h8
        simp [Obj.isCells] at hnc
      · exact (HB9.out.block q (block_lt h8) e).trans h8
    · have h9 := ownsRow.but HO8.out HB9.out HC8.out (by decide)
      rw [List.length_append, List.map_append, List.map_append]
      exact h9
  case done =>
    intro Dm xs W hD hS hI hDW
    obtain ⟨tv, h1, h2⟩ := hI.row
    have HR := Lib.hid h2
    have HB := Lib.hid h1
    have HBL := Lib.hid hI.bel
    obtain ⟨ra, rc, rfl⟩ := ownsRow_slice h2
    have c0 := cell_of_row _ _ 0 _ _ _ HB.out
    clear h1 h2 hI
    gi_wp2_with fail
    refine leaves_marks (B := w.heap.size + 1) ⟨⟨Dm, rfl, by rw [HZS.out] at hD; exact hD, hDW, by simp⟩, trivial⟩ (fun w' hck => ?_)
    simp only [LeavesInM, LeavesIn]
    rw [List.map_id] at hS
    have hxl : xs.length ≤ 12 := by rw [hS]; have := HSL.out; have := HN12.out; omega
    refine ⟨_, results_tmp rfl _ _ _, _, rfl, ?_, HBL.out.trans (hck.bel.mono (by omega))⟩
    have h2 := (ownsRow_ints (l := xs.map (fun i : Nat => (i : Int))) (by rw [List.length_map]; exact ownsRow.keepC HR.out hck.cells) (by rw [List.length_map]; omega)).1
    rw [← hS]
    exact h2
end Go.Proofs.YtpkggjobdmchlaaGreatDoor
/- slices.Collect; wick.Suits. -/
namespace Go.Proofs.YtpkggjobdmchlaaGreatDoor
open Go.RowKit
theorem collect_ok {s : WShop} {c : Candle} (hs : WOk s c) (va : Option Addr) (vc : Nat) (vx : Value) (g b : Nat) (w : World) (hb : w.heap[b]? = some (.cells #[.pointer (some ⟨g, 0, none⟩)] 96)) (hg : w.heap[g]? = some (.cells (opC (.slice va s.wicks.length vc) vx s c (waxOf s c)) 104)) (hv : WShopAt w.heap.size w (.slice va s.wicks.length vc) vx s) :
    Calls Tryz.prog 62 #[.func (.func 96) #[] #[.pointer (some ⟨b, 0, none⟩)]] w fun e w' => ∃ v, e = .returned v ∧ IntsIn .i64 w'.heap.size w' v (suitsV s c) ∧ Below w.heap.size w w' := by
  have HA := Lib.hid (appendSeq_ok hs va vc vx g b w hb hg hv)
  clear hb hg hv hs
  go_enter Tryz.func62, Tryz.ntmps62
  go_wp2_with fail
  refine HA.out.mono ?_
  rintro e w1 ⟨v, rfl, hi, hb⟩
  have HI := Lib.hid hi
  have HB := Lib.hid hb
  clear hi hb HA
  obtain ⟨ra, rc, rfl, -⟩ := HI.out
  go_wp2_with fail
  go_ret
  exact ⟨_, rfl, HI.out, HB.out⟩
set_option maxRecDepth 100000 in
set_option maxHeartbeats 16000000 in
theorem Suits_ok {s : WShop} {c : Candle} (hs : WOk s c) (vw vx : Value) (w : World) (hv : WShopAt w.heap.size w vw vx s) :
    Calls Tryz.prog 25 #[.agg (wshopC vw vx s), .agg (candC c)] w fun e w' => ∃ v, e = .returned (.tuple #[v, .int .i64 0]) ∧ IntsIn .i64 w'.heap.size w' v (suitsV s c) ∧ Below w.heap.size w w' := by
  have HCO := fun va vc vx g b w hb hg hv => Lib.hid (collect_ok hs va vc vx g b w hb hg hv)
  obtain ⟨va, vc, rfl, hvl, -⟩ := sl_shape hv.1
  obtain ⟨xa, xc, rfl, hxl, -⟩ := sl_shape hv.2
  have HV := Lib.hid hv
  have HOP := fun vk w h1 h2 => Lib.hid (wopen_ok hs [] (by intro z hz; simp at hz) (.slice va s.wicks.length vc) (.slice xa s.waxes.length xc) vk w h1 h2)
  have C0 : Hid (Bs w [(w.heap.size, .cells #[.slice va s.wicks.length vc, .slice xa s.waxes.length xc, .int .i64 s.flame.1, .int .i64 s.flame.2, .int .i64 s.pool.1, .int .i64 s.pool.2] 27), (w.heap.size + 1, .cells #[.int .i64 c.wax, .int .i64 c.dia, .int .i64 c.draught, .int .i64 c.cold.1, .int .i64 c.cold.2] 32)] _) := Lib.hid (((Bs.nil w).push _ rfl (.cells #[.slice va s.wicks.length vc, .slice xa s.waxes.length xc, .int .i64 s.flame.1, .int .i64 s.flame.2, .int .i64 s.pool.1, .int .i64 s.pool.2] 27)).push (w.heap.size + 1) (by simp) (.cells #[.int .i64 c.wax, .int .i64 c.dia, .int .i64 c.draught, .int .i64 c.cold.1, .int .i64 c.cold.2] 32))
  have hc0 := C0.out.cell 0 rfl 0
  have hc1 := C0.out.cell 0 rfl 1
  have hc2 := C0.out.cell 0 rfl 2
  have hc3 := C0.out.cell 0 rfl 3
  have hc4 := C0.out.cell 0 rfl 4
  have hc5 := C0.out.cell 0 rfl 5
  have hk0 := C0.out.cell 1 rfl 0
  have hk1 := C0.out.cell 1 rfl 1
  have hk2 := C0.out.cell 1 rfl 2
  have hk3 := C0.out.cell 1 rfl 3
  have hk4 := C0.out.cell 1 rfl 4
  clear hs hv
  go_enter Tryz.func25, Tryz.ntmps25
  go_wp2_with fail
  refine (HOP _ _ ((HV.out.below C0.out.bel).mono C0.out.bel.size) ⟨none, 0, rfl, by simp, .inl rfl⟩).out.mono ?_
  rintro e w1 ⟨g, rfl, -, hg, hb⟩
  have C1 := Lib.hid (C0.out.call hb)
  have HG := Lib.hid hg
  clear hb hg C0 HOP hc0 hc1 hc2 hc3 hc4 hc5 hk0 hk1 hk2 hk3 hk4
  go_wp2_with fail
  refine (suiting_any g _).mono ?_
  rintro e w2 ⟨rfl, rfl⟩
  have HB2 : Hid (Below w1.heap.size w1 (w1.alloc (.cells #[.pointer (some ⟨g, 0, none⟩)] 96))) := (Below.refl _ _).alloc (Nat.le_refl _) _
  have C2 := Lib.hid (C1.out.call HB2.out)
  go_wp2_with fail
  refine (HCO va vc (.slice xa s.waxes.length xc) g w1.heap.size _ (heap_alloc_new _ _) (block_keep HG.out HB2.out) ((HV.out.below C2.out.bel).mono C2.out.bel.size)).out.mono ?_
  rintro e w3 ⟨v, rfl, hi, hb⟩
  have C3 := Lib.hid (C2.out.call hb)
  have HI := Lib.hid hi
  clear hb hi C1 C2 HCO HV HB2
  obtain ⟨ra, rc, rfl, -⟩ := HI.out
  go_wp2_with fail
  go_ret2
  exact ⟨_, rfl, HI.out, C3.out.bel⟩
end Go.Proofs.YtpkggjobdmchlaaGreatDoor
