/- scent.of: the iterator over the things of a kind. -/
import Derived.RangeFuncNested
import Derived.RangeFuncBound
import Derived.RangeFuncCalls
import Derived.RangeFuncLeaves
import Derived.Shelf.Abstract
import Derived.Shelf.RegionOpen
import Derived.OwnWalkIn
import Derived.TacticsInMore
import Derived.LoopNIn
import Derived.LoopIn
import Derived.Test.YtaigbhhmmdfdcaaIt
import Derived.Test.YtaigbhhmmdfdcaaP5
namespace Go.Proofs.Ytaigbhhmmdfdcaa
open Go.RowKit Go.Shelf
attribute [local go_sem] Oper.semAt_some
/-- What a round keeps: the blocks that the iterator has. -/
structure MiK (B bm bo : Nat) (W W' : World) : Prop where
  size : W.heap.size ≤ W'.heap.size
  own : ∀ k cs t fr, B ≤ k → W.heap[k]? = some (.cells cs t fr) → W'.heap[k]? = some (.cells cs t fr)
  m : W'.heap[bm]? = W.heap[bm]?
  o : W'.heap[bo]? = W.heap[bo]?
theorem MiK.t {B bm bo : Nat} {X Y Z : World} (h : MiK B bm bo X Y) (k : MiK B bm bo Y Z) : MiK B bm bo X Z :=
  ⟨Nat.le_trans h.size k.size, fun i cs t fr hB hi => k.own i cs t fr hB (h.own i cs t fr hB hi), k.m.trans h.m, k.o.trans h.o⟩
theorem MiK.b {B bm bo : Nat} (hm : bm < B) (ho : bo < B) (W : World) (l : Nat) (o o' : Obj) (hl : B ≤ l) (h : W.heap[l]? = some o) (hc : o.isCells = false) : MiK B bm bo W (W.putObj l o') := by
  refine ⟨by simp [World.putObj], fun k cs t fr _ hk => ?_, World.putObj_heap_other (by omega), World.putObj_heap_other (by omega)⟩
  by_cases e : k = l
  · subst e
    rw [h] at hk
    cases hk
    simp [Obj.isCells] at hc
  · exact (World.putObj_heap_other e).trans hk
theorem MiK.below {B bm bo : Nat} {W W' : World} (hm : bm < W.heap.size) (ho : bo < W.heap.size) (h : Below W.heap.size W W') : MiK B bm bo W W' :=
  ⟨h.size, fun _ _ _ _ _ hk => block_keep hk h, h.block _ hm, h.block _ ho⟩
/-- A store below B. -/
theorem MiK.setRow {B bm bo X : Nat} (hX : X < B) (hm : bm ≠ X) (ho : bo ≠ X) (W : World) (cs : Array Value) : MiK B bm bo W (W.setRow X cs) :=
  ⟨by simp, fun k _ _ _ hk h => (setRow_other W X k cs (by omega)).trans h, setRow_other W X bm cs hm, setRow_other W X bo cs ho⟩

/-- What the iterator hands on: the index and the thing. -/
def encT (l : List Thing) (i : Nat) : Array Value := #[.int .i64 i, .agg #[.string (l.getD i default).name, .int .i64 (l.getD i default).kind, .int .i64 (l.getD i default).limit, .int .i64 (l.getD i default).weak, .int .i64 (l.getD i default).fade]]
/-- The first things of a kind. -/
def filtK (l : List Thing) (K : Int) (k : Nat) : List Nat := (List.range k).filter fun i => (l.getD i default).kind == K
theorem filtK_succ (l : List Thing) (K : Int) (k : Nat) : filtK l K (k + 1) = if ((l.getD k default).kind == K) = true then filtK l K k ++ [k] else filtK l K k := by
  unfold filtK
  rw [List.range_succ, List.filter_append]
  simp only [List.filter_cons, List.filter_nil]
  split <;> simp
theorem filtK_length (l : List Thing) (K : Int) (k : Nat) : (filtK l K k).length ≤ k := by
  have := List.length_filter_le (fun i => (l.getD i default).kind == K) (List.range k)
  simpa [filtK] using this
theorem of_any (K : Int) (vt vl : Value) (w : World) (ht : ∃ a n c, vt = .slice a n c) (hl : ∃ a n c, vl = .slice a n c) : Calls Try.prog 75 #[.agg #[vt, vl], .int .i64 K] w
    fun e w' => e = .returned (.func (.func 101) #[] #[.pointer (some ⟨w.heap.size, 0, none⟩), .pointer (some ⟨w.heap.size + 1, 0, none⟩)]) ∧
      w' = (w.alloc (.cells #[vt, vl] 25)).alloc (.cells #[.int .i64 K] 3) := by
  obtain ⟨a, n, c, rfl⟩ := ht
  obtain ⟨a2, n2, c2, rfl⟩ := hl
  go_enter Try.func75, Try.ntmps75
  go_wp2
  go_ret
  exact ⟨rfl, rfl⟩
set_option maxRecDepth 100000 in
set_option maxHeartbeats 8000000 in
theorem of1_gives {α : Type} (encs : α → Array Value) (day : Nat → α) (l : List Thing) (K : Int) (n : Nat) (hn : 1 ≤ n) (h5 : l.length ≤ 5) (bs bk tb tof tc : Nat) (vl : Value) (w : World) (hbs : w.heap[bs]? = some (.cells #[.slice (some ⟨tb, tof, none⟩) l.length tc, vl] 25)) (hbk : w.heap[bk]? = some (.cells #[.int .i64 K] 3))
    (htb : tb < w.heap.size) (hlc : l.length ≤ tc) (hT : ∀ i, i < l.length → rdThing.rd w.heap.size w tb (tof + i * 5) (l.getD i default)) (hen : ∀ i, i < l.length → encs (day i) = encT l i) :
    IterGives Fence.wide n Try.prog 101 #[.pointer (some ⟨bs, 0, none⟩), .pointer (some ⟨bk, 0, none⟩)] encs (MiK w.heap.size tb bk) (fun xs => xs = (filtK l K l.length).map day) (fun _ => True) 5 w := by
  intro lp J Jx W hWb hJ hJx hY h0
  have HY := Lib.hid hY
  have HDY := Lib.hid hen
  clear hen
  have HJ := Lib.hid hJ
  have hbsW := block_keep hbs hWb
  have hbkW := block_keep hbk hWb
  have HT : Hid (∀ i, i < l.length → rdThing.rd w.heap.size W tb (tof + i * 5) (l.getD i default)) := fun i hi => rdThing.below htb hWb (hT i hi)
  have HBK := Lib.hid hbkW
  have hbkl : bk < W.heap.size := block_lt hbkW
  have htbl : tb < W.heap.size := Nat.lt_of_lt_of_le htb hWb.size
  have hwW := hWb.size
  have c0 := cell_of_row _ _ 0 _ _ _ hbsW
  have hbsl := block_lt hbsW
  have HJ0 := Lib.hid h0
  clear hY hJ hJx hbs hbk hbsW hbkW hWb hT h0
  obtain ⟨nt, HNT⟩ : ∃ k, Hid (l.length = k) := ⟨_, rfl⟩
  rw [HNT.out] at h5 hlc c0 HT HDY ⊢
  refine callsIn_of_wp Try.func101 rfl trivial ?_ rfl
  simp only [Try.ntmps101, List.size_toArray, List.length_cons, List.length_nil, Nat.reduceAdd, Nat.reduceSub, Array.replicate_succ, Array.replicate_zero, List.push_toArray, List.append_toArray, List.nil_append, List.cons_append]
  gi_wp2_with fail
  gi_loopw [9] (fun iv wr => ∃ i : Nat, i ≤ nt ∧ iv = .int .i64 i ∧ J ((filtK l K i).map day) wr ∧ wr.heap[tb]? = W.heap[tb]? ∧ wr.heap[bk]? = W.heap[bk]? ∧ W.heap.size ≤ wr.heap.size) (fun iv _ => nt - (intOf iv).toNat)
  case atStart => exact ⟨0, by omega, rfl, HJ0.out, rfl, rfl, Nat.le_refl _⟩
  case round =>
    obtain ⟨i, hi, rfl, hJi, htbi, hbki, hszi⟩ := hrel
    have HJI := Lib.hid hJi
    have HTI := Lib.hid htbi
    have HKI := Lib.hid hbki
    clear hJi htbi hbki c0
    by_cases hlt : i < nt
    · have up : ∀ j, wr.cell? ⟨tb, j, none⟩ = W.cell? ⟨tb, j, none⟩ := fun j => World.cell?_of_block HTI.out
      obtain ⟨x1, x2, x3, x4, x5, -⟩ := HT.out i hlt
      have x1 := (up _).trans x1
      have x2 := (up _).trans x2
      have x3 := (up _).trans x3
      have x4 := (up _).trans x4
      have x5 := (up _).trans x5
      have k0 := cell_of_row _ _ 0 _ _ _ (HKI.out.trans HBK.out)
      have HFS := Lib.hid (filtK_succ l K i)
      have hfl := Nat.lt_of_le_of_lt (filtK_length l K i) (show i < 5 by omega)
      have HEN : Hid (encs (day i) = #[.int .i64 i, .agg #[.string (l.getD i default).name, .int .i64 (l.getD i default).kind, .int .i64 (l.getD i default).limit, .int .i64 (l.getD i default).weak, .int .i64 (l.getD i default).fade]]) := HDY.out i hlt
      have hba := (Below.refl wr.heap.size wr).alloc (Nat.le_refl _) (.cells #[.string (l.getD i default).name, .int .i64 (l.getD i default).kind, .int .i64 (l.getD i default).limit, .int .i64 (l.getD i default).weak, .int .i64 (l.getD i default).fade] 62)
      have HJA := Lib.hid (HJ.out _ _ _ HJI.out (hba.mono hszi))
      have HBA := Lib.hid hba
      clear up hba
      by_cases hK : (l.getD i default).kind = K
      · have hyx := HY.out _ (day i) _ HJA.out (by rw [List.length_map]; exact hfl) (Nat.le_trans hszi HBA.out.size)
        rw [HEN.out] at hyx
        rw [if_pos (by simpa using hK)] at HFS
        have hq : ((l.getD i default).kind == K) = true := by simpa using hK
        generalize l.getD i default = x at *
        obtain ⟨nm, kd, lm, wk, fd⟩ := x
        simp only at x1 x2 x3 x4 x5 hq hyx HJA HBA
        clear hK
        obtain ⟨fn, tmps, assign, body, hy, hR⟩ := hyx
        have hilt : (i : Int) < (nt : Int) := by omega
        have hbkr : bk < wr.heap.size := by omega
        gi_wp2_with fail
        refine hR.mono ?_
        rintro e W3 (⟨rfl, hJ3, hk3⟩ | ⟨rfl, hJx3⟩)
        · have HJ3 : Hid (J ((filtK l K (i + 1)).map day) W3) := by rw [HFS.out, List.map_append]; exact hJ3
          have HT3 : Hid (W3.heap[tb]? = W.heap[tb]?) := hk3.m.trans ((HBA.out.block tb (by omega)).trans HTI.out)
          have HK3 : Hid (W3.heap[bk]? = W.heap[bk]?) := hk3.o.trans ((HBA.out.block bk (by omega)).trans HKI.out)
          have hs3 : W.heap.size ≤ W3.heap.size := Nat.le_trans (Nat.le_trans hszi HBA.out.size) hk3.size
          clear hJ3 hk3 x1 x2 x3 x4 x5 k0 hy hR
          gi_wp2_with fail
          go_roundw
          case rel => exact ⟨i + 1, by omega, by simp, HJ3.out, HT3.out, HK3.out, hs3⟩
          case measure => simp [intOf]; omega
        · gi_wp2_with fail
          refine bodyPost_ret (results_none rfl _ _ _) rfl ?_
          exact ⟨⟨_, rfl⟩, .inr ⟨_, trivial, hJx3⟩⟩
      · rw [if_neg (by simpa using hK)] at HFS
        have hq : ((l.getD i default).kind == K) = false := by simpa using hK
        generalize l.getD i default = x at *
        obtain ⟨nm, kd, lm, wk, fd⟩ := x
        simp only at x1 x2 x3 x4 x5 hq HJA HBA
        clear hK
        have hilt : (i : Int) < (nt : Int) := by omega
        have hbkr : bk < wr.heap.size := by omega
        gi_wp2_with fail
        refine ⟨fun f hf => (by cases hf), ?_⟩
        apply_assumption
        gi_wp2_with fail
        go_roundw
        case rel =>
          refine ⟨i + 1, by omega, by simp, by rw [HFS.out]; exact HJA.out, (HBA.out.block tb (by omega)).trans HTI.out, (HBA.out.block bk (by omega)).trans HKI.out, Nat.le_trans hszi HBA.out.size⟩
        case measure => simp [intOf]; omega
    · obtain rfl : i = nt := by omega
      gi_wp2_with fail
      go_end0
      exact ⟨⟨_, rfl⟩, .inl ⟨_, rfl, HJI.out⟩⟩
end Go.Proofs.Ytaigbhhmmdfdcaa
