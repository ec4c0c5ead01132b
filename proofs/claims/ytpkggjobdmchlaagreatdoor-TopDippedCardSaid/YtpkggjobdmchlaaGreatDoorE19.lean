/- dip.Fewest. -/
import Derived.Deep.Cut
import Derived.Deep.CutBlock
import Derived.Maps.OwnIn
import Derived.Test.YtpkggjobdmchlaaGreatDoorE15
import Derived.Test.YtpkggjobdmchlaaGreatDoorE13
namespace Go.Proofs.YtpkggjobdmchlaaGreatDoor
open Go.RowKit Go.ChangeMaps Go.MapKept
/-- The fewest dips. -/
def fewR (q : TQ) : Option (List Nat) := (List.range 11).findSome? fun m => firstP q m zeroC (stOf q zeroC)
structure FewOk (s : DShop) (ks : List DDip) (bound : Int) : Prop where
  all : ∀ d ∈ ks, DipOk s d
  n1 : 1 ≤ ks.length
  n5 : ks.length ≤ 5
  bound : 0 ≤ bound
/-- A search about these things. -/
def IsQ (s : DShop) (t : DTap) (lo hi bound : Int) (ks : List DDip) (q : TQ) : Prop := q.s = s ∧ q.t = t ∧ q.lo = lo ∧ q.hi = hi ∧ q.bound = bound ∧ q.ks = ks
/-- What Fewest returns. -/
def RetFew (s : DShop) (t : DTap) (lo hi bound : Int) (ks : List DDip) (w : World) : Ending → World → Prop := fun e w' => ∃ (v : Value) (E : Int), e = .returned (.tuple #[v, .int .i64 E]) ∧ Below w.heap.size w w' ∧
  ((E ≠ 0 ∧ (FewOk s ks bound → ∃ q, IsQ s t lo hi bound ks q ∧ fewR q = none)) ∨ (E = 0 ∧ FewOk s ks bound ∧ ∃ q p, IsQ s t lo hi bound ks q ∧ fewR q = some p ∧ IntsIn .i64 w'.heap.size w' v (p.map fun i : Nat => (i : Int))))
theorem planE_all {s : DShop} {ks : List DDip} (h : planE s ks = 0) : ∀ d ∈ ks, DipOk s d := by
  intro d hd
  obtain ⟨i, hi, rfl⟩ := List.getElem_of_mem hd
  have h1 := (planE_zero.1 h).2 i hi
  rw [List.getD_eq_getElem?_getD, List.getElem?_eq_getElem hi] at h1
  exact h1
theorem planE_of {s : DShop} {ks : List DDip} (h : ∀ d ∈ ks, DipOk s d) (hn : ks.length ≤ 30) : planE s ks = 0 := planE_zero.2 ⟨hn, fun i hi => by
  rw [List.getD_eq_getElem?_getD, List.getElem?_eq_getElem hi]
  exact h _ (List.getElem_mem hi)⟩
theorem few_snoc {q : TQ} {k : Nat} : (List.range (k + 1)).findSome? (fun m => firstP q m zeroC (stOf q zeroC)) = ((List.range k).findSome? (fun m => firstP q m zeroC (stOf q zeroC))).or (firstP q k zeroC (stOf q zeroC)) := by
  rw [List.range_succ, List.findSome?_append]
  congr 1
  simp
theorem results_cs_tmp {fn : Func} {p u : Tmp} (h : fn.results = #[.cell p 49, .tmp u]) (tmps : Array Value) (w : World) (g : Nat) (v x : Value) (hp : tmps.getD p undef = .pointer (some ⟨g, 0, none⟩)) (hu : tmps.getD u undef = x) (hg : w.cell? ⟨g, 0, none⟩ = some v) :
    (results fn tmps).run Tryz.prog w = .ok (.tuple #[v, x]) w := by
  have hp' : tmps[p]?.getD undef = .pointer (some ⟨g, 0, none⟩) := by simpa using hp
  have hu' : tmps[u]?.getD undef = x := by simpa using hu
  have hagg : (isAgg 49).run Tryz.prog w = .ok false w := by
    unfold isAgg; rw [Sem.run_bind, run_underlying Tryz.underlying49 w]; simp
  simp [results, h, hp', hu', asAddr, loadVar, hagg, hg, go_sem]
/-- What holds ahead of each number of dips. -/
structure FL (q : TQ) (wL : World) (k : Nat) (wr : World) : Prop where
  t : TryS q wr
  memo : Memo (BadK q) q.Mb (k * 20000000) wr
  best : BestAt q wr []
  tk : TK q wL wr
  vain : ∀ m, m < k → firstP q m zeroC (stOf q zeroC) = none
theorem cost_le {K : Nat} (hK : K ≤ 5) : ∀ l, cost K l ≤ cost 5 l
  | 0 => Nat.le_refl _
  | l + 1 => by
    have h1 := cost_le hK l
    have h2 := Nat.mul_le_mul hK h1
    rw [cost, cost]
    omega
theorem cost_top {l : Nat} (h : l ≤ 10) : cost 5 l ≤ 20000000 := by
  rcases (by omega : l = 0 ∨ l = 1 ∨ l = 2 ∨ l = 3 ∨ l = 4 ∨ l = 5 ∨ l = 6 ∨ l = 7 ∨ l = 8 ∨ l = 9 ∨ l = 10) with rfl | rfl | rfl | rfl | rfl | rfl | rfl | rfl | rfl | rfl | rfl <;> decide
set_option maxRecDepth 100000 in
set_option maxHeartbeats 16000000 in
theorem fewest_any {s : DShop} (hs : DOk s) {t : DTap} (ht : TapOk t) (lo hi bound : Int) (hlh : lo ≤ hi) (hbd : -9223372036854775808 ≤ bound ∧ bound ≤ 9223372036854775807) (ks : List DDip) (v kv : Value) (w : World) (hv : DBathsIn w.heap.size w v s.baths) (hk : DipsIn w.heap.size w kv ks) :
    Calls Tryz.prog 10 #[.agg (dshopC s v), .agg (tapC t), kv, .agg #[.int .i64 lo, .int .i64 hi], .int .i64 bound] w (RetFew s t lo hi bound ks w) := by
  obtain ⟨va, vc, rfl, -, -⟩ := sl_shape hv
  obtain ⟨ka, kc, rfl, hkc, hkm⟩ := sl_shape hk
  have HV := Lib.hid hv
  have HK := Lib.hid hk
  have HS := Lib.hid hs
  have HT := Lib.hid ht
  have HBD := Lib.hid hbd
  have HOP := fun v w h => Lib.hid (dopen_ok hs ht [] v (.slice none 0 0) w h (SlIn.nil _ _))
  have hpz : planE s [] = 0 := planE_of (by simp) (by simp)
  rw [hpz] at HOP
  have HPL : ∀ (lv : Value) w, DipsIn w.heap.size w lv ks → Hid (Calls Tryz.prog 45 #[.agg (dshopC s (.slice va s.baths.length vc)), lv] w fun e w' => e = .returned (.int .i64 (planE s ks)) ∧ Below w.heap.size w w') := fun lv w h => Lib.hid (plan_ok s (by have := hs.n6; omega) ks (.slice va s.baths.length vc) lv w ⟨_, _, rfl⟩ h)
  have HPE0 : ∃ P, Hid (planE s ks = P) := ⟨_, rfl⟩
  obtain ⟨P, HPE⟩ := HPE0
  rw [HPE.out] at HPL
  have hlh' : ¬ hi < lo := by omega
  have infoINS1 : (Tryz.prog.info? 49).map (·.size) = some 1 := by kernel_rfl
  have infoMT1 : (Tryz.prog.info? 111).map (·.size) = some 1 := by kernel_rfl
  have infoFT1 : (Tryz.prog.info? 112).map (·.size) = some 1 := by kernel_rfl
  clear hv hk hs ht hbd hpz hkm hkc hlh
  have C0 : Hid (Bs w [(w.heap.size, .cells (dshopC s (.slice va s.baths.length vc)) 30), (w.heap.size + 1, .cells (tapC t) 34), (w.heap.size + 2, .cells #[(.slice ka ks.length kc)] 35), (w.heap.size + 3, .cells #[.int .i64 lo, .int .i64 hi] 25), (w.heap.size + 4, .cells #[.int .i64 bound] 3), (w.heap.size + 5, .cells #[.slice none 0 0] 49)] _) := Lib.hid (((((((Bs.nil w).push _ rfl (.cells (dshopC s (.slice va s.baths.length vc)) 30)).push (w.heap.size + 1) (by simp) (.cells (tapC t) 34)).push (w.heap.size + 2) (by simp) (.cells #[(.slice ka ks.length kc)] 35)).push (w.heap.size + 3) (by simp) (.cells #[.int .i64 lo, .int .i64 hi] 25)).push (w.heap.size + 4) (by simp) (.cells #[.int .i64 bound] 3)).push (w.heap.size + 5) (by simp) (.cells #[.slice none 0 0] 49))
  go_enter Tryz.func10, Tryz.ntmps10
  go_upto_region 1 with fail
  obtain ⟨w0, HW0⟩ : ∃ z, Hid (((((((w.alloc (.cells (dshopC s (.slice va s.baths.length vc)) 30)).alloc (.cells (tapC t) 34)).alloc (.cells #[(.slice ka ks.length kc)] 35)).alloc (.cells #[.int .i64 lo, .int .i64 hi] 25)).alloc (.cells #[.int .i64 bound] 3)).alloc (.cells #[.slice none 0 0] 49)) = z) := ⟨_, rfl⟩
  rw [HW0.out] at C0 ⊢
  go_wp2_with (first | (refine wpList_load_row rfl 30 _ rfl _ rfl _ _ _ _ (C0.out.get 0 rfl) Tryz.underlying30 rfl infoDS ?_) | (refine wpList_load_row rfl 34 _ rfl _ rfl _ _ _ _ (C0.out.get 1 rfl) Tryz.underlying34 rfl infoDT ?_))
  refine (HOP _ _ ((HV.out.below C0.out.bel).mono C0.out.bel.size)).out.mono ?_
  rintro e w1 ⟨rfl, hb⟩
  have C1 := Lib.hid (C0.out.call hb)
  have HZ1 : Hid (w.heap.size + 6 ≤ w1.heap.size) := C1.out.lt 5 rfl
  clear hb C0 HOP HW0
  have CP : Hid (Bs w [(w.heap.size, .cells (dshopC s (.slice va s.baths.length vc)) 30), (w.heap.size + 1, .cells (tapC t) 34), (w.heap.size + 2, .cells #[(.slice ka ks.length kc)] 35), (w.heap.size + 3, .cells #[.int .i64 lo, .int .i64 hi] 25), (w.heap.size + 4, .cells #[.int .i64 bound] 3), (w.heap.size + 5, .cells #[.slice none 0 0] 49), (w1.heap.size, .cells #[.int .i64 0, .int .i64 0, .int .i64 0, .int .i64 0, .int .i64 0, .int .i64 0, .int .i64 0, .int .i64 0, .slice none 0 0] 106)] _) := Lib.hid (C1.out.push w1.heap.size rfl (.cells #[.int .i64 0, .int .i64 0, .int .i64 0, .int .i64 0, .int .i64 0, .int .i64 0, .int .i64 0, .int .i64 0, .slice none 0 0] 106))
  go_upto_region 2 with (refine wpList_store_bs rfl 106 _ _ rfl CP.out 6 _ (dshopC s (.slice va s.baths.length vc)) _ _ rfl rfl rfl infoDsh rfl (by simp [Value.oneCell']) ?_; intro w2 hC; have C2 : Hid (Bs w [(w.heap.size, .cells (dshopC s (.slice va s.baths.length vc)) 30), (w.heap.size + 1, .cells (tapC t) 34), (w.heap.size + 2, .cells #[(.slice ka ks.length kc)] 35), (w.heap.size + 3, .cells #[.int .i64 lo, .int .i64 hi] 25), (w.heap.size + 4, .cells #[.int .i64 bound] 3), (w.heap.size + 5, .cells #[.slice none 0 0] 49), (w1.heap.size, .cells (dshopC s (.slice va s.baths.length vc)) 106)] w2) := hC; clear hC CP C1)
  have c_k := C2.out.cell 2 rfl 0
  obtain ⟨r1, HR1⟩ : ∃ r, Hid (outB 1 5 [(ks.length : Int)] = r) := ⟨_, rfl⟩
  go_wp2_with fail
  refine (dout_row r1 1 5 [(ks.length : Int)] 1 rfl (by simp) HR1.out _ _ rfl _ (heap_alloc_new _ _)).mono ?_
  rintro e w3 ⟨rfl, hb⟩
  have C3 := Lib.hid ((C2.out.alloc _).call hb)
  clear hb C2 c_k
  cases r1 with
  | true =>
    have HNO : Hid (¬ FewOk s ks bound) := fun h => by
      have h1 := HR1.out
      rw [outB_one] at h1
      have h2 := outOneF.2 (show (1 : Int) ≤ ks.length ∧ (ks.length : Int) ≤ 5 by have := h.n1; have := h.n5; omega)
      rw [h2] at h1
      cases h1
    go_wp2_with (first | go_skip | (refine wpList_cell_bs rfl 49 _ _ rfl C3.out 5 _ 0 _ _ rfl rfl (.slice none 0 0) rfl (by simp) rfl infoINS1 ?_; intro w6 hC; have C6 := Lib.hid hC; clear hC C3))
    exact bodyPost_ret (results_cs_tmp rfl _ _ (w.heap.size + 5) (.slice none 0 0) (.int .i64 3) rfl rfl (C6.out.cell 5 rfl 0)) rfl ⟨_, 3, rfl, C6.out.bel, .inl ⟨by decide, fun h => absurd h HNO.out⟩⟩
  | false =>
    have c_k := C3.out.cell 2 rfl 0
    go_upto_region 4 with fail
    go_upto_region 5 with fail
    go_wp2_with (refine wpList_load_row rfl 106 _ rfl _ rfl _ _ _ _ (C3.out.get 6 rfl) Tryz.underlying106 rfl infoDsh ?_)
    refine (HPL _ _ ((HK.out.below C3.out.bel).mono C3.out.bel.size)).out.mono ?_
    rintro e w4 ⟨rfl, hb⟩
    have C4 := Lib.hid (C3.out.call hb)
    have HZ4 : Hid (w1.heap.size + 1 ≤ w4.heap.size) := C4.out.lt 6 rfl
    clear hb C3 c_k HPL
    by_cases hp0 : P = 0
    · subst hp0
      have c_l0 := C4.out.cell 3 rfl 0
      have c_l1 := C4.out.cell 3 rfl 1
      have c_b := C4.out.cell 4 rfl 0
      by_cases hb0 : bound < 0
      · have HNO : Hid (¬ FewOk s ks bound) := fun h => absurd h.bound (by omega)
        go_wp2_with (refine wpList_cell_bs rfl 49 _ _ rfl C4.out 5 _ 0 _ _ rfl rfl (.slice none 0 0) rfl (by simp) rfl infoINS1 ?_; intro w6 hC; have C6 := Lib.hid hC; clear hC C4)
        exact bodyPost_ret (results_cs_tmp rfl _ _ (w.heap.size + 5) (.slice none 0 0) (.int .i64 7) rfl rfl (C6.out.cell 5 rfl 0)) rfl ⟨_, 7, rfl, C6.out.bel, .inl ⟨by decide, fun h => absurd h HNO.out⟩⟩
      · go_upto_region 12 with fail
        clear c_l0 c_l1 c_b
        have C5 : Hid (Bs w [(w.heap.size, .cells (dshopC s (.slice va s.baths.length vc)) 30), (w.heap.size + 1, .cells (tapC t) 34), (w.heap.size + 2, .cells #[(.slice ka ks.length kc)] 35), (w.heap.size + 3, .cells #[.int .i64 lo, .int .i64 hi] 25), (w.heap.size + 4, .cells #[.int .i64 bound] 3), (w.heap.size + 5, .cells #[.slice none 0 0] 49), (w1.heap.size, .cells (dshopC s (.slice va s.baths.length vc)) 106), (w4.heap.size, .map #[] 0), (w4.heap.size + 1, .cells #[.map none] 111)] _) := Lib.hid ((C4.out.push w4.heap.size rfl (.map #[] 0)).push (w4.heap.size + 1) (by simp) (.cells #[.map none] 111))
        have hmm := @run_makeMap Tryz.prog
        go_upto_region 13 with (refine wpList_cell_bs rfl 111 _ _ rfl C5.out 8 _ 0 _ _ rfl rfl (.map (some w4.heap.size)) rfl (by simp) rfl infoMT1 ?_; intro w5 hC; have C6 : Hid (Bs w [(w.heap.size, .cells (dshopC s (.slice va s.baths.length vc)) 30), (w.heap.size + 1, .cells (tapC t) 34), (w.heap.size + 2, .cells #[(.slice ka ks.length kc)] 35), (w.heap.size + 3, .cells #[.int .i64 lo, .int .i64 hi] 25), (w.heap.size + 4, .cells #[.int .i64 bound] 3), (w.heap.size + 5, .cells #[.slice none 0 0] 49), (w1.heap.size, .cells (dshopC s (.slice va s.baths.length vc)) 106), (w4.heap.size, .map #[] 0), (w4.heap.size + 1, .cells #[.map (some w4.heap.size)] 111)] w5) := hC; have HZ5 : Hid (w4.heap.size + 2 ≤ w5.heap.size) := C6.out.lt 8 rfl; clear hC C5 C4)
        have C7 : Hid (Bs w [(w.heap.size, .cells (dshopC s (.slice va s.baths.length vc)) 30), (w.heap.size + 1, .cells (tapC t) 34), (w.heap.size + 2, .cells #[(.slice ka ks.length kc)] 35), (w.heap.size + 3, .cells #[.int .i64 lo, .int .i64 hi] 25), (w.heap.size + 4, .cells #[.int .i64 bound] 3), (w.heap.size + 5, .cells #[.slice none 0 0] 49), (w1.heap.size, .cells (dshopC s (.slice va s.baths.length vc)) 106), (w4.heap.size, .map #[] 0), (w4.heap.size + 1, .cells #[.map (some w4.heap.size)] 111), (w5.heap.size, .cells #[.nilFunc] 112)] _) := Lib.hid (C6.out.push w5.heap.size rfl (.cells #[.nilFunc] 112))
        go_upto_region 15 with (refine wpList_cell_bs rfl 112 _ _ rfl C7.out 9 _ 0 _ _ rfl rfl (.func (.func 46) #[] #[.pointer (some ⟨(w4.heap.size + 1), 0, none⟩), .pointer (some ⟨(w.heap.size + 1), 0, none⟩), .pointer (some ⟨(w.heap.size + 3), 0, none⟩), .pointer (some ⟨(w.heap.size + 4), 0, none⟩), .pointer (some ⟨(w.heap.size + 2), 0, none⟩), .pointer (some ⟨(w.heap.size + 5), 0, none⟩), .pointer (some ⟨(w5.heap.size), 0, none⟩), .pointer (some ⟨(w1.heap.size), 0, none⟩)]) rfl (by simp) rfl infoFT1 ?_; intro w6 hC; have C8 : Hid (Bs w [(w.heap.size, .cells (dshopC s (.slice va s.baths.length vc)) 30), (w.heap.size + 1, .cells (tapC t) 34), (w.heap.size + 2, .cells #[(.slice ka ks.length kc)] 35), (w.heap.size + 3, .cells #[.int .i64 lo, .int .i64 hi] 25), (w.heap.size + 4, .cells #[.int .i64 bound] 3), (w.heap.size + 5, .cells #[.slice none 0 0] 49), (w1.heap.size, .cells (dshopC s (.slice va s.baths.length vc)) 106), (w4.heap.size, .map #[] 0), (w4.heap.size + 1, .cells #[.map (some w4.heap.size)] 111), (w5.heap.size, .cells #[.func (.func 46) #[] #[.pointer (some ⟨(w4.heap.size + 1), 0, none⟩), .pointer (some ⟨(w.heap.size + 1), 0, none⟩), .pointer (some ⟨(w.heap.size + 3), 0, none⟩), .pointer (some ⟨(w.heap.size + 4), 0, none⟩), .pointer (some ⟨(w.heap.size + 2), 0, none⟩), .pointer (some ⟨(w.heap.size + 5), 0, none⟩), .pointer (some ⟨(w5.heap.size), 0, none⟩), .pointer (some ⟨(w1.heap.size), 0, none⟩)]] 112)] w6) := hC; clear hC C7 C6)
        clear hmm
        obtain ⟨q, HQE⟩ : ∃ q : TQ, Hid (q = (⟨s, t, lo, hi, bound, ks, (.slice va s.baths.length vc), (.slice ka ks.length kc), w4.heap.size + 1, w.heap.size + 1, w.heap.size + 3, w.heap.size + 4, w.heap.size + 2, w.heap.size + 5, w5.heap.size, w1.heap.size, w4.heap.size, w.heap.size, w5.heap.size + 1, w⟩ : TQ)) := ⟨_, rfl⟩
        have hz1 : w.heap.size + 6 ≤ w1.heap.size := HZ1.out
        have hz4 : w1.heap.size + 1 ≤ w4.heap.size := HZ4.out
        have hz5 : w4.heap.size + 2 ≤ w5.heap.size := HZ5.out
        have HQO : Hid q.Ok := by
          unfold Hid
          rw [HQE.out]
          have h1 := outOneF.1 ((outB_one 1 5 (ks.length : Int)).symm.trans HR1.out)
          exact ⟨HS.out, HT.out, planE_all HPE.out, by simp only; omega, by simp only; omega, by have := HBD.out; simp only; omega, HV.out, HK.out, by simp only; omega, by simp only; omega, by simp only; omega, by simp only; omega, by simp only; omega, by simp only; omega, by simp only; omega, by simp only; omega, by simp only; omega, by simp only; omega, by simp only; omega⟩
        have HIQ : Hid (IsQ s t lo hi bound ks q) := by unfold Hid IsQ; rw [HQE.out]; exact ⟨rfl, rfl, rfl, rfl, rfl, rfl⟩
        have HFO : Hid (FewOk s ks bound) := by
          have h := HQO.out
          rw [HQE.out] at h
          exact ⟨h.ks, h.n1, h.n5, h.bound.1⟩
        have HTS : Hid (TryS q w6) := by
          unfold Hid
          rw [HQE.out]
          exact ⟨C8.out.get 8 rfl, C8.out.get 1 rfl, C8.out.get 3 rfl, C8.out.get 4 rfl, C8.out.get 2 rfl, C8.out.get 9 rfl, C8.out.get 6 rfl, C8.out.bel, C8.out.lt 9 rfl⟩
        have HFL0 : Hid (FL q w6 0 w6) := by
          have h1 := HTS.out
          unfold Hid
          rw [HQE.out] at h1 ⊢
          refine ⟨h1, ⟨#[], 0, C8.out.get 7 rfl, ⟨by simp, stamped_empty 0, by simp⟩, by simp, by simp⟩, ⟨.slice none 0 0, C8.out.get 5 rfl, World.ownsRow_nil _ _ _ _⟩, TK.refl _ _, fun m h => by omega⟩
        have HBL6 : Hid (Below w.heap.size w w6) := C8.out.bel
        have HTE : Hid (∀ wz, TryS q wz → wz.heap[w.heap.size + 1]? = some (.cells (tapC t) 34) ∧ wz.cell? ⟨w5.heap.size, 0, none⟩ = some (.func (.func 46) #[] #[.pointer (some ⟨(w4.heap.size + 1), 0, none⟩), .pointer (some ⟨(w.heap.size + 1), 0, none⟩), .pointer (some ⟨(w.heap.size + 3), 0, none⟩), .pointer (some ⟨(w.heap.size + 4), 0, none⟩), .pointer (some ⟨(w.heap.size + 2), 0, none⟩), .pointer (some ⟨(w.heap.size + 5), 0, none⟩), .pointer (some ⟨(w5.heap.size), 0, none⟩), .pointer (some ⟨(w1.heap.size), 0, none⟩)])) := fun wz h => by
          rw [HQE.out] at h
          exact ⟨h.tb, cell_of_row _ _ 0 _ _ _ h.fb⟩
        have HBB : Hid (q.bb = w.heap.size + 5) := by unfold Hid; rw [HQE.out]
        have HTX : ∀ (k n : Nat) (wz : World), k ≤ 10 → n + cost q.ks.length k ≤ 1000000000 → TryS q wz → Memo (BadK q) q.Mb n wz → BestAt q wz [] → Hid (Calls Tryz.prog 46 #[.agg #[.int .i64 0, .int .i64 0, .int .i64 0, .int .i64 0, .int .i64 0], .agg (rngC (beginV t)), .int .i64 (k : Int), .pointer (some ⟨(w4.heap.size + 1), 0, none⟩), .pointer (some ⟨(w.heap.size + 1), 0, none⟩), .pointer (some ⟨(w.heap.size + 3), 0, none⟩), .pointer (some ⟨(w.heap.size + 4), 0, none⟩), .pointer (some ⟨(w.heap.size + 2), 0, none⟩), .pointer (some ⟨(w.heap.size + 5), 0, none⟩), .pointer (some ⟨(w5.heap.size), 0, none⟩), .pointer (some ⟨(w1.heap.size), 0, none⟩)] wz (TryR q zeroC k [] (n + cost q.ks.length k) wz)) := fun k n wz h1 h2 h3 h4 h5 => by
          have h := try_any HQO.out k zeroC k [] n wz rfl (CntB.zero h1) (by simpa using h1) h2 h3 h4 h5
          rw [stOf_zero] at h
          rw [HQE.out] at h ⊢
          exact h
        have HQB : Hid (q.Bq = w.heap.size ∧ q.Ob ≤ w6.heap.size ∧ q.bb < w6.heap.size) := by
          have h1 : w5.heap.size + 1 ≤ w6.heap.size := by
            have h := HTS.out.sz
            rw [HQE.out] at h
            exact h
          unfold Hid
          rw [HQE.out]
          show w.heap.size = w.heap.size ∧ w5.heap.size + 1 ≤ w6.heap.size ∧ w.heap.size + 5 < w6.heap.size
          omega
        have HBGN := fun w => Lib.hid (begin_ok HT.out w)
        clear hz1 hz4 hz5 C8 HQE HV HK HS HBD HPE HR1 hb0 hlh'
        go_wp2_with fail
        go_loopw [50] (fun iv wr => ∃ k : Nat, iv = .int .i64 k ∧ k ≤ 11 ∧ FL q w6 k wr) (fun iv _ => 11 - (intOf iv).toNat)
        case atStart => exact ⟨0, rfl, by omega, HFL0.out⟩
        case round =>
          obtain ⟨k, rfl, hk11, hfl⟩ := hrel
          have HFL := Lib.hid hfl
          clear hfl HFL0
          by_cases hkl : k < 11
          · have hki : (k : Int) < 11 := by omega
            have HK10 : Hid (k ≤ 10) := by unfold Hid; omega
            have HCS : Hid (cost q.ks.length k ≤ 20000000) := Nat.le_trans (cost_le HQO.out.n5 k) (cost_top HK10.out)
            have HB9l : Hid (q.bb < wr.heap.size) := by have := HFL.out.tk.size; have := HQB.out; unfold Hid; omega
            have HQ9 : Hid (q.Bq ≤ wr.heap.size) := by have := HFL.out.tk.size; have := HQB.out; unfold Hid; have := HQO.out.bb; omega
            obtain ⟨rb, HRB⟩ : ∃ r, Hid ((firstP q k zeroC (stOf q zeroC)).isSome = r) := ⟨_, rfl⟩
            go_upto_region 18 with fail
            refine wp_region_inv0 (by kernel_rfl) (by kernel_rfl) (fun D w' => R10 q wr (k * 20000000 + cost q.ks.length k) ([] ++ (firstP q k zeroC (stOf q zeroC)).getD []) (D 5) w') (R10.start HB9l.out HQ9.out (Below.refl _ _).drew) ?_
            apply obl_det
            case hrun =>
              intro D y wz hW hD R hR
              have HRR := Lib.hid hR
              clear hR
              have HW := Lib.hid hW
              have S := TryS.keep HQO.out HFL.out.t HFL.out.best HW.out.tk
              have c_f := (HTE.out _ S).2
              clear S
              clear hW hD
              go_wp2_with fail
              exact HRR.out _ HW.out
            case hnp => rfl
            case hv => first | exact ⟨_, fun _ => rfl⟩ | exact ⟨undef, fun _ => rfl⟩
            apply obl_det
            case hrun =>
              intro D y wz hW hD R hR
              have HRR := Lib.hid hR
              clear hR
              have HW := Lib.hid hW
              clear hW hD
              go_wp2_with fail
              exact HRR.out _ HW.out
            case hnp => rfl
            case hv => first | exact ⟨_, fun _ => rfl⟩ | exact ⟨undef, fun _ => rfl⟩
            apply obl_det
            case hrun =>
              intro D y wz hW hD R hR
              have HRR := Lib.hid hR
              clear hR
              have HW := Lib.hid hW
              have S := TryS.keep HQO.out HFL.out.t HFL.out.best HW.out.tk
              have h1 := (HTE.out _ S).1
              clear S
              clear hW hD
              refine wpList_load_row rfl 34 _ rfl _ rfl _ _ _ _ h1 Tryz.underlying34 rfl infoDT ?_
              go_wp2_with fail
              exact HRR.out _ HW.out
            case hnp => rfl
            case hv => first | exact ⟨_, fun _ => rfl⟩ | exact ⟨undef, fun _ => rfl⟩
            apply obl_det
            case hrun =>
              intro D y wz hW hD R hR
              have HRR := Lib.hid hR
              clear hR
              have HW := Lib.hid hW
              clear hW hD
              go_wp2_with fail
              refine (HBGN _).out.mono ?_
              rintro e w' ⟨rfl, hb⟩
              have HB2 := Lib.hid (HW.out.next HB9l.out HQ9.out hb)
              clear hb
              go_wp2_with fail
              exact HRR.out _ HB2.out
            case hnp => rfl
            case hv => first | exact ⟨_, fun _ => rfl⟩ | exact ⟨undef, fun _ => rfl⟩
            apply obl_det
            case hrun =>
              intro D y wz hW hD R hR
              have HRR := Lib.hid hR
              clear hR
              have HW := Lib.hid hW
              clear hW hD
              go_wp2_with fail
              exact HRR.out _ HW.out
            case hnp => rfl
            case hv => first | exact ⟨_, fun _ => rfl⟩ | exact ⟨undef, fun _ => rfl⟩
            apply obl_det
            case hrun =>
              intro D y wz hW hD R hR
              have HRR := Lib.hid hR
              clear hR
              have h5 : D 5 = false := hD.not
              have HNO := Lib.hid (hW.no h5)
              clear h5
              have HW := Lib.hid hW
              clear hW hD
              have S := Lib.hid (TryS.keep HQO.out HFL.out.t HFL.out.best HW.out.tk)
              go_wp2_with fail
              refine (HTX k (k * 20000000) wz HK10.out (by have := HK10.out; have := HCS.out; omega) S.out (HFL.out.memo.keep (HNO.out.block _ HFL.out.memo.lt)) (HFL.out.best.keep (fun k cs t h => block_keep h HNO.out))).out.mono ?_
              rintro e w' ⟨b', rfl, htk, hme, hbb, hbe⟩
              have HB2 : Hid (R10 q wr (k * 20000000 + cost q.ks.length k) ([] ++ (firstP q k zeroC (stOf q zeroC)).getD []) true w') := ⟨HW.out.tk.t htk, (fun e => by cases e), fun _ => ⟨hme, hbe⟩⟩
              have hrb : b' = rb := hbb.trans HRB.out
              subst hrb
              clear hbb hbe hme htk S
              go_wp2_with fail
              exact HRR.out _ HB2.out
            case hnp => rfl
            case hv => first | exact ⟨_, fun _ => rfl⟩ | exact ⟨undef, fun _ => rfl⟩
            apply obl_nil
            intro D y w8 hall hW
            have h5 := hall 5 (by decide)
            rw [h5] at hW
            have HW8 := Lib.hid hW
            clear hW hall h5
            obtain ⟨hme, hbe⟩ := HW8.out.yes rfl
            have HTA : Hid (TK q w6 w8) := HFL.out.tk.t HW8.out.tk
            have HBA : Hid (Below w.heap.size w w8) := HBL6.out.trans (by have h := HTA.out.bel; rw [HQB.out.1] at h; exact h)
            cases rb with
            | true =>
              obtain ⟨p, hp⟩ := Option.isSome_iff_exists.1 HRB.out
              have hpl : p.length ≤ 10 := by
                have h := (path_ok HQO.out.s HQO.out.n5 k zeroC (stOf q zeroC) p (CntB.zero HK10.out) hp).1
                have := HK10.out
                omega
              rw [hp] at hbe
              simp only [Option.getD_some, List.nil_append] at hbe
              obtain ⟨bv, hbx, hrow⟩ := hbe
              obtain ⟨ra, rc, rfl⟩ := ownsRow_slice hrow
              rw [HBB.out] at hbx
              have HBX := Lib.hid hbx
              have HRW := Lib.hid hrow
              have HFR : Hid (fewR q = some p) := range_some (g := fun m => firstP q m zeroC (stOf q zeroC)) (fun m hm => HFL.out.vain m hm) hp 11 hkl
              have HPL10 := Lib.hid hpl
              have c_b := cell_of_row _ _ 0 _ _ _ hbx
              clear hme hbx hrow hp hpl hki
              go_wp2_with (refine wpList_cell_but rfl 49 _ _ rfl (w.heap.size + 5) 0 _ _ HBX.out rfl (.slice ra p.length rc) rfl (by simp) rfl infoINS1 ?_; intro w10 hg hb; have HG10 := Lib.hid hg; have HB10 := Lib.hid hb; clear hg hb c_b)
              refine bodyPost_ret (results_cs_tmp rfl _ _ (w.heap.size + 5) (.slice ra p.length rc) (.int .i64 0) rfl rfl (cell_of_row _ _ 0 _ _ _ HG10.out)) rfl ⟨_, 0, rfl, HBA.out.trans (HB10.out.below (by omega) (by have := block_lt HBX.out; omega)), .inr ⟨rfl, HFO.out, q, p, HIQ.out, HFR.out, ?_⟩⟩
              have h2 := ownsRow.but HRW.out HB10.out HBX.out (by decide)
              exact (ownsRow_ints (l := p.map (fun i : Nat => (i : Int))) (by rw [List.length_map]; exact h2) (by rw [List.length_map]; have := HPL10.out; omega)).1
            | false =>
              have hno : firstP q k zeroC (stOf q zeroC) = none := by have h := HRB.out; simpa using h
              rw [hno] at hbe
              simp only [Option.getD_none, List.append_nil] at hbe
              have HN : Hid (FL q w6 (k + 1) w8) := ⟨TryS.keep HQO.out HFL.out.t HFL.out.best HW8.out.tk, hme.mono (by have := HCS.out; omega), hbe, HTA.out, fun m hm => by
                by_cases h : m = k
                · rw [h]; exact hno
                · exact HFL.out.vain m (by omega)⟩
              clear hno hbe hme
              go_wp2_with fail
              refine ⟨⟨k + 1, by push_cast; rfl, by omega, HN.out⟩, ?_⟩
              simp [intOf]; omega
          · obtain rfl : k = 11 := by omega
            have HFR : Hid (fewR q = none) := range_none (fun m hm => HFL.out.vain m hm)
            obtain ⟨bv, hbx, hrow⟩ := HFL.out.best
            rw [HBB.out] at hbx
            have HBX := Lib.hid hbx
            have HBA : Hid (Below w.heap.size w wr) := HBL6.out.trans (by have h := HFL.out.tk.bel; rw [HQB.out.1] at h; exact h)
            clear hbx hrow
            go_wp2_with (refine wpList_cell_but rfl 49 _ _ rfl (w.heap.size + 5) 0 _ _ HBX.out rfl (.slice none 0 0) rfl (by simp) rfl infoINS1 ?_; intro w10 hg hb; have HG10 := Lib.hid hg; have HB10 := Lib.hid hb; clear hg hb)
            exact bodyPost_ret (results_cs_tmp rfl _ _ (w.heap.size + 5) (.slice none 0 0) (.int .i64 9) rfl rfl (cell_of_row _ _ 0 _ _ _ HG10.out)) rfl ⟨_, 9, rfl, HBA.out.trans (HB10.out.below (by omega) (by have := block_lt HBX.out; omega)), .inl ⟨by decide, fun _ => ⟨q, HIQ.out, HFR.out⟩⟩⟩
    · have hq : (P != 0) = true := by simpa using hp0
      have HNE := Lib.hid hp0
      have HNO : Hid (¬ FewOk s ks bound) := fun h => absurd ((HPE.out).symm.trans (planE_of h.all (by have := h.n5; omega))) hp0
      clear hp0
      go_wp2_with (refine wpList_cell_bs rfl 49 _ _ rfl C4.out 5 _ 0 _ _ rfl rfl (.slice none 0 0) rfl (by simp) rfl infoINS1 ?_; intro w6 hC; have C6 := Lib.hid hC; clear hC C4)
      exact bodyPost_ret (results_cs_tmp rfl _ _ (w.heap.size + 5) (.slice none 0 0) (.int .i64 P) rfl rfl (C6.out.cell 5 rfl 0)) rfl ⟨_, P, rfl, C6.out.bel, .inl ⟨HNE.out, fun h => absurd h HNO.out⟩⟩
end Go.Proofs.YtpkggjobdmchlaaGreatDoor
