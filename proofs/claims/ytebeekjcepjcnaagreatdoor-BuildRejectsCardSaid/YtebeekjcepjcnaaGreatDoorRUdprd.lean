/-
  udp.Read: the header of a datagram, where its data ends, and the first error.
-/
import Derived.Test.YtebeekjcepjcnaaGreatDoorRTcprd
namespace Go.Proofs.YtebeekjcepjcnaaGreatDoor
open Go.RowKit
def udpA (d : List Int) (k : Nat) : Array Value := #[.int .i64 (if 0 < k then w16At d 0 else 0), .int .i64 (if 1 < k then w16At d 2 else 0), .int .i64 (if 2 < k then w16At d 4 else 0), .int .i64 (if 3 < k then w16At d 6 else 0)]
def NumRel (w : World) (d : List Int) (i : Value) (W : World) : Prop := ∃ k : Nat, k ≤ 4 ∧ i = .int .i64 k ∧ St w w.heap.size [(w.heap.size, 106, #[.int .i64 0, .int .i64 0, .int .i64 0, .int .i64 0]), (w.heap.size + 1, 106, udpA d k)] W
theorem udpA_set (d : List Int) (k : Nat) (hk : k < 4) : (udpA d k).setIfInBounds k (.int .i64 (w16At d (2 * k))) = udpA d (k + 1) := by
  rcases (show k = 0 ∨ k = 1 ∨ k = 2 ∨ k = 3 by omega) with rfl | rfl | rfl | rfl <;> rfl
theorem udpA_at (d : List Int) (k : Nat) (hk : k < 4) : (udpA d k)[k]? = some (.int .i64 0) := by
  rcases (show k = 0 ∨ k = 1 ∨ k = 2 ∨ k = 3 by omega) with rfl | rfl | rfl | rfl <;> rfl
theorem St1.setOne {w W : World} {B : Nat} {L : List (Nat × TypeId × Array Value)} {R : Nat} {t : TypeId} {z n : Array Value} (h : St1 w B L R t z n 0 W) (i : Nat) (u : Value) (hz : z.setIfInBounds i u = n) : St1 w B L R t z n 1 (W.setCell ⟨R, i, none⟩ u) :=
  ⟨h.1.setFar (p := ⟨R, i, none⟩) h.2.1 h.2.2.1 u, h.2.1, h.2.2.1, by
    rw [if_neg (by decide), ← hz]
    have hb := h.2.2.2
    rw [if_pos rfl] at hb
    exact hb.set i u⟩
set_option maxRecDepth 100000 in
set_option maxHeartbeats 2000000 in
theorem udpNumbers_any (A : Option Addr) (cap n : Nat) (xs : List Int) (w : World) (hn : xs.length = n) (h8 : 8 ≤ n) (hl : n ≤ 1000000) (hb : Byt xs) (hr : Rd w w.heap.size A .u8 xs) :
    Calls Tryz.prog 105 #[.slice A n cap] w fun e w' => e = .returned (.agg #[.int .i64 (w16At xs 0), .int .i64 (w16At xs 2), .int .i64 (w16At xs 4), .int .i64 (w16At xs 6)]) ∧ Below w.heap.size w w' := by
  obtain ⟨b, off, rfl, hbl, hc⟩ := hr.at0 (by omega)
  have Hc := Lib.hid hc
  have Hn := Lib.hid hn
  have HB := Lib.hid hb
  clear hr hc hn hb
  go_enter Tryz.func105, Tryz.ntmps105
  go_upto_region 2 with (first | ((with_reducible refine look_store ?_); refine wpList_store_new rfl _ _ _ rfl _ _ rfl rfl _ _ rfl (by kernel_rfl) (by simp) (by simp [Value.oneCell']) ?_) | fail)
  refine wp_name2 ?_
  intro w1 hb1 hs1 b0 b1
  have HS0 := Lib.hid (show St w w.heap.size [(w.heap.size, 106, #[.int .i64 0, .int .i64 0, .int .i64 0, .int .i64 0]), (w.heap.size + 1, 106, udpA xs 0)] w1 from ((St.nil hb1 hb1.size).cons b1).cons b0)
  clear hb1 hs1 b0 b1
  go_wp2_with fail
  go_loopw [5] (NumRel w xs) (fun i _ => 4 - (intOf i).toNat)
  case atStart => exact ⟨0, by omega, rfl, HS0.out⟩
  case round =>
    obtain ⟨k, hk, rfl, hS⟩ := hrel
    by_cases hlt : k < 4
    · have HS := Lib.hid hS
      have c0 := Hc.out (2 * k) (by rw [Hn.out]; omega)
      have c1 := Hc.out (2 * k + 1) (by rw [Hn.out]; omega)
      obtain ⟨x0, x1⟩ := HB.out.at_ (2 * k)
      obtain ⟨y0, y1⟩ := HB.out.at_ (2 * k + 1)
      have ho := or_i64_word _ _ x0 x1 y0 y1
      have Hw := Lib.hid (show w16At xs (2 * k) = 256 * xs.getD (2 * k) 0 + xs.getD (2 * k + 1) 0 from rfl)
      have HA := Lib.hid (udpA_set xs k hlt)
      rw [Hw.out] at HA
      clear hS Hw
      generalize xs.getD (2 * k) 0 = x at *
      generalize xs.getD (2 * k + 1) 0 = y at *
      have i1 : ((2 * (k : Int))) < n := by omega
      have i2 : ((2 * (k : Int))) + 1 < n := by omega
      have i3 : (2 * (k : Int)).toNat = 2 * k := by omega
      have i4 : (2 * (k : Int) + 1).toNat = 2 * k + 1 := by omega
      have i5 : (k : Int) < 4 := by omega
      go_wp2_with fail
      refine wp_region_walk0 (by kernel_rfl) (St1 w w.heap.size [(w.heap.size, 106, #[.int .i64 0, .int .i64 0, .int .i64 0, .int .i64 0])] (w.heap.size + 1) 106 (udpA xs k) (udpA xs (k + 1))) [17] GTop [0, 1, 2, 3, 4, 5, 6, 7, 8, 9, 10, 11, 12, 13, 14, 15, 16, 17] (by kernel_rfl) ?_ ?_
      · exact St1.drew ⟨((St.nil HS.out.1 HS.out.2.1).cons (HS.out.get 0 rfl)), by omega, by simp, HS.out.get 1 rfl⟩
      iterate 17
        apply Walk.one rfl rfl rfl
        case hrun =>
          intro c W hE hF
          have d0 := (hE.1.1.cell (p := ⟨b, off + 2 * k, none⟩) hbl).trans c0
          have d1 := (hE.1.1.cell (p := ⟨b, off + (2 * k + 1), none⟩) hbl).trans c1
          go_wp2_with fail
          exact TextPost.mk ⟨GTop.mk, hE⟩
        case hv => rfl
      apply Walk.keep 0 rfl rfl rfl rfl
      case hrun =>
        intro W2 hE hF
        have hcx : W2.cell? ⟨w.heap.size + 1, k, none⟩ = some (.int .i64 0) := (hE.2.2.2.cell k).trans (udpA_at xs k hlt)
        have hfx := hE.2.2.2.frozen k
        go_wp2_with fail
        exact TextPost.mk ⟨GTop.mk, hE.setOne k _ HA.out⟩
      case hv => rfl
      refine Walk.done (fun W hE hF => ?_)
      have HS2 := Lib.hid (show St w w.heap.size [(w.heap.size, 106, #[.int .i64 0, .int .i64 0, .int .i64 0, .int .i64 0]), (w.heap.size + 1, 106, udpA xs (k + 1))] W from ((St.nil hE.1.1 hE.1.2.1).cons hE.2.2.2).cons (hE.1.get 0 rfl))
      clear hE hF
      go_wp2_with fail
      first
        | exact ⟨⟨k + 1, by omega, by go_num, HS2.out⟩, by simp [intOf]; omega⟩
        | (go_roundw
           case rel => exact ⟨k + 1, by omega, by go_num, HS2.out⟩
           case measure => simp [intOf]; omega)
    · obtain rfl : k = 4 := by omega
      have hb1 := hS.get 1 rfl
      have hb0 := hS.get 0 rfl
      have hbW := hS.1
      have HA := Lib.hid (show udpA xs 4 = #[.int .i64 (w16At xs 0), .int .i64 (w16At xs 2), .int .i64 (w16At xs 4), .int .i64 (w16At xs 6)] from rfl)
      rw [HA.out] at hb1
      clear hS
      go_wp2_with (first | ((with_reducible refine look_load ?_); refine wpList_load_row rfl _ _ rfl _ rfl _ _ _ _ hb1 Tryz.underlying106 rfl (by kernel_rfl) ?_) | ((with_reducible refine look_store ?_); refine wpList_store_row rfl _ _ _ rfl _ _ rfl rfl _ _ hb0 (by kernel_rfl) (by simp) (by simp [Value.oneCell']) ?_) | fail)
      refine bodyPost_ret (results_cell_row Tryz.results105 _ _ _ _ _ _ _ rfl (setRow_heap _ _ _ _ _ _ hb0) Tryz.underlying106 rfl (by kernel_rfl)) rfl ⟨rfl, below_setRow hbW (Nat.le_refl _) _⟩

def udpN (n0 n1 n3 : Int) : Array Value := #[.int .u16 n0, .int .u16 n1, .bool (n3 != 0)]
/-- The closure's two variables, by how many of them are set. -/
structure UdpSt (w : World) (gh X : Nat) (ar z N : Array Value) (o t : Value) (c : Nat) (W : World) : Prop where
  below : Below gh w W
  lt : gh + 2 ≤ X
  x : Blk W X 106 ar
  h : Blk W gh 115 (if c = 0 then z else N)
  t : Blk W (gh + 1) 3 (if c ≤ 1 then #[o] else #[t])
  keep : ∀ i, i < w.heap.size → i ≠ gh → i ≠ gh + 1 → W.heap[i]? = w.heap[i]?
theorem UdpSt.drew {w W : World} {gh X : Nat} {ar z N : Array Value} {o t : Value} {c : Nat} (h : UdpSt w gh X ar z N o t c W) : UdpSt w gh X ar z N o t c W.drew := ⟨h.below.drew, h.lt, h.x.drew, h.h.drew, h.t.drew, h.keep⟩
theorem UdpSt.one {w W : World} {gh X : Nat} {ar z N : Array Value} {o t : Value} (h : UdpSt w gh X ar z N o t 0 W) : UdpSt w gh X ar z N o t 1 (W.setRow gh N) := by
  have hl := h.lt
  exact ⟨below_setRow h.below (Nat.le_refl _) _, h.lt, (setRow_other _ _ _ _ (by omega)).trans h.x, by rw [if_neg (by decide)]; exact setRow_heap _ _ _ _ _ _ h.h, by
    have := h.t
    rw [if_pos (by decide)] at this ⊢
    exact (setRow_other _ _ _ _ (by omega)).trans this, fun i h1 h2 h3 => (setRow_other _ _ _ _ h2).trans (h.keep i h1 h2 h3)⟩
theorem UdpSt.two {w W : World} {gh X : Nat} {ar z N : Array Value} {o t : Value} (h : UdpSt w gh X ar z N o t 1 W) : UdpSt w gh X ar z N o t 2 (W.setCell ⟨gh + 1, 0, none⟩ t) := by
  have hl := h.lt
  exact ⟨h.below.setCell (p := ⟨gh + 1, 0, none⟩) (by show gh ≤ gh + 1; omega) _, h.lt, h.x.far (p := ⟨gh + 1, 0, none⟩) (by show X ≠ gh + 1; omega) _, by
    have := h.h
    rw [if_neg (by decide)] at this ⊢
    exact this.far (p := ⟨gh + 1, 0, none⟩) (by simp) _, by
    have := h.t
    rw [if_pos (by decide)] at this
    rw [if_neg (by decide)]
    exact this.set 0 t, fun i h1 h2 h3 => (Below.heap_setCell _ ⟨gh + 1, 0, none⟩ _ _ h3).trans (h.keep i h1 h2 h3)⟩
set_option maxRecDepth 100000 in
set_option maxHeartbeats 2000000 in
theorem udpRead1_any (B : Value) (n0 n1 n2 n3 : Int) (w : World) (gh : Nat) (z : Array Value) (o : Value) (hz : z.size = 3) (hh : Blk w gh 115 z) (ht : Blk w (gh + 1) 3 #[o]) (a0 : 0 ≤ n0) (a1 : n0 < 65536) (b0 : 0 ≤ n1) (b1 : n1 < 65536) :
    Calls Tryz.prog 91 #[B, .agg #[.int .i64 n0, .int .i64 n1, .int .i64 n2, .int .i64 n3], .pointer (some ⟨gh, 0, none⟩), .pointer (some ⟨gh + 1, 0, none⟩)] w fun e w' => (∃ v, e = .returned v) ∧ Below gh w w' ∧ w.heap.size ≤ w'.heap.size ∧ Blk w' gh 115 (udpN n0 n1 n3) ∧ Blk w' (gh + 1) 3 #[.int .i64 n2] ∧ ∀ i, i < w.heap.size → i ≠ gh → i ≠ gh + 1 → w'.heap[i]? = w.heap[i]? := by
  have hl := ht.lt
  have w0 : n0 % 65536 = n0 := by omega
  have w1' : n1 % 65536 = n1 := by omega
  have HZ := Lib.hid hz
  clear hz
  go_enter Tryz.func91, Tryz.ntmps91
  go_upto_region 1 with (first | ((with_reducible refine look_store ?_); refine wpList_store_new rfl _ _ _ rfl _ _ rfl rfl _ _ rfl (by kernel_rfl) (by simp) (by simp [Value.oneCell']) ?_) | fail)
  refine wp_name1 ?_
  intro w1 hb1 hs1 bx
  have hS : UdpSt w gh w.heap.size _ z (udpN n0 n1 n3) o (.int .i64 n2) 0 w1 := ⟨hb1.mono (by omega), by omega, bx, by rw [if_pos rfl]; exact hh.below hb1 hh.lt, by rw [if_pos (by decide)]; exact ht.below hb1 ht.lt, fun i h1 _ _ => hb1.block i h1⟩
  have hsz := hb1.size
  clear hs1 bx hh ht hb1
  refine wp_region_walk (by kernel_rfl) (fun c W => UdpSt w gh w.heap.size _ z (udpN n0 n1 n3) o (.int .i64 n2) c W ∧ w.heap.size ≤ W.heap.size) [12, 13] GTop [] (fun _ _ _ => True) [0, 1, 2, 3, 4, 5, 6, 7, 8, 9, 10, 11, 12, 13] (by kernel_rfl) (fun _ h => by simp at h) ⟨hS.drew, hsz⟩ ?_
  iterate 12
    apply Walk.one rfl rfl rfl
    case hrun =>
      intro c W hE hF
      have c0 := hE.1.x.cell 0
      have c1 := hE.1.x.cell 1
      have c2 := hE.1.x.cell 2
      have c3 := hE.1.x.cell 3
      go_wp2_with fail
      exact TextPost.mk ⟨GTop.mk, hE⟩
    case hv => rfl
  apply Walk.keep 0 rfl rfl rfl rfl
  case hrun =>
    intro W2 hE hF
    have hbR := hE.1.h
    rw [if_pos rfl] at hbR
    refine wpList_store_row rfl _ _ _ rfl _ _ rfl rfl _ _ hbR (by kernel_rfl) (by rw [HZ.out]; rfl) (by simp [Value.oneCell']) ?_
    go_wp2_with fail
    exact TextPost.mk ⟨GTop.mk, hE.1.one, by simpa using hE.2⟩
  case hv => rfl
  apply Walk.keep 1 rfl rfl rfl rfl
  case hrun =>
    intro W2 hE hF
    have hbR := hE.1.t
    rw [if_pos (by decide)] at hbR
    have hcx := hbR.cell 0
    have hfx := hbR.frozen 0
    go_wp2_with fail
    exact TextPost.mk ⟨GTop.mk, hE.1.two, by simpa using hE.2⟩
  case hv => rfl
  refine Walk.done (fun W hE hF => ?_)
  have HE := Lib.hid hE
  clear hE hF hS
  go_wp2_with fail
  have h1 := HE.out.1.h
  have h2 := HE.out.1.t
  rw [if_neg (by decide)] at h1 h2
  go_end0
  exact ⟨⟨_, rfl⟩, HE.out.1.below, HE.out.2, h1, h2, HE.out.1.keep⟩

structure UdpW (w : World) (gh X : Nat) (ar z N : Array Value) (o t : Value) (c : Nat) (W : World) : Prop where
  below : Below gh w W
  size : w.heap.size ≤ W.heap.size
  lt : gh + 2 ≤ X
  x : Blk W X 106 ar
  h : Blk W gh 115 (if c = 0 then z else N)
  t : Blk W (gh + 1) 3 (if c = 0 then #[o] else #[t])
theorem UdpW.drew {w W : World} {gh X : Nat} {ar z N : Array Value} {o t : Value} {c : Nat} (h : UdpW w gh X ar z N o t c W) : UdpW w gh X ar z N o t c W.drew := ⟨h.below.drew, h.size, h.lt, h.x.drew, h.h.drew, h.t.drew⟩
def AnyTop (_ : Value) (_ : World) : Prop := True
theorem AnyTop.mk {u : Value} {W : World} : AnyTop u W := trivial
/-- A store of the chain whose own value is not known (a call). -/
theorem Walk.anyKeep {P : Program} {ops : Array Oper} {Q : Exit → Act → World → Prop} {E : Nat → World → Prop} {S : List Nat} {G : World → World → Prop} {fr : List Nat} {FF : Nat → Value → World → Prop} {Fs : List (World → Prop)} {k : Nat} {o : Oper} {rest : List Nat} {a : Act} (n : Nat)
    (ho : ops.toList[k]? = some o) (hs : S.contains k = true) (hn : S.idxOf k = n) (hf : fr.contains k = false) (hw : waitAll ops fr [k] rest = true)
    (hrun : ∀ W, E n W → Facts' Fs W → wpList P ops (Exit.then (AnyPost a o.dst AnyTop fun W' => G W W' ∧ E (n + 1) W') NoQ) [o] a W) (hrest : ∀ u, Walk P ops Q E S G fr FF (AnyTop u :: Fs) rest (a.put o.dst u)) : Walk P ops Q E S G fr FF Fs (k :: rest) a := by
  refine ⟨o, ops_at ho, .inr ⟨AnyTop, (fun h => by rw [hf] at h; cases h), (fun _ _ _ _ _ => trivial), hw, fun c W hc hE hF => ?_, hrest⟩⟩
  have hc' := (hc hs).trans hn
  subst hc'
  have := hrun W hE hF
  rw [hs]
  exact this
set_option maxRecDepth 100000 in
set_option maxHeartbeats 2000000 in
/-- udp.with at the closure of udp.Read. -/
theorem udpWith_any (A : Option Addr) (cap n : Nat) (xs : List Int) (w : World) (gh : Nat) (z : Array Value) (o : Value) (hn : xs.length = n) (hcap : n ≤ cap) (hl : n ≤ 1000000) (hb : Byt xs) (hr : Rd w w.heap.size A .u8 xs) (hz : z.size = 3) (hh : Blk w gh 115 z) (ht : Blk w (gh + 1) 3 #[o]) :
    Calls Tryz.prog 90 #[.slice A n cap, .func (.func 91) #[] #[.pointer (some ⟨gh, 0, none⟩), .pointer (some ⟨gh + 1, 0, none⟩)]] w fun e w' => e = .returned (.int .i64 (udpE xs)) ∧ Below gh w w' ∧ w.heap.size ≤ w'.heap.size ∧
      Blk w' gh 115 (if udpE xs = 0 then udpN (w16At xs 0) (w16At xs 2) (w16At xs 6) else z) ∧ Blk w' (gh + 1) 3 #[if udpE xs = 0 then .int .i64 (w16At xs 4) else o] := by
  have hlt := ht.lt
  by_cases h8 : n < 8
  · have hE : udpE xs = 90 := by unfold udpE; rw [if_pos (by omega)]
    rw [hE, if_neg (by decide), if_neg (by decide)]
    have g1 : (n : Int) < 8 := by omega
    have hh2 := Lib.hid hh
    have ht2 := Lib.hid ht
    clear hE hh ht
    go_enter Tryz.func90, Tryz.ntmps90
    go_wp2_with fail
    go_ret
    exact ⟨rfl, Below.refl _ _, Nat.le_refl _, hh2.out, ht2.out⟩
  have hE : udpE xs = if w16At xs 4 < 8 ∨ (n : Int) < w16At xs 4 then 91 else if w16At xs 2 = 0 then 92 else 0 := by unfold udpE; rw [if_neg (by omega), hn]
  have HN := Lib.hid (udpNumbers_any A cap n xs w hn (by omega) hl hb hr)
  obtain ⟨p0, p1⟩ := w16At_bd hb 0
  obtain ⟨j0, j1⟩ := w16At_bd hb 2
  obtain ⟨r0, r1⟩ := w16At_bd hb 4
  have g1 : ¬ (n : Int) < 8 := by omega
  have H1 := Lib.hid (fun (B : Value) (W : World) (h1 : Blk W gh 115 z) (h2 : Blk W (gh + 1) 3 #[o]) => udpRead1_any B (w16At xs 0) (w16At xs 2) (w16At xs 4) (w16At xs 6) W gh z o hz h1 h2 p0 p1 j0 j1)
  rw [hE]
  have HH := Lib.hid hh
  have HT := Lib.hid ht
  clear hE hr hb hn hh ht hz
  generalize w16At xs 0 = n0 at *
  generalize w16At xs 2 = n1 at *
  generalize w16At xs 4 = n2 at *
  generalize w16At xs 6 = n3 at *
  by_cases q1 : n2 < 8
  · have HX := Lib.hid (show (if n2 < 8 ∨ (n : Int) < n2 then (91 : Int) else if n1 = 0 then 92 else 0) = 91 by rw [if_pos (.inl q1)])
    have e1 : decide (n2 < 8) = true := decide_eq_true q1
    clear q1
    rw [HX.out, if_neg (by decide), if_neg (by decide)]
    clear HX
    go_enter Tryz.func90, Tryz.ntmps90
    go_wp2_with fail
    refine HN.out.mono ?_
    rintro e w1 ⟨rfl, l1⟩
    have hl1 := l1.size
    go_wp2_with (first | ((with_reducible refine look_store ?_); refine wpList_store_new rfl _ _ _ rfl _ _ rfl rfl _ _ rfl (by kernel_rfl) (by simp) (by simp [Value.oneCell']) ?_) | fail)
    go_ret
    have hA : Below w.heap.size w (w1.alloc (.cells #[.int .i64 n0, .int .i64 n1, .int .i64 n2, .int .i64 n3] 106)) := l1.alloc hl1 _
    exact ⟨rfl, hA.mono (by omega), by simp; omega, HH.out.below hA HH.out.lt, HT.out.below hA HT.out.lt⟩
  by_cases q2 : (n : Int) < n2
  · have HX := Lib.hid (show (if n2 < 8 ∨ (n : Int) < n2 then (91 : Int) else if n1 = 0 then 92 else 0) = 91 by rw [if_pos (.inr q2)])
    have e1 : decide (n2 < 8) = false := decide_eq_false q1
    have e2 : decide ((n : Int) < n2) = true := decide_eq_true q2
    clear q1 q2
    rw [HX.out, if_neg (by decide), if_neg (by decide)]
    clear HX
    go_enter Tryz.func90, Tryz.ntmps90
    go_wp2_with fail
    refine HN.out.mono ?_
    rintro e w1 ⟨rfl, l1⟩
    have hl1 := l1.size
    go_wp2_with (first | ((with_reducible refine look_store ?_); refine wpList_store_new rfl _ _ _ rfl _ _ rfl rfl _ _ rfl (by kernel_rfl) (by simp) (by simp [Value.oneCell']) ?_) | fail)
    go_ret
    have hA : Below w.heap.size w (w1.alloc (.cells #[.int .i64 n0, .int .i64 n1, .int .i64 n2, .int .i64 n3] 106)) := l1.alloc hl1 _
    exact ⟨rfl, hA.mono (by omega), by simp; omega, HH.out.below hA HH.out.lt, HT.out.below hA HT.out.lt⟩
  by_cases q3 : n1 = 0
  · subst q3
    have HX := Lib.hid (show (if n2 < 8 ∨ (n : Int) < n2 then (91 : Int) else if (0 : Int) = 0 then 92 else 0) = 92 by rw [if_neg (by omega), if_pos rfl])
    have e1 : decide (n2 < 8) = false := decide_eq_false q1
    have e2 : decide ((n : Int) < n2) = false := decide_eq_false q2
    clear q1 q2
    rw [HX.out, if_neg (by decide), if_neg (by decide)]
    clear HX
    go_enter Tryz.func90, Tryz.ntmps90
    go_wp2_with fail
    refine HN.out.mono ?_
    rintro e w1 ⟨rfl, l1⟩
    have hl1 := l1.size
    go_wp2_with (first | ((with_reducible refine look_store ?_); refine wpList_store_new rfl _ _ _ rfl _ _ rfl rfl _ _ rfl (by kernel_rfl) (by simp) (by simp [Value.oneCell']) ?_) | fail)
    go_ret
    have hA : Below w.heap.size w (w1.alloc (.cells #[.int .i64 n0, .int .i64 0, .int .i64 n2, .int .i64 n3] 106)) := l1.alloc hl1 _
    exact ⟨rfl, hA.mono (by omega), by simp; omega, HH.out.below hA HH.out.lt, HT.out.below hA HT.out.lt⟩
  have HX := Lib.hid (show (if n2 < 8 ∨ (n : Int) < n2 then (91 : Int) else if n1 = 0 then 92 else 0) = 0 by rw [if_neg (by omega), if_neg q3])
  have e1 : decide (n2 < 8) = false := decide_eq_false q1
  have e2 : decide ((n : Int) < n2) = false := decide_eq_false q2
  have e3 : (n1 == 0) = false := by simpa using q3
  have s1 : (0 : Int) ≤ n2 := by omega
  have s2 : n2 ≤ (cap : Int) := by omega
  clear q1 q2 q3
  rw [HX.out, if_pos rfl, if_pos rfl]
  clear HX
  go_enter Tryz.func90, Tryz.ntmps90
  go_wp2_with fail
  refine HN.out.mono ?_
  rintro e w1 ⟨rfl, l1⟩
  have hl1 := l1.size
  go_wp2_with (first | ((with_reducible refine look_store ?_); refine wpList_store_new rfl _ _ _ rfl _ _ rfl rfl _ _ rfl (by kernel_rfl) (by simp) (by simp [Value.oneCell']) ?_) | fail)
  refine wp_name1 ?_
  intro w2 hb2 hs2 bn
  have l2 := l1.trans (hb2.mono hl1)
  have hS : UdpW w gh w1.heap.size #[.int .i64 n0, .int .i64 n1, .int .i64 n2, .int .i64 n3] z (udpN n0 n1 n3) o (.int .i64 n2) 0 w2 := ⟨l2.mono (by omega), Nat.le_trans hl1 hb2.size, by omega, bn, by rw [if_pos rfl]; exact HH.out.below l2 HH.out.lt, by rw [if_pos rfl]; exact HT.out.below l2 HT.out.lt⟩
  clear hs2 bn hb2 l2
  refine wp_region_walk (by kernel_rfl) (UdpW w gh w1.heap.size #[.int .i64 n0, .int .i64 n1, .int .i64 n2, .int .i64 n3] z (udpN n0 n1 n3) o (.int .i64 n2)) [6] GTop [] (fun _ _ _ => True) [0, 1, 2, 3, 4, 5, 6] (by kernel_rfl) (fun _ h => by simp at h) hS.drew ?_
  iterate 6
    apply Walk.one rfl rfl rfl
    case hrun =>
      intro c W hE hF
      have hbx := hE.x
      have hc2 := hbx.cell 2
      go_wp2_with (first | ((with_reducible refine look_load ?_); refine wpList_load_row rfl _ _ rfl _ rfl _ _ _ _ hbx Tryz.underlying106 rfl (by kernel_rfl) ?_) | fail)
      exact TextPost.mk ⟨GTop.mk, hE⟩
    case hv => rfl
  refine Walk.anyKeep 0 rfl rfl rfl rfl (by kernel_rfl) ?_ (fun u => ?_)
  · intro W hE hF
    have hl := hE.lt
    have h1 := hE.h
    have h2 := hE.t
    rw [if_pos rfl] at h1 h2
    go_wp2_with fail
    refine (H1.out _ W h1 h2).mono ?_
    rintro e W3 ⟨⟨v, rfl⟩, hb3, hz3, hh3, ht3, hk3⟩
    go_wp2_with fail
    exact ⟨v, rfl, AnyTop.mk, GTop.mk, ⟨hE.below.trans hb3, Nat.le_trans hE.size hz3, hl, (hk3 _ hE.x.lt (by omega) (by omega)).trans hE.x, by rw [if_neg (by decide)]; exact hh3, by rw [if_neg (by decide)]; exact ht3⟩⟩
  dsimp only [Act.put]
  simp only [List.setIfInBounds_toArray, List.set_cons_succ, List.set_cons_zero]
  refine Walk.done (fun W hE hF => ?_)
  have h1 := hE.h
  have h2 := hE.t
  rw [if_neg (by decide)] at h1 h2
  have hbW := hE.below
  have hsW := hE.size
  clear hE hF hS
  go_wp2_with fail
  go_ret
  exact ⟨rfl, hbW, hsW, h1, h2⟩

def UdpOut (w : World) (d : List Int) (e : Ending) (W : World) : Prop := e = .returned (.tuple #[.agg (if udpE d = 0 then udpN (w16At d 0) (w16At d 2) (w16At d 6) else #[.int .u16 0, .int .u16 0, .bool false]), .int .i64 (if udpE d = 0 then w16At d 4 else 0), .int .i64 (udpE d)]) ∧ Below w.heap.size w W
set_option maxRecDepth 100000 in
set_option maxHeartbeats 2000000 in
theorem udpRead_any (A : Option Addr) (cap n : Nat) (xs : List Int) (w : World) (hn : xs.length = n) (hcap : n ≤ cap) (hl : n ≤ 1000000) (hb : Byt xs) (hr : Rd w w.heap.size A .u8 xs) :
    Calls Tryz.prog 65 #[.slice A n cap] w (UdpOut w xs) := by
  have HW := Lib.hid (fun (W : World) (h1 : Below w.heap.size w W) (h2 : Blk W (w.heap.size + 1) 115 #[.int .u16 0, .int .u16 0, .bool false]) (h3 : Blk W (w.heap.size + 2) 3 #[.int .i64 0]) => udpWith_any A cap n xs W (w.heap.size + 1) _ _ hn hcap hl hb (hr.belows h1 (Nat.le_refl _)) rfl h2 h3)
  have HU := Lib.hid (show ∀ e W, UdpOut w xs e W ↔ e = .returned (.tuple #[.agg (if udpE xs = 0 then udpN (w16At xs 0) (w16At xs 2) (w16At xs 6) else #[.int .u16 0, .int .u16 0, .bool false]), .int .i64 (if udpE xs = 0 then w16At xs 4 else 0), .int .i64 (udpE xs)]) ∧ Below w.heap.size w W from fun _ _ => Iff.rfl)
  have HV := Lib.hid (show (if udpE xs = 0 then Value.int .i64 (w16At xs 4) else .int .i64 0) = .int .i64 (if udpE xs = 0 then w16At xs 4 else 0) by split <;> rfl)
  rw [HV.out] at HW
  have HSz := Lib.hid (show (if udpE xs = 0 then udpN (w16At xs 0) (w16At xs 2) (w16At xs 6) else #[.int .u16 0, .int .u16 0, .bool false]).size = 3 by split <;> rfl)
  have HOne := Lib.hid (show (if udpE xs = 0 then udpN (w16At xs 0) (w16At xs 2) (w16At xs 6) else #[.int .u16 0, .int .u16 0, .bool false]).all (·.oneCell') = true by split <;> simp [udpN, Value.oneCell'])
  clear hb hr hn HV
  generalize (if udpE xs = 0 then udpN (w16At xs 0) (w16At xs 2) (w16At xs 6) else #[.int .u16 0, .int .u16 0, .bool false]) = HD at *
  generalize (if udpE xs = 0 then w16At xs 4 else 0) = TO at *
  generalize udpE xs = E at *
  go_enter Tryz.func65, Tryz.ntmps65
  go_upto_region 3 with (first | ((with_reducible refine look_store ?_); refine wpList_store_new rfl _ _ _ rfl _ _ rfl rfl _ _ rfl (by kernel_rfl) (by simp) (by simp [Value.oneCell']) ?_) | fail)
  try dsimp only [Act.put]
  refine wp_name3 ?_
  intro w1 hb1 hs1 b0 b1 b2
  simp only [Nat.add_assoc, Nat.reduceAdd]
  have H := Lib.hid (HW.out w1 hb1 b1 b2)
  have hb0l := b0.lt
  have hs2 := Lib.hid hs1
  clear hs1 b1 b2
  go_wp2_with fail
  refine H.out.mono ?_
  rintro e w2 ⟨rfl, l2, hz2, hh2, ht2⟩
  have br := b0.below l2 (by omega)
  have hbW : Below w.heap.size w w2 := hb1.trans (l2.mono (by omega))
  clear b0 l2 hb1
  have hSt : St1 w w.heap.size [(w.heap.size + 1, 115, HD), (w.heap.size + 2, 3, #[.int .i64 TO])] w.heap.size 115 _ HD 0 w2 := ⟨((St.nil hbW (by omega)).cons ht2).cons hh2, Nat.le_refl _, by simp, br⟩
  clear br hbW hh2 ht2 H HW
  go_wp2_with fail
  refine wp_region_walk0 (by kernel_rfl) (St1 w w.heap.size _ w.heap.size 115 _ HD) [3] GTop [0, 1, 2, 3, 4, 5] (by kernel_rfl) hSt.drew ?_
  iterate 3
    apply Walk.one rfl rfl rfl
    case hrun =>
      intro c W hE hF
      have hh := hE.1.get 0 rfl
      have hc1 := (hE.1.get 1 rfl).cell 0
      go_wp2_with (first | ((with_reducible refine look_load ?_); refine wpList_load_row rfl _ _ rfl _ rfl _ _ _ _ hh Tryz.underlying115 rfl (by rw [HSz.out]; kernel_rfl) ?_) | fail)
      exact TextPost.mk ⟨GTop.mk, hE⟩
    case hv => rfl
  apply Walk.keep 0 rfl rfl rfl rfl
  case hrun =>
    intro W2 hE hF
    have hbR := hE.2.2.2
    refine wpList_store_row rfl _ _ _ rfl _ _ rfl rfl _ _ hbR (by rw [HSz.out]; kernel_rfl) (by rw [HSz.out]; rfl) HOne.out ?_
    go_wp2_with fail
    exact TextPost.mk ⟨GTop.mk, hE.put⟩
  case hv => rfl
  iterate 2
    apply Walk.one rfl rfl rfl
    case hrun =>
      intro c W hE hF
      go_wp2_with fail
      exact TextPost.mk ⟨GTop.mk, hE⟩
    case hv => rfl
  refine Walk.done (fun W hE hF => ?_)
  have hbR := hE.2.2.2
  have hbW := hE.1.1
  clear hE hF hSt
  go_wp2_with fail
  exact bodyPost_ret (results_cell_tmp2 Tryz.results65 _ _ _ _ _ _ _ rfl hbR Tryz.underlying115 rfl (by rw [if_neg (by decide), HSz.out]; kernel_rfl)) rfl ((HU.out _ _).2 ⟨rfl, hbW⟩)
end Go.Proofs.YtebeekjcepjcnaaGreatDoor
