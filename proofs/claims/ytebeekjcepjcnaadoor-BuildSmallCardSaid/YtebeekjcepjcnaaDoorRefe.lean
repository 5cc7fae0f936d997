/-
  The references of layers 8 and 9: Sane, Extent, and both Writes.
  The reference of layer 9: Write.
  The reference of layer 8: Write, at a header that is right and has no options.
-/
import Derived.Test.YtebeekjcepjcnaaDoorRefd
import Derived.Test.YtebeekjcepjcnaaDoorUdpw
import Derived.Test.YtebeekjcepjcnaaDoorTcpw
namespace Go.Proofs.YtebeekjcepjcnaaDoor
open Go.RowKit Go.Shelf

theorem saneB_bits (f : Nat) (h : f < 256) : saneB f = (if (f / 2 % 2 == 1) && (f / 4 % 2 == 1) || (f / 2 % 2 == 1) && (f % 2 == 1) || (f / 4 % 2 == 1) && (f % 2 == 1) then false else (f / 2 % 2 == 1) || (f / 4 % 2 == 1) || (f / 16 % 2 == 1)) := by
  have : ∀ x : Fin 256, saneB x.val = (if (x.val / 2 % 2 == 1) && (x.val / 4 % 2 == 1) || (x.val / 2 % 2 == 1) && (x.val % 2 == 1) || (x.val / 4 % 2 == 1) && (x.val % 2 == 1) then false else (x.val / 2 % 2 == 1) || (x.val / 4 % 2 == 1) || (x.val / 16 % 2 == 1)) := by decide +kernel
  exact this ⟨f, h⟩
theorem natbit (f k : Nat) : (((f : Int) / (k : Int) % 2) == 1) = (f / k % 2 == 1) := by
  rw [Bool.eq_iff_iff]
  simp only [beq_iff_eq]
  omega
set_option maxHeartbeats 1000000 in
theorem rSane_any (f : Nat) (w : World) (hf : f < 256) : Calls Tryd.prog 78 #[.int .u8 f] w fun e w' => e = .returned (.bool (saneB f)) ∧ w = w' := by
  rw [saneB_bits f hf]
  have h2 : (((f : Int) / 2 % 2) == 1) = (f / 2 % 2 == 1) := natbit f 2
  have h4 : (((f : Int) / 4 % 2) == 1) = (f / 4 % 2 == 1) := natbit f 4
  have h16 : (((f : Int) / 16 % 2) == 1) = (f / 16 % 2 == 1) := natbit f 16
  have h1 : (((f : Int) % 2) == 1) = (f % 2 == 1) := by
    rw [Bool.eq_iff_iff]
    simp only [beq_iff_eq]
    omega
  generalize (f / 2 % 2 == 1) = a2 at *
  generalize (f / 4 % 2 == 1) = a4 at *
  generalize (f / 16 % 2 == 1) = a16 at *
  generalize (f % 2 == 1) = a1 at *
  cases a1 <;> cases a2 <;> cases a4
  all_goals
    simp only [Bool.and_self, Bool.and_false, Bool.and_true, Bool.or_false, Bool.or_true, Bool.or_self, if_true, if_false, Bool.false_eq_true, Bool.true_or, Bool.false_or]
    go_enter Tryd.func78, Tryd.ntmps78
    go_wp2_with fail
    go_ret
    exact ⟨rfl, rfl⟩

set_option maxHeartbeats 1000000 in
theorem rExtent_any (f : Nat) (n : Int) (w : World) (_hf : f < 256) (h0 : 0 ≤ n) (h1 : n ≤ 65535) :
    Calls Tryd.prog 74 #[.int .u8 f, .int .i64 n] w fun e w' => e = .returned (.int .i64 (n + ((f / 2 % 2 : Nat) : Int) + ((f % 2 : Nat) : Int))) ∧ w = w' := by
  have e2 : ((f / 2 % 2 : Nat) : Int) = (f : Int) / 2 % 2 := by omega
  have e1 : ((f % 2 : Nat) : Int) = (f : Int) % 2 := by omega
  rw [e1, e2]
  have b1 : decide (n < 0) = false := by simpa using h0
  have b2 : decide (65535 < n) = false := by simpa using h1
  have c1 : (f : Int) % 2 = 0 ∨ (f : Int) % 2 = 1 := by omega
  have c2 : (f : Int) / 2 % 2 = 0 ∨ (f : Int) / 2 % 2 = 1 := by omega
  clear e1 e2
  rcases c1 with c1 | c1 <;> rcases c2 with c2 | c2
  all_goals
    rw [c1, c2]
    go_enter Tryd.func74, Tryd.ntmps74
    go_wp2_with fail
    go_ret
    exact ⟨by simp, rfl⟩

end Go.Proofs.YtebeekjcepjcnaaDoor

namespace Go.Proofs.YtebeekjcepjcnaaDoor
open Go.RowKit Go.Shelf

theorem quo_u16 {x : Int} (h0 : 0 ≤ x) (h1 : x < 65536) : IntKind.u16.wrap (x.tdiv 256) = x / 256 := by rw [Int.tdiv_eq_ediv_of_nonneg h0, IntKind.wrap_u16]; omega

set_option maxRecDepth 100000 in
set_option maxHeartbeats 2000000 in
theorem rUdpWrite_any (sp dp : Int) (chk : Bool) (src dst : Int) (D : Option Addr) (dcap dl : Nat) (data : List Int) (w : World)
    (p0 : 0 ≤ sp) (p1 : sp < 65536) (q0 : 0 < dp) (q1 : dp < 65536) (hdl : data.length = dl) (hd : dl ≤ 65507)
    (x0 : 0 ≤ src) (x1 : src < 4294967296) (y0 : 0 ≤ dst) (y1 : dst < 4294967296) (hdb : Byt data) (hrD : Rd w w.heap.size D .u8 data) :
    Calls Tryd.prog 89 #[.agg #[.int .u16 sp, .int .u16 dp, .bool chk], .int .u32 src, .int .u32 dst, .slice D dl dcap] w fun e w' => ∃ v, e = .returned (.tuple #[v, .int .i64 0]) ∧ Own w' w.heap.size v (udpL sp dp chk src dst data) ∧ Below w.heap.size w w' := by
  have b1 : (dp == 0) = false := by simp; omega
  have b2 : decide (65515 < 8 + (dl : Int)) = false := by simp; omega
  have s1 := quo_u16 p0 p1
  have s2 : sp / 256 % 256 = sp / 256 := by omega
  have d1 := quo_u16 (x := dp) (by omega) q1
  have d2 : dp / 256 % 256 = dp / 256 := by omega
  have n2 : (8 + (dl : Int)) / 256 % 256 = (8 + (dl : Int)) / 256 := by omega
  have hTb := udp0_byt p0 p1 (by omega) q1 (by rw [hdl]; omega) hdb
  have HTl := Lib.hid (show (udp0 sp dp data).length = 8 + dl by rw [udp0_len, hdl])
  have HTf := Lib.hid (show udpL sp dp true src dst data = ((udp0 sp dp data).set 6 (neverB (overB (pseudoL src dst 17 (8 + (dl : Int))) (udp0 sp dp data)) / 256)).set 7 (neverB (overB (pseudoL src dst 17 (8 + (dl : Int))) (udp0 sp dp data)) % 256) by
        unfold udpL udpSum; rw [if_pos rfl, HTl.out, show (((8 + dl : Nat) : Int)) = 8 + (dl : Int) by omega])
  have HTf0 := Lib.hid (show udpL sp dp false src dst data = udp0 sp dp data from rfl)
  have HT := Lib.hid (show [sp / 256, sp % 256, dp / 256, dp % 256, (8 + (dl : Int)) / 256, (8 + (dl : Int)) % 256, 0, 0] ++ data = udp0 sp dp data by unfold udp0; rw [hdl]; rfl)
  generalize udp0 sp dp data = T at *
  have Hdl := Lib.hid hdl.symm
  have hl2 : data.length ≤ 65507 := by omega
  have HP := Lib.hid (fun W => rPseudo_any src dst 17 (8 + (dl : Int)) W x0 x1 y0 y1 (by omega) (by omega) (by omega) (by omega))
  have hps : 0 ≤ pseudoL src dst 17 (8 + (dl : Int)) ∧ pseudoL src dst 17 (8 + (dl : Int)) ≤ 65535 := joinL_bd (l := [src / 65536, src % 65536, dst / 65536, dst % 65536, 17, 8 + (dl : Int)]) (by intro y hy; simp at hy; rcases hy with rfl | rfl | rfl | rfl | rfl | rfl <;> omega)
  generalize pseudoL src dst 17 (8 + (dl : Int)) = ps at *
  have HO := Lib.hid (fun A c W (h : Rd W W.heap.size A .u8 T) => rOver_any ps A c T W hps.1 (by omega) hTb (by rw [HTl.out]; omega) h)
  rw [HTl.out] at HO
  have hov := overB_bd hTb hps.1 (by omega)
  have Hnv : ∀ b, (overB ps T == 0) = b → neverB (overB ps T) = if b then 65535 else overB ps T := by
    rintro b rfl
    unfold neverB
    simp
  obtain ⟨b, hb⟩ : ∃ b, (overB ps T == 0) = b := ⟨_, rfl⟩
  rw [Hnv b hb] at HTf
  clear Hnv hdl hdb hTb
  generalize overB ps T = ov at *
  go_enter Tryd.func89, Tryd.ntmps89
  go_upto_region 5 with (fail)
  go_upto_region 6 with (first | (at_builtin; refine app_own rfl (.tmp 48) (.tmp 49) rfl (w.heap.size + 1) _ [sp / 256, sp % 256, dp / 256, dp % 256, (8 + (dl : Int)) / 256, (8 + (dl : Int)) % 256, 0, 0] rfl (own_lit' (by simp) rfl rfl (by simp [maxLen]) (by simp)) _ D _ dcap data rfl Hdl.out ((hrD.alloc (Nat.le_refl _) _).alloc (by simp) _) (by simp; omega) (by simp) ?_; intro v1 w1 o1 l1 _ _) | fail)
  have bx := (((Blk.new w 149 #[.int .u16 sp, .int .u16 dp, .bool chk]).alloc (.cells #[.int .u8 (sp / 256), .int .u8 (sp % 256), .int .u8 (dp / 256), .int .u8 (dp % 256), .int .u8 ((8 + (dl : Int)) / 256), .int .u8 ((8 + (dl : Int)) % 256), .int .u8 0, .int .u8 0] 5))).below l1 (by simp)
  have hcx := bx.cell
  have hb1 : Below w.heap.size w w1 := (((Below.refl _ _).alloc (Nat.le_refl _) _).alloc (by simp) _).trans (l1.mono (by omega))
  have hsz := hb1.size
  rw [HT.out] at o1
  obtain ⟨g, cap, rfl, hg0, hg1, _, _⟩ := o1.form (by rw [HTl.out]; omega)
  rw [HTl.out] at o1 ⊢
  cases chk
  · go_wp2_with fail
    go_ret2
    exact ⟨_, rfl, by rw [HTf0.out]; exact o1.base_le (by omega), hb1⟩
  · have rd1 := o1.rd
    have c6 : w1.cell? ⟨g, 6, none⟩ = some (.int .u8 (T.getD 6 0)) := o1.cell 6 (by rw [HTl.out]; omega)
    have c7 : w1.cell? ⟨g, 7, none⟩ = some (.int .u8 (T.getD 7 0)) := o1.cell 7 (by rw [HTl.out]; omega)
    have fz := o1.free
    generalize T.getD 6 0 = z6 at *
    generalize T.getD 7 0 = z7 at *
    cases b
    · simp only [Bool.false_eq_true, if_false] at HTf
      have Ho := Lib.hid ((o1.set 6 (ov / 256)).set 7 (ov % 256))
      clear o1 l1 bx
      have hwn : ov / 256 % 256 = ov / 256 := by omega
      go_wp2_with (first | (go_at_call 131; refine (HP.out _).mono ?_; rintro e w4 ⟨rfl, rfl⟩) | (go_at_call 132; refine (HO.out _ _ _ rd1).mono ?_; rintro e w5 ⟨rfl, rfl⟩) | fail)
      go_ret2
      exact ⟨_, rfl, by rw [HTf.out]; exact Ho.out.base_le (by omega), (hb1.setCell (p := ⟨g, 6, none⟩) (by show w.heap.size ≤ g; omega) _).setCell (p := ⟨g, 7, none⟩) (by show w.heap.size ≤ g; omega) _⟩
    · simp only [if_true] at HTf
      have Ho := Lib.hid ((o1.set 6 255).set 7 255)
      clear o1 l1 bx
      go_wp2_with (first | (go_at_call 131; refine (HP.out _).mono ?_; rintro e w4 ⟨rfl, rfl⟩) | (go_at_call 132; refine (HO.out _ _ _ rd1).mono ?_; rintro e w5 ⟨rfl, rfl⟩) | fail)
      go_ret2
      exact ⟨_, rfl, by rw [HTf.out]; exact Ho.out.base_le (by omega), (hb1.setCell (p := ⟨g, 6, none⟩) (by show w.heap.size ≤ g; omega) _).setCell (p := ⟨g, 7, none⟩) (by show w.heap.size ≤ g; omega) _⟩

end Go.Proofs.YtebeekjcepjcnaaDoor

namespace Go.Proofs.YtebeekjcepjcnaaDoor
open Go.RowKit Go.Shelf

/-- An append onto an own row that is full: a new block. -/
theorem run_app_grow (w : World) (ty : TypeId) (base g n cap : Nat) (xs : List Int) (hown : Own w base (.slice (some ⟨g, 0, none⟩) n cap) xs) (B : Nat) (A : Option Addr) (c : Nat) (ys : List Int) (hr : Rd w B A .u8 ys) (h0 : 0 < ys.length)
    (hfull : cap < n + ys.length) (hb : n + ys.length ≤ 140737488355328) (base' : Nat) (hbase : base' ≤ w.heap.size) :
    ∃ v' w', (Builtin.append_ #[34, 34] ty #[.slice (some ⟨g, 0, none⟩) n cap, .slice A ys.length c]).run Tryd.prog w = .ok v' w' ∧ Own w' base' v' (xs ++ ys) ∧ Below w.heap.size w w' := by
  obtain rfl := hown.len
  obtain ⟨i, hi, hz, hs, hby⟩ := info_parts u8info
  obtain ⟨b, off, rfl, _, _⟩ := hr.at0 h0
  have holds : ∀ j u, (U8 xs)[j]? = some u → w.cell? ((⟨g, 0, none⟩ : Addr).add j) = some u := World.ownsRow.cells hown rfl
  have hsmall : xs.length + ys.length ≤ maxLen := by simp only [maxLen]; omega
  have hrun := run_append_grow (P := Tryd.prog) w 34 ty 5 i (.int .u8 0) Tryd.underlying34 hi hz ⟨g, 0, none⟩ xs.length cap (U8 xs) (by simp [U8, hs]) holds ⟨b, off, none⟩ ys.length c (U8 ys) (by simp [U8, hs]) hr.cells (by omega) (by simp only [maxLen] at hsmall; omega) (growslice_fits (by omega) (by rw [hby]; omega))
  have hge := grownCap_ge w (xs.length + ys.length) cap 5
  have hcm := grownCap_le_maxLen w (xs.length + ys.length) cap 5 hsmall
  refine ⟨_, _, hrun, Own.mk' (n := xs.length + ys.length) (l := U8 xs ++ U8 ys) ⟨by simp [U8], .inr ⟨w.heap.size, _, _, rfl, hbase, heap_alloc_new w.drew _, hge, hcm, ?_, ?_⟩⟩ (by simp) (U8_append _ _).symm, ?_⟩
  · simp only [Array.size_append, List.size_toArray, size_zeroCells, U8_length]
    simp only [Value.cells]
    show _ = _
    simp
    omega
  · simp only [Array.toList_append, List.append_assoc]
    rw [← List.append_assoc]
    rw [show (xs.length + ys.length) * 1 = (U8 xs ++ U8 ys).length by simp [U8]]
    exact List.take_left
  · exact (Below.refl w.heap.size w).drew.alloc (by simp) _
/-- THE ARM of an append that grows. -/
theorem app_grow {w : World} {ops : Array Oper} {rest : List Oper} {o : Oper} {a : Act} {Q : Exit → Act → World → Prop} (hgd : o.guard = none) (s x : Operand)
    (ho : o.op = .call { callee := .builtin .append, args := #[s, x], argTypes := #[34, 34] })
    (base g n cap : Nat) (xs : List Int) (hs : a.eval s = .slice (some ⟨g, 0, none⟩) n cap) (hown : Own w base (.slice (some ⟨g, 0, none⟩) n cap) xs) (B : Nat) (A : Option Addr) (m c : Nat) (ys : List Int)
    (hx : a.eval x = .slice A m c) (hm : m = ys.length) (hr : Rd w B A .u8 ys) (h0 : 0 < ys.length) (hfull : cap < n + ys.length) (hb : n + ys.length ≤ 140737488355328) (base' : Nat) (hbase : base' ≤ w.heap.size)
    (h : ∀ v' w', Own w' base' v' (xs ++ ys) → Below w.heap.size w w' → wpList Tryd.prog ops Q rest (a.put o.dst v') w') :
    wpList Tryd.prog ops Q (o :: rest) a w := by
  subst hm
  refine wpList_plain hgd fun K hK => ?_
  obtain ⟨v', w', hrun, h2, h3⟩ := run_app_grow w o.type base g n cap xs hown B A c ys hr h0 hfull hb base' hbase
  unfold Oper.wp execOp
  simp only [ho, resolve, invoke, builtin, Sem.run_bind, Sem.run_pure, Result.andThen_ok, List.map_toArray, List.map_cons, List.map_nil, hs, hx, hrun]
  exact hK _ _ (h v' w' h2 h3)
theorem slice2_inj : ∀ g h : Nat, Value.slice (some ⟨g, 0, none⟩) 2 2 = Value.slice (some ⟨h, 0, none⟩) 2 2 → g = h := by
  intro g h e
  simpa using e
theorem self_inj : ∀ u v : Value, (fun v : Value => v) u = (fun v : Value => v) v → u = v := fun _ _ h => h

/-- What the reference writes ahead of the checksum. -/
def tcpR0 (sp dp seqn ackn : Int) (fl : Nat) (win : Int) (data : List Int) : List Int := [sp / 256, sp % 256, dp / 256, dp % 256, seqn / 256 / 256 / 256, seqn / 256 / 256 % 256, seqn / 256 % 256, seqn % 256,
  ackn / 256 / 256 / 256, ackn / 256 / 256 % 256, ackn / 256 % 256, ackn % 256, 80, fl, win / 256, win % 256, 0, 0, 0 / 256, 0 % 256] ++ data
theorem tcpR0_eq (sp dp seqn ackn : Int) (fl : Nat) (win : Int) (data : List Int) : tcpR0 sp dp seqn ackn fl win data = tcpL0 sp dp seqn ackn fl win 0 [] data := by
  unfold tcpR0 tcpL0 tcpHead
  simp [b16s, b32s, b16, b32]
  omega
theorem tcpR_set (sp dp seqn ackn : Int) (fl : Nat) (win : Int) (data : List Int) (c : Int) :
    splice (tcpR0 sp dp seqn ackn fl win data) 16 (b16s [c]) = ((tcpR0 sp dp seqn ackn fl win data).set 16 (c / 256)).set 17 (c % 256) := rfl

set_option maxRecDepth 100000 in
set_option maxHeartbeats 4000000 in
theorem rTcpWrite_any (sp dp seqn ackn win : Int) (fl : Nat) (src dst : Int) (D : Option Addr) (dcap dl : Nat) (data : List Int) (w : World)
    (p0 : 0 < sp) (p1 : sp < 65536) (q0 : 0 < dp) (q1 : dp < 65536) (s0 : 0 ≤ seqn) (s1 : seqn < 4294967296) (a0 : 0 ≤ ackn) (a1 : ackn < 4294967296) (hf : fl < 256) (hsane : saneB fl = true)
    (w0 : 0 ≤ win) (w1 : win < 65536) (hdl : data.length = dl) (hd : dl ≤ 65495)
    (x0 : 0 ≤ src) (x1 : src < 4294967296) (y0 : 0 ≤ dst) (y1 : dst < 4294967296) (hdb : Byt data) (hrD : Rd w w.heap.size D .u8 data) :
    Calls Tryd.prog 88 #[.agg #[.int .u16 sp, .int .u16 dp, .int .u32 seqn, .int .u32 ackn, .int .u8 fl, .int .u16 win, .int .u16 0, .slice none 0 0], .int .u32 src, .int .u32 dst, .slice D dl dcap] w fun e w' => ∃ v, e = .returned (.tuple #[v, .int .i64 0]) ∧ Own w' w.heap.size v (tcpL sp dp seqn ackn fl win 0 [] src dst data) ∧ Below w.heap.size w w' := by
  have b1 : (sp == 0) = false := by simp; omega
  have b2 : (dp == 0) = false := by simp; omega
  have b5 : decide (65495 < (dl : Int)) = false := by simp; omega
  have HSn := Lib.hid (fun W => rSane_any fl W hf)
  rw [hsane] at HSn
  have HTl := Lib.hid (show (tcpR0 sp dp seqn ackn fl win data).length = 20 + dl by simp [tcpR0, hdl]; omega)
  have HTf := Lib.hid (show ((tcpR0 sp dp seqn ackn fl win data).set 16 (overB (pseudoL src dst 6 (20 + (dl : Int))) (tcpR0 sp dp seqn ackn fl win data) / 256)).set 17 (overB (pseudoL src dst 6 (20 + (dl : Int))) (tcpR0 sp dp seqn ackn fl win data) % 256) = tcpL sp dp seqn ackn fl win 0 [] src dst data by
    rw [← tcpR_set]; unfold tcpL tcpSumL; rw [← tcpR0_eq, HTl.out, show (((20 + dl : Nat) : Int)) = 20 + (dl : Int) by omega])
  have hTb : Byt (tcpR0 sp dp seqn ackn fl win data) := by
    unfold tcpR0
    refine Byt.append ?_ hdb
    intro y hy
    simp at hy
    rcases hy with rfl | rfl | rfl | rfl | rfl | rfl | rfl | rfl | rfl | rfl | rfl | rfl | rfl | rfl | rfl | rfl | rfl <;> omega
  have HTe : ∀ L, L = tcpR0 sp dp seqn ackn fl win data → L = tcpR0 sp dp seqn ackn fl win data := fun _ h => h
  have HT0 := Lib.hid (show [sp / 256, sp % 256, dp / 256, dp % 256, seqn / 256 / 256 / 256, seqn / 256 / 256 % 256, seqn / 256 % 256, seqn % 256, ackn / 256 / 256 / 256, ackn / 256 / 256 % 256, ackn / 256 % 256, ackn % 256, 80, (fl : Int), win / 256, win % 256, 0, 0, 0 / 256, 0 % 256] ++ data = tcpR0 sp dp seqn ackn fl win data from rfl)
  clear HTe
  generalize tcpR0 sp dp seqn ackn fl win data = T at *
  have HP := Lib.hid (fun W => rPseudo_any src dst 6 (20 + (dl : Int)) W x0 x1 y0 y1 (by omega) (by omega) (by omega) (by omega))
  have hps : 0 ≤ pseudoL src dst 6 (20 + (dl : Int)) ∧ pseudoL src dst 6 (20 + (dl : Int)) ≤ 65535 := joinL_bd (l := [src / 65536, src % 65536, dst / 65536, dst % 65536, 6, 20 + (dl : Int)]) (by intro y hy; simp at hy; rcases hy with rfl | rfl | rfl | rfl | rfl | rfl <;> omega)
  generalize pseudoL src dst 6 (20 + (dl : Int)) = ps at *
  have HO := Lib.hid (fun A c W (h : Rd W W.heap.size A .u8 T) => rOver_any ps A c T W hps.1 (by omega) hTb (by rw [HTl.out]; omega) h)
  rw [HTl.out] at HO
  have hov := overB_bd hTb hps.1 (by omega)
  generalize overB ps T = ov at *
  have Hdl := Lib.hid hdl.symm
  clear hsane hdl hdb hTb
  generalize tcpL sp dp seqn ackn fl win 0 [] src dst data = R at *
  go_enter Tryd.func88, Tryd.ntmps88
  go_upto_region 4 with (first | (go_at_call 78; refine (HSn.out _).mono ?_; rintro e w' ⟨rfl, rfl⟩) | fail)
  refine wp_name1 ?_
  intro w1 hb1 hs1 b0
  have hSt := (St.nil hb1 hb1.size).cons b0
  clear b1 b2 b5 HSn
  refine wp_region_walk0 (by kernel_rfl) (fun _ W => St w w.heap.size _ W) [] Grow [0, 1, 2, 4, 5, 6, 3, 7, 8, 9] (by kernel_rfl) hSt.drew ?_
  iterate 6
    apply Walk.one rfl rfl rfl
    case hrun =>
      intro c W hE hF
      have hc0 := (hE.get 0 rfl).cell
      go_wp2_with fail
      exact TextPost.mk ⟨Grow.refl _, hE⟩
    case hv => rfl
  refine Walk.anyOf (fun g => .slice (some ⟨g, 0, none⟩) 2 2) slice2_inj (fun g W => Own W (w.heap.size + 1) (.slice (some ⟨g, 0, none⟩) 2 2) [sp / 256, sp % 256]) (fun _ _ _ h hG => h.keep hG) rfl rfl rfl (by kernel_rfl) (by kernel_rfl) ?_ (fun g1 => ?_)
  · intro c W hE hF
    have hlt := (hE.get 0 rfl).lt
    go_wp2_with fail
    refine (rBytesB_2at sp _ (by omega) (by omega)).mono ?_
    rintro e W2 ⟨g, rfl, hown, l⟩
    go_wp2_with fail
    exact ⟨g, rfl, hown.base_le hlt, l, hE.below l⟩
  dsimp only [Act.put]
  simp only [List.setIfInBounds_toArray, List.set_cons_succ, List.set_cons_zero]
  refine Walk.anyOf (fun g => .slice (some ⟨g, 0, none⟩) 2 2) slice2_inj (fun g W => Own W (w.heap.size + 1) (.slice (some ⟨g, 0, none⟩) 2 2) [dp / 256, dp % 256]) (fun _ _ _ h hG => h.keep hG) rfl rfl rfl (by kernel_rfl) (by kernel_rfl) ?_ (fun g2 => ?_)
  · intro c W hE hF
    have hlt := (hE.get 0 rfl).lt
    go_wp2_with fail
    refine (rBytesB_2at dp _ (by omega) (by omega)).mono ?_
    rintro e W2 ⟨g, rfl, hown, l⟩
    go_wp2_with fail
    exact ⟨g, rfl, hown.base_le hlt, l, hE.below l⟩
  dsimp only [Act.put]
  simp only [List.setIfInBounds_toArray, List.set_cons_succ, List.set_cons_zero]
  refine Walk.anyOf (fun v => v) self_inj (fun v W => Own W (w.heap.size + 1) v [sp / 256, sp % 256, dp / 256, dp % 256]) (fun _ _ _ h hG => h.keep hG) rfl rfl rfl (by kernel_rfl) (by kernel_rfl) ?_ (fun v => ?_)
  · intro c W hE hF
    have hlt := (hE.get 0 rfl).lt
    refine app_grow rfl _ _ rfl _ g1 2 2 _ rfl hF.tail.head W.heap.size (some ⟨g2, 0, none⟩) 2 2 _ rfl rfl hF.head.rd (by simp) (by simp) (by simp) (w.heap.size + 1) hlt ?_
    intro v W2 hown l
    go_wp2_with fail
    exact ⟨v, rfl, hown, l, hE.below l⟩
  dsimp only [Act.put]
  simp only [List.setIfInBounds_toArray, List.set_cons_succ, List.set_cons_zero]
  apply Walk.one rfl rfl rfl
  case hrun =>
    intro c W hE hF
    go_wp2_with fail
    exact TextPost.mk ⟨Grow.refl _, hE⟩
  case hv => rfl
  refine Walk.done (fun W hE hF => ?_)
  have ch : Ch w 146 _ W v [sp / 256, sp % 256, dp / 256, dp % 256] := ⟨hE.1, (hE.get 0 rfl).lt, hE.get 0 rfl, hF.head⟩
  have hcx := ch.blk.cell
  clear hSt hE hF b0 hb1 hs1
  go_wp2_with fail
  refine (rBytesB_4 seqn _ (by omega) (by omega)).mono ?_
  rintro e wc ⟨A, c, rfl, oc, lc⟩
  replace ch := ch.call lc
  replace hcx := ch.blk.cell
  go_upto_region 6 with (at_builtin; refine app_own rfl (.tmp 57) (.tmp 61) rfl _ _ _ rfl ch.own _ A _ c _ rfl rfl oc.rd (by simp) ch.size ?_; intro v w1 o1 l1 _ _)
  replace ch := ch.app o1 l1
  replace hcx := ch.blk.cell
  clear o1 l1 oc lc
  go_wp2_with fail
  refine (rBytesB_4 ackn _ (by omega) (by omega)).mono ?_
  rintro e wc ⟨A, c, rfl, oc, lc⟩
  replace ch := ch.call lc
  replace hcx := ch.blk.cell
  go_upto_region 7 with (at_builtin; refine app_own rfl (.tmp 63) (.tmp 67) rfl _ _ _ rfl ch.own _ A _ c _ rfl rfl oc.rd (by simp) ch.size ?_; intro v w1 o1 l1 _ _)
  replace ch := ch.app o1 l1
  replace hcx := ch.blk.cell
  clear o1 l1 oc lc
  go_upto_region 8 with (at_builtin; refine app_own rfl (.tmp 69) (.tmp 77) rfl _ _ _ rfl (ch.call ((Below.refl _ _).alloc (Nat.le_refl _) _)).own _ _ _ 2 [80, (fl : Int)] rfl rfl (Rd.new3 rfl rfl) (by simp) (by have := ch.size; simp; omega) ?_; intro v w1 o1 l1 _ _)
  replace ch := (ch.call ((Below.refl _ _).alloc (Nat.le_refl _) _)).app o1 l1
  replace hcx := ch.blk.cell
  clear o1 l1
  go_wp2_with fail
  refine (rBytesB_2 win _ (by omega) (by omega)).mono ?_
  rintro e wc ⟨A, c, rfl, oc, lc⟩
  replace ch := ch.call lc
  replace hcx := ch.blk.cell
  go_upto_region 9 with (at_builtin; refine app_own rfl (.tmp 79) (.tmp 83) rfl _ _ _ rfl ch.own _ A _ c _ rfl rfl oc.rd (by simp) ch.size ?_; intro v w1 o1 l1 _ _)
  replace ch := ch.app o1 l1
  replace hcx := ch.blk.cell
  clear o1 l1 oc lc
  go_upto_region 10 with (at_builtin; refine app_own rfl (.tmp 85) (.tmp 86) rfl _ _ _ rfl (ch.call ((Below.refl _ _).alloc (Nat.le_refl _) _)).own _ _ _ 2 [0, 0] rfl rfl (Rd.new3 rfl rfl) (by simp) (by have := ch.size; simp; omega) ?_; intro v w1 o1 l1 _ _)
  replace ch := (ch.call ((Below.refl _ _).alloc (Nat.le_refl _) _)).app o1 l1
  replace hcx := ch.blk.cell
  clear o1 l1
  go_wp2_with fail
  refine (rBytesB_2 0 _ (by omega) (by omega)).mono ?_
  rintro e wc ⟨A, c, rfl, oc, lc⟩
  replace ch := ch.call lc
  replace hcx := ch.blk.cell
  go_upto_region 11 with (at_builtin; refine app_own rfl (.tmp 88) (.tmp 92) rfl _ _ _ rfl ch.own _ A _ c _ rfl rfl oc.rd (by simp) ch.size ?_; intro v w1 o1 l1 _ _)
  replace ch := ch.app o1 l1
  replace hcx := ch.blk.cell
  clear o1 l1 oc lc
  go_upto_region 12 with (at_builtin; refine app_own rfl (.tmp 94) (.tmp 96) rfl _ _ _ rfl ch.own 0 none _ 0 [] rfl rfl Rd.nil (by simp) ch.size ?_; intro v w1 o1 l1 _ _)
  rw [List.append_nil] at o1
  replace ch := ch.app o1 l1
  clear o1 l1 hcx
  have hrDx : Rd _ w.heap.size D .u8 data := hrD.below ch.below (Nat.le_refl _)
  go_upto_region 13 with (at_builtin; refine app_own rfl (.tmp 98) (.tmp 99) rfl _ _ _ rfl ch.own _ D _ dcap data rfl Hdl.out hrDx (by have := Hdl.out; simp; omega) ch.size ?_; intro v9 w9 o1 l1 _ _)
  replace ch := ch.app o1 l1
  clear o1 l1 hrDx
  have ch2 : Ch w 146 #[.int .u16 sp, .int .u16 dp, .int .u32 seqn, .int .u32 ackn, .int .u8 fl, .int .u16 win, .int .u16 0, .slice none 0 0] w9 v9 T := by rw [← HT0.out]; exact ch
  clear ch
  obtain ⟨g, cap, rfl, hg0, hg1, _, _⟩ := ch2.own.form (by rw [HTl.out]; omega)
  have o1 := ch2.own
  have hbw := ch2.below
  have c16 : w9.cell? ⟨g, 16, none⟩ = some (.int .u8 (T.getD 16 0)) := o1.cell 16 (by rw [HTl.out]; omega)
  have c17 : w9.cell? ⟨g, 17, none⟩ = some (.int .u8 (T.getD 17 0)) := o1.cell 17 (by rw [HTl.out]; omega)
  have fz := o1.free
  have Ho := Lib.hid ((o1.set 16 (ov / 256)).set 17 (ov % 256))
  have rd1 := o1.rd
  have HTi := Lib.hid (show ((T.length : Nat) : Int) = 20 + (dl : Int) by rw [HTl.out]; omega)
  rw [HTl.out] at Ho ⊢
  generalize T.getD 16 0 = z6 at *
  generalize T.getD 17 0 = z7 at *
  have hwn : ov / 256 % 256 = ov / 256 := by omega
  clear o1 ch2
  go_wp2_with (first | (go_at_call 131; refine (HP.out _).mono ?_; rintro e w4 ⟨rfl, rfl⟩) | (go_at_call 132; refine (HO.out _ _ _ rd1).mono ?_; rintro e w5 ⟨rfl, rfl⟩) | fail)
  go_ret2
  exact ⟨_, rfl, by rw [← HTf.out]; exact Ho.out.base_le (by omega), (hbw.setCell (p := ⟨g, 16, none⟩) (by show w.heap.size ≤ g; omega) _).setCell (p := ⟨g, 17, none⟩) (by show w.heap.size ≤ g; omega) _⟩

end Go.Proofs.YtebeekjcepjcnaaDoor
