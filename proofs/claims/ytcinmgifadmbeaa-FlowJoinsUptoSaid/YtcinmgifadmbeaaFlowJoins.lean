/- FlowJoins, where what is read is of bulk at most 1048576: the instructions of two codes, one behind the other. -/
import Derived.Test.YtcinmgifadmbeaaBulk
import Derived.JoinedCond
import Derived.Test.YtcinmgifadmbeaaFlowAw
import Derived.Test.YtcinmgifadmbeaaFlowJ
import Derived.Test.YtcinmgifadmbeaaHead
import Derived.Test.YtcinmgifadmbeaaOpenG
import Derived.Deep.RegionHeld3
import Derived.Lib.SmallJoins
import Derived.ProofKit
import Derived.OpenShut
import Derived.ShutString
import Derived.ChangeOld
import Derived.Laws.StructEq
namespace Go.Proofs.Ytcinmgifadmbeaa.FlowJoinsP
open Go.ChangeShapes Go.WideShapes Go.ChangeAt Go.RowKit
open Go.ChangeMaps (open_string shut_string)
set_option linter.unusedVariables false

theorem own : ownKnob Try.prog.godebug = none := by kernel_rfl
theorem laidOut : laidOutB Try.prog = true := by kernel_rfl
theorem bnext {a b c : World} (h : Below a.heap.size a b) (k : Below b.heap.size b c) : Below a.heap.size a c := h.trans (k.mono h.size)
theorem ReadsI.front {w : World} {B : Nat} {A : Option Addr} {l m : List Ins} (h : ReadsI w B A (l ++ m)) : ReadsI w B A l := by
  have h1 := Reads.take (k := l.length) h (by simp)
  rwa [cellsI_append, List.take_left' (cellsI_length l)] at h1

set_option maxRecDepth 100000 in
set_option maxHeartbeats 4000000 in
theorem walk (a0 : Option Addr) (len0 cap0 : Nat) (z0 : List Int) (a1 : Option Addr) (len1 cap1 : Nat) (z1 : List Int) (w : World) (h : IsRow .u8 w a0 len0 cap0 z0) (hcap : cap0 ≤ 1048576) (h' : IsRow .u8 w a1 len1 cap1 z1) (hcap' : cap1 ≤ 1048576) :
    Calls Try.prog 10 #[.slice a0 len0 cap0, .slice a1 len1 cap1] w fun e w' => e = .returned (.bool true) ∧ Below w.heap.size w w' := by
  obtain ⟨xa, hlen, hba, hra, hlca, hmxa⟩ := h.reads
  subst hlen
  obtain ⟨xb, hlen, hbb, hrb, hlcb, hmxb⟩ := h'.reads
  subst hlen
  clear h h'
  have gaw := fun w => Lib.hid (awake07 w)
  have hla := Lib.hid (list_any a0 cap0 xa w (by omega) hba hra hlca (by omega))
  have hlb := fun w' (hb : Below w.heap.size w w') => Lib.hid (list_any a1 cap1 xb w' (by omega) hbb ((Reads.below hrb hb).more hb.size) hlcb (by omega))
  have hxa : xa.length ≤ 1048576 := by omega
  have hxb : xb.length ≤ 1048576 := by omega
  have hlz := fun (hs : (xa ++ xb).length ≤ 4194304) A c w' (hr' : ReadsB w' w'.heap.size A (xa ++ xb)) (h1 : (xa ++ xb).length ≤ c) (h2 : c ≤ maxLen) => Lib.hid (list_any A c (xa ++ xb) w' hs (hba.append hbb) hr' h1 (by unfold maxLen at h2; omega))
  unfold LsPost at hla hlb hlz
  by_cases he1 : listE xa = 0
  · by_cases he2 : listE xb = 0
    · skip
      have hs2 : (xa ++ xb).length = xa.length + xb.length := List.length_append
      obtain ⟨hz1, hz2⟩ := list_join hbb (by omega) he1 he2
      replace hlz := hlz (by omega)
      rw [hz1, hz2, hs2] at hlz
      rw [he1] at hla
      rw [he2] at hlb
      have hrow := list_row he2
      have hrow1 := list_row he1
      have hlx : (listL xa).length ≤ 1048576 := by have := rowI_len hrow1; omega
      have hly : (listL xb).length ≤ 1048576 := by have := rowI_len hrow; omega
      clear hz1 hz2 hrow1
      generalize listL xa = lx at *
      generalize listL xb = ly at *
      have hn : (lx ++ ly.map (shiftI xa.length)).length = lx.length + ly.length := by simp
      rw [hn] at hlz
      generalize hzz : lx ++ ly.map (shiftI xa.length) = lz at *
      replace hzz := Lib.hid hzz
      replace hs2 := Lib.hid hs2
      replace hn := Lib.hid hn
      have gsame := fun A1 A2 c1 c2 w B1 B2 h1 h2 => Lib.hid (same07_any A1 A2 c1 c2 lx w B1 B2 h1 h2 (by unfold maxLen; omega))
      go_enter Try.func10, Try.ntmps10
      go_wp2_with fail
      refine hla.out.mono ?_
      rintro _ w1 ⟨A1, c1, rfl, hr1, hlc1, hm1, hb1⟩
      go_wp2_with fail
      refine (hlb w1 hb1).out.mono ?_
      rintro _ w2 ⟨A2, c2, rfl, hr2, hlc2, hm2, hb2⟩
      have hB2 := hb1.trans (hb2.mono hb1.size)
      have hr1 : ReadsI w2 w2.heap.size _ _ := (Reads.below hr1 hb2).more hb2.size
      have hra2 : ReadsB w2 w2.heap.size _ _ := (Reads.below hra hB2).more hB2.size
      have hrb2 : ReadsB w2 w2.heap.size _ _ := (Reads.below hrb hB2).more hB2.size
      clear hla hlb hra hrb
      go_wp2_with (first
        | (at_builtin
           refine wpList_appB _ rfl (.tmp 34) (.tmp 35) rfl w2.heap.size (.slice (some ⟨w2.heap.size, 0, none⟩) 0 0) [] rfl (OwnB.lit rfl (Nat.le_refl _) (by unfold maxLen; simp)) w2.heap.size a0 xa.length cap0 xa rfl (Reads.alloc hra2 (Nat.le_refl _) _) rfl
             xa xa.length rfl rfl (by omega) (by simp) ?_
           intro A3 c3 w3 hown3 _ hb3 _
           have hrb3 : ReadsB w3 w2.heap.size a1 xb := Reads.below (Reads.alloc hrb2 (Nat.le_refl _) _) hb3)
        | (at_builtin
           refine wpList_appB _ rfl (.tmp 36) (.tmp 37) rfl w2.heap.size (.slice A3 xa.length c3) xa rfl hown3 w2.heap.size a1 xb.length cap1 xb rfl hrb3 rfl
             (xa ++ xb) (xa.length + xb.length) rfl hs2.out (by omega) (by have := hb3.size; simp at this; omega) ?_
           intro A4 c4 w4 hown4 _ hb4 _))
      have ho := hown4.cap
      rw [hs2.out] at ho
      have hB4 : Below w2.heap.size w2 w4 := (((Below.refl _ _).alloc (Nat.le_refl _) _).trans hb3).trans hb4
      refine (hlz A4 c4 w4 hown4.reads ho.1 ho.2).out.mono ?_
      rintro _ w5 ⟨A5, c5, rfl, hr5, hlc5, hm5, hb5⟩
      have hB5 := hB4.trans (hb5.mono hB4.size)
      have hV5 := hB2.trans (hB5.mono hB2.size)
      have hr1 : ReadsI w5 w5.heap.size _ _ := (Reads.below hr1 hB5).more hB5.size
      have hr2 : ReadsI w5 w5.heap.size _ _ := (Reads.below hr2 hB5).more hB5.size
      clear hlz hown3 hown4 ho hb3 hb4 hb5 hB4 hB5 hra2 hrb2 hrb3 hB2
      have hr6 : ReadsI w5 w5.heap.size A5 lx := ReadsI.front (m := ly.map (shiftI xa.length)) (by rw [hzz.out]; exact hr5)
      go_wp2_with fail
      refine (gsame _ _ _ _ w5 _ _ hr6 hr1).out.mono ?_
      rintro _ w6 ⟨rfl, n6, rfl⟩
      have hV6 := below_drewN hV5 n6
      have hr2 : ReadsI (w5.drewN n6) (w5.drewN n6).heap.size _ _ := (ReadsI.drewN hr2 n6)
      have hr5 : ReadsI (w5.drewN n6) (w5.drewN n6).heap.size _ _ := (ReadsI.drewN hr5 n6)
      clear hV5 hr6 hr1
      go_wp2_with fail
      generalize w5.drewN n6 = w6 at *
      go_loopw [11] (fun i wr => ∃ k : Nat, k ≤ ly.length ∧ i = .int .i64 k ∧ Below w.heap.size w wr ∧ ReadsI wr wr.heap.size A2 ly ∧ ReadsI wr wr.heap.size A5 lz) (fun i _ => ly.length - (intOf i).toNat)
      case atStart => exact ⟨0, Nat.zero_le _, rfl, hV6, hr2, hr5⟩
      case round =>
        obtain ⟨k, hk, rfl, hB, hRy, hRz⟩ := hrel
        by_cases hlt : k < ly.length
        · obtain ⟨y, hy⟩ := ins_at hlt
          have hz : lz[lx.length + k]? = some (shiftI xa.length y) := by
            rw [← hzz.out, List.getElem?_append_right (by omega), Nat.add_sub_cancel_left, List.getElem?_map, hy]
            rfl
          have g := rowI_ge hrow y (List.mem_of_getElem? hy)
          have t0 : (shiftI xa.length y).at_ = y.at_ + xa.length := rfl
          have t1 : (shiftI xa.length y).op = y.op := rfl
          have t2 : (shiftI xa.length y).a = if ldB y = true then wrap64 (y.a + xa.length) else y.a := rfl
          have t3 : (shiftI xa.length y).b = y.b := rfl
          have t4 : (shiftI xa.length y).size = y.size := rfl
          have hleads := fun w => Lib.hid (leads_any (shiftI xa.length y) w)
          have t5 : ldB (shiftI xa.length y) = ldB y := rfl
          rw [t5] at hleads
          unfold Ins.val at hleads
          generalize shiftI xa.length y = s at *
          obtain ⟨ad1, rfl, had1, e1⟩ := hRy.at_ hy
          obtain ⟨ad2, rfl, had2, e2⟩ := hRz.at_ hz
          obtain ⟨p0, p1, p2, p3, p4⟩ := e2
          replace hy := Lib.hid hy
          replace hz := Lib.hid hz
          clear t5
          obtain ⟨s0, s1, s2, s3, s4⟩ := s
          dsimp only at t0 t1 t2 t3 t4 p0 p1 p2 p3 p4 hleads
          subst t0
          subst t1
          subst t2
          subst t3
          subst t4
          cases hld : ldB y with
          | true =>
            rw [hld] at hleads p2
            rw [if_pos rfl] at hleads p2
            replace hld := Lib.hid hld
            go_wp2_with fail
            have hZ := Blk.new wr 28 #[.int .i64 (y.at_ + xa.length), .int .i64 y.op, .int .i64 (wrap64 (y.a + xa.length)), .int .i64 y.b, .int .i64 y.size]
            have hV := hB.alloc hB.size (.cells #[.int .i64 (y.at_ + xa.length), .int .i64 y.op, .int .i64 (wrap64 (y.a + xa.length)), .int .i64 y.b, .int .i64 y.size] 28)
            have hRy1 : ReadsI (wr.alloc (.cells #[.int .i64 (y.at_ + xa.length), .int .i64 y.op, .int .i64 (wrap64 (y.a + xa.length)), .int .i64 y.b, .int .i64 y.size] 28)) (wr.alloc (.cells #[.int .i64 (y.at_ + xa.length), .int .i64 y.op, .int .i64 (wrap64 (y.a + xa.length)), .int .i64 y.b, .int .i64 y.size] 28)).heap.size _ _ := Reads.more (Reads.alloc hRy (Nat.le_refl _) _) (by simp)
            have hRz1 : ReadsI (wr.alloc (.cells #[.int .i64 (y.at_ + xa.length), .int .i64 y.op, .int .i64 (wrap64 (y.a + xa.length)), .int .i64 y.b, .int .i64 y.size] 28)) (wr.alloc (.cells #[.int .i64 (y.at_ + xa.length), .int .i64 y.op, .int .i64 (wrap64 (y.a + xa.length)), .int .i64 y.b, .int .i64 y.size] 28)).heap.size _ _ := Reads.more (Reads.alloc hRz (Nat.le_refl _) _) (by simp)
            refine (hleads _).out.mono ?_
            rintro _ w4 ⟨rfl, hb4⟩
            have hZ4 := hZ.below hb4 hZ.lt
            have hV4 := hV.trans (hb4.mono hV.size)
            have hRy4 : ReadsI w4 w4.heap.size _ _ := (Reads.below hRy1 hb4).more hb4.size
            have hRz4 : ReadsI w4 w4.heap.size _ _ := (Reads.below hRz1 hb4).more hb4.size
            obtain ⟨ad3, q2, _, e2⟩ := hRy4.at_ hy.out
            injection q2 with q2
            subst q2
            obtain ⟨a0, a1, a2, a3, a4⟩ := e2
            have d0 : w4.cell? ⟨wr.heap.size, 0, none⟩ = some (.int .i64 (y.at_ + xa.length)) := hZ4.cell 0
            have d1 : w4.cell? ⟨wr.heap.size, 1, none⟩ = some (.int .i64 y.op) := hZ4.cell 1
            have d2 : w4.cell? ⟨wr.heap.size, 2, none⟩ = some (.int .i64 (wrap64 (y.a + xa.length))) := hZ4.cell 2
            have d3 : w4.cell? ⟨wr.heap.size, 3, none⟩ = some (.int .i64 y.b) := hZ4.cell 3
            have d4 : w4.cell? ⟨wr.heap.size, 4, none⟩ = some (.int .i64 y.size) := hZ4.cell 4
            clear hRy1 hRz1 hZ hZ4 hV hb4 p0 p1 p2 p3 p4 e1
            go_wp2_with fail
            go_quiet (fail)
            go_wp2_with fail
            exact ⟨⟨k + 1, by omega, by go_num, below_drewN hV4 _, ReadsI.drewN hRy4 _, ReadsI.drewN hRz4 _⟩, by simp [intOf]; omega⟩
          | false =>
            rw [hld] at hleads p2
            rw [if_neg (by decide)] at hleads p2
            replace hld := Lib.hid hld
            go_wp2_with fail
            have hZ := Blk.new wr 28 #[.int .i64 (y.at_ + xa.length), .int .i64 y.op, .int .i64 y.a, .int .i64 y.b, .int .i64 y.size]
            have hV := hB.alloc hB.size (.cells #[.int .i64 (y.at_ + xa.length), .int .i64 y.op, .int .i64 y.a, .int .i64 y.b, .int .i64 y.size] 28)
            have hRy1 : ReadsI (wr.alloc (.cells #[.int .i64 (y.at_ + xa.length), .int .i64 y.op, .int .i64 y.a, .int .i64 y.b, .int .i64 y.size] 28)) (wr.alloc (.cells #[.int .i64 (y.at_ + xa.length), .int .i64 y.op, .int .i64 y.a, .int .i64 y.b, .int .i64 y.size] 28)).heap.size _ _ := Reads.more (Reads.alloc hRy (Nat.le_refl _) _) (by simp)
            have hRz1 : ReadsI (wr.alloc (.cells #[.int .i64 (y.at_ + xa.length), .int .i64 y.op, .int .i64 y.a, .int .i64 y.b, .int .i64 y.size] 28)) (wr.alloc (.cells #[.int .i64 (y.at_ + xa.length), .int .i64 y.op, .int .i64 y.a, .int .i64 y.b, .int .i64 y.size] 28)).heap.size _ _ := Reads.more (Reads.alloc hRz (Nat.le_refl _) _) (by simp)
            refine (hleads _).out.mono ?_
            rintro _ w4 ⟨rfl, hb4⟩
            have hZ4 := hZ.below hb4 hZ.lt
            have hV4 := hV.trans (hb4.mono hV.size)
            have hRy4 : ReadsI w4 w4.heap.size _ _ := (Reads.below hRy1 hb4).more hb4.size
            have hRz4 : ReadsI w4 w4.heap.size _ _ := (Reads.below hRz1 hb4).more hb4.size
            obtain ⟨ad3, q2, _, e2⟩ := hRy4.at_ hy.out
            injection q2 with q2
            subst q2
            obtain ⟨a0, a1, a2, a3, a4⟩ := e2
            have d0 : w4.cell? ⟨wr.heap.size, 0, none⟩ = some (.int .i64 (y.at_ + xa.length)) := hZ4.cell 0
            have d1 : w4.cell? ⟨wr.heap.size, 1, none⟩ = some (.int .i64 y.op) := hZ4.cell 1
            have d2 : w4.cell? ⟨wr.heap.size, 2, none⟩ = some (.int .i64 y.a) := hZ4.cell 2
            have d3 : w4.cell? ⟨wr.heap.size, 3, none⟩ = some (.int .i64 y.b) := hZ4.cell 3
            have d4 : w4.cell? ⟨wr.heap.size, 4, none⟩ = some (.int .i64 y.size) := hZ4.cell 4
            clear hRy1 hRz1 hZ hZ4 hV hb4 p0 p1 p2 p3 p4 e1
            go_wp2_with fail
            go_quiet (fail)
            go_wp2_with fail
            exact ⟨⟨k + 1, by omega, by go_num, below_drewN hV4 _, ReadsI.drewN hRy4 _, ReadsI.drewN hRz4 _⟩, by simp [intOf]; omega⟩
        · obtain rfl : k = ly.length := by omega
          go_wp2_with fail
          refine (gaw _).out.mono ?_
          rintro _ w7 ⟨rfl, hb7⟩
          go_wp2_with fail
          go_ret
          exact ⟨rfl, hB.trans (hb7.mono hB.size)⟩
    · have hrow := list_none he2
      rw [hrow] at hlb
      rw [he1] at hla
      clear hrow
      generalize listE xb = code at *
      have b1 : decide (code = 0) = false := by simpa using he2
      generalize listL xa = lx at *
      go_enter Try.func10, Try.ntmps10
      go_wp2_with fail
      refine hla.out.mono ?_
      rintro _ w1 ⟨A1, c1, rfl, hr1, hlc1, hm1, hb1⟩
      go_wp2_with fail
      refine (hlb w1 hb1).out.mono ?_
      rintro _ w2 ⟨A2, c2, rfl, hr2, hlc2, hm2, hb2⟩
      have hB2 := hb1.trans (hb2.mono hb1.size)
      clear hla hlb hlz
      go_wp2_with fail
      refine (gaw _).out.mono ?_
      rintro _ w5 ⟨rfl, hb5⟩
      go_wp2_with fail
      go_ret
      exact ⟨rfl, hB2.trans (hb5.mono hB2.size)⟩
  · have hrow := list_none he1
    rw [hrow] at hla
    clear hrow
    generalize listE xa = code at *
    have b1 : decide (code = 0) = false := by simpa using he1
    generalize listL xb = lx at *
    go_enter Try.func10, Try.ntmps10
    go_wp2_with fail
    refine hla.out.mono ?_
    rintro _ w1 ⟨A1, c1, rfl, hr1, hlc1, hm1, hb1⟩
    go_wp2_with fail
    refine (hlb w1 hb1).out.mono ?_
    rintro _ w2 ⟨A2, c2, rfl, hr2, hlc2, hm2, hb2⟩
    have hB2 := hb1.trans (hb2.mono hb1.size)
    clear hla hlb hlz
    go_wp2_with fail
    refine (gaw _).out.mono ?_
    rintro _ w5 ⟨rfl, hb5⟩
    go_wp2_with fail
    go_ret
    exact ⟨rfl, hB2.trans (hb5.mono hB2.size)⟩

set_option maxRecDepth 100000 in
theorem lifted (os : Os) (started : os.Started) (H : Type) (enc : TypeId × Value → H) (Fi : Stop.Interp) :
    ReturnsInHanded {} Try.checked os 10 .any ((Rows.OpenSpec.upto Rows.flowJoinsSpec).pre6 enc Try.prog Try.f10 Rows.flowJoinsUptoRow.domain false) (((Rows.OpenSpec.upto Rows.flowJoinsSpec).at Fi).post enc Try.prog Try.f10 false true false false) := by
  refine returnsInHanded_of_cond (C := Try.checked) (s := Rows.OpenSpec.upto Rows.flowJoinsSpec) (k := Rows.uptoSmall) rfl own started (by kernel_rfl) Try.func10
    (OpenSpec.witness (enc := enc) (C := Try.checked) (s := Rows.OpenSpec.upto Rows.flowJoinsSpec) (k := Rows.uptoSmall) rfl false ⟨#[], #[.slice none 0 0, .slice none 0 0], []⟩ 8 (by kernel_rfl) (by kernel_rfl) (by kernel_rfl)
      (x := ([.nil, .nil], [], [])) (by kernel_rfl) rfl (by kernel_rfl)) ?_
  intro W base args ds gs before hval0 hW hcnd hk _
  have hval : ∀ (j : Nat) t v, Try.f10.params[j]? = some t → args[j]? = some v → Value.okWide Try.prog W .any base t v := hval0
  have hW' := hW
  obtain ⟨p, q, hA0, hV, rfl, hfz, hnd⟩ := hW
  have hA : DataW.TrodAll enc Try.prog W 0 (fun _ => true) true Try.f10.params.toList args.toList ds p := hA0
  rw [Try.params10] at hA hval
  obtain ⟨v0, vs0, d0, ds0, p0, q0, hargs, rfl, rfl, h0, r0⟩ := trodAll_cons hA
  obtain ⟨v1, vs1, d1, ds1, p1, q1, rfl, rfl, rfl, h1, r1⟩ := trodAll_cons r0
  obtain ⟨rfl, rfl, rfl⟩ := trodAll_nil r1
  obtain rfl : args = #[v0, v1] := by cases args; simp_all
  obtain ⟨rfl, rfl⟩ := trodVars_none hV
  obtain ⟨a0, len0, cap0, rfl⟩ := okWide_slice Try.underlying31 (hval 0 31 v0 rfl rfl)
  have k0 := h0
  have lt0 : ∀ x ∈ p0, x.block < W.heap.size := by obtain ⟨m, hm⟩ := k0; exact DataW.trod_lt m _ _ _ hm
  obtain ⟨z0, w0, hcap0⟩ : ∃ zs, IsRow .u8 W a0 len0 cap0 zs ∧ cap0 ≤ 1048576 := by
    obtain ⟨fuel, hf⟩ := h0
    rcases open_ints Try.underlying31 Try.underlying5 (by kernel_rfl) hf with ⟨hcs, _⟩ | ⟨x, l, c, zs, hcs, _, hl, hm, hz, hx, hcell, hwz⟩
    · simp [Value.cells] at hcs
      obtain ⟨rfl, rfl, rfl⟩ := hcs
      exact ⟨[], .inl ⟨rfl, rfl, rfl, rfl⟩, by omega⟩
    · simp [Value.cells] at hcs
      obtain ⟨rfl, rfl, rfl⟩ := hcs
      simp only [Prod.mk.injEq] at hx
      obtain ⟨hx1, _⟩ := hx
      subst hx1
      have hcap := Nat.le_trans (bulk_slice _ _) (bulk_small hk (List.mem_append_left _ (List.mem_cons_self ..)))
      simp only [lits, List.length_map, List.length_take, List.length_drop] at hcap
      have hz2 : zs.length = cap0 := by simpa using hz
      replace hcap : cap0 ≤ 1048576 := by omega
      exact ⟨zs, .inr ⟨_, rfl, hl, hm, by simpa using hz, hcell, hwz⟩, hcap⟩
  obtain ⟨a1, len1, cap1, rfl⟩ := okWide_slice Try.underlying31 (hval 1 31 v1 rfl rfl)
  have k1 := h1
  have lt1 : ∀ x ∈ p1, x.block < W.heap.size := by obtain ⟨m, hm⟩ := k1; exact DataW.trod_lt m _ _ _ hm
  obtain ⟨z1, w1, hcap1⟩ : ∃ zs, IsRow .u8 W a1 len1 cap1 zs ∧ cap1 ≤ 1048576 := by
    obtain ⟨fuel, hf⟩ := h1
    rcases open_ints Try.underlying31 Try.underlying5 (by kernel_rfl) hf with ⟨hcs, _⟩ | ⟨x, l, c, zs, hcs, _, hl, hm, hz, hx, hcell, hwz⟩
    · simp [Value.cells] at hcs
      obtain ⟨rfl, rfl, rfl⟩ := hcs
      exact ⟨[], .inl ⟨rfl, rfl, rfl, rfl⟩, by omega⟩
    · simp [Value.cells] at hcs
      obtain ⟨rfl, rfl, rfl⟩ := hcs
      simp only [Prod.mk.injEq] at hx
      obtain ⟨hx1, _⟩ := hx
      subst hx1
      have hcap := Nat.le_trans (bulk_slice _ _) (bulk_small hk (List.mem_append_left _ (List.mem_cons_of_mem _ (List.mem_cons_self ..))))
      simp only [lits, List.length_map, List.length_take, List.length_drop] at hcap
      have hz2 : zs.length = cap1 := by simpa using hz
      replace hcap : cap1 ≤ 1048576 := by omega
      exact ⟨zs, .inr ⟨_, rfl, hl, hm, by simpa using hz, hcell, hwz⟩, hcap⟩
  clear hA0 hval0
  refine (walk a0 len0 cap0 z0 a1 len1 cap1 z1 W w0 hcap0 w1 hcap1).mono fun e W' ⟨he, bel⟩ => ?_
  subst he
  exact ⟨_, rfl, _, _, _, [], _, [], hW', trodAll_mk1 (shut_bool Try.underlying4 _), (trodAll_cons_mk (Below.trod laidOut (by kernel_rfl) (of_decide_eq_true (by kernel_rfl)) k0 bel lt0) (trodAll_cons_mk (Below.trod laidOut (by kernel_rfl) (of_decide_eq_true (by kernel_rfl)) k1 bel lt1) trodAll_mk0)), rfl, bel.frame _, fun h => by cases h⟩

theorem closed : joinedFacts Try.prog 10 Try.f10 (Rows.OpenSpec.upto Rows.flowJoinsSpec).bare Rows.flowJoinsUptoRow = true := by
  have h1 := mayEnter_fact
  have h2 : (Rows.flowJoinsUptoRow.lifted == Try.prog.liftsFinal) = true := by rw [lifts_fact]; rfl
  have h3 : (Try.prog.make == some Rows.flowJoinsUptoRow.make) = true := by rw [make_fact]; rfl
  have hfin : ∀ b : Bool, b = true → b = true := fun _ h => h
  unfold joinedFacts
  rw [h1, h2, h3]
  clear h1 h2 h3
  refine hfin _ ?_
  kernel_rfl

theorem over : Rows.flowJoinsUptoRow.holds Try.pinned (Rows.OpenSpec.upto Rows.flowJoinsSpec) :=
  OpenClaim.holds_of_cond 10 Try.f10 rfl rfl rfl rfl rfl rfl rfl ⟨rfl, rfl, rfl, rfl, rfl⟩ rfl rfl rfl rfl rfl (by kernel_rfl) Try.func10 closed
    (of_decide_eq_true (by kernel_rfl)) (by unfold Func.isWrapper; first | (rw [if_pos (by decide +kernel)]; kernel_rfl) | (rw [if_neg (by decide +kernel)]; exact ⟨rfl, rfl⟩))
    (fun os started H enc _ Fi => lifted os started H enc Fi)

/-- The statement. -/
theorem proved : Rows.FlowJoinsUptoSaid := over
#print axioms proved

end Go.Proofs.Ytcinmgifadmbeaa.FlowJoinsP
