/- Whatever bytes come: the walk of the law MzAny. -/
import Derived.Test.YtfibdecfmfdikaaMzH
import Derived.Test.YtfibdecfmfdikaaMark
import Derived.RegionTactic
import Derived.ChangeAlike
import Derived.Lib.Hide
import Derived.OpenShut
set_option linter.unusedVariables false
set_option linter.unusedSimpArgs false
namespace Go.Proofs.Ytfibdecfmfdikaa.Any
open Go.RowKit Go.Proofs.Ytfibdecfmfdikaa Go.Proofs.YtfibdecfmfdikaaW.PrintWords Go.Proofs.YtfibdecfmfdikaaW.PrintLast Go.Proofs.YtfibdecfmfdikaaW.PrintMore Go.Proofs.Ytfibdecfmfdikaa.Str Go.Proofs.Ytfibdecfmfdikaa.OwnWords
attribute [local go_sem] max2_int min2_int max_two min_two

theorem bits_u8 (op : BinOp) (x y : Int) : 0 ≤ Go.bits op .u8 x y ∧ Go.bits op .u8 x y ≤ 255 := by
  have h := wf_bits op .u8 x y
  simp [Lit.wf, IntKind.min, IntKind.max, IntKind.signed, IntKind.bits] at h
  omega
theorem isBytes.set {l : List Int} (h : isBytes l) (k : Nat) {v : Int} (hv : 0 ≤ v ∧ v ≤ 255) : isBytes (l.set k v) := fun x hx => by
  rcases List.mem_or_eq_of_mem_set hx with h' | rfl
  · exact h x h'
  · exact hv
theorem rd_may {xs : List Int} (h : rdCode xs = 0) : mayB (bsOf xs) (plOf xs) (hw xs 5) = true := by
  cases hm : mayB (bsOf xs) (plOf xs) (hw xs 5) with
  | true => rfl
  | false =>
    exfalso
    unfold rdCode at h
    rw [hm] at h
    repeat' split at h
    all_goals first | omega | simp_all
set_option maxHeartbeats 8000000 in
set_option maxRecDepth 100000 in
theorem any_walk (A0 : Option Addr) (c0 : Nat) (l0 : List Int) (A1 : Option Addr) (c1 : Nat) (l1 : List Int) (a2 a3 a4 a5 a6 p0 p1 : Int) (A3 : Option Addr) (c3 : Nat) (l3 : List Int) (w : World) (hr0 : Kd.C (Kd.int .u8) w A0 l0.length l0) (hc0 : l0.length ≤ c0) (hw0 : isBytes l0)
    (hr1 : Kd.C (Kd.int .i64) w A1 l1.length l1) (hc1 : l1.length ≤ c1) (h2 : 0 ≤ a2 ∧ a2 ≤ 65535) (h3 : 0 ≤ a3 ∧ a3 ≤ 65535) (h4 : 0 ≤ a4 ∧ a4 ≤ 65535) (h5 : 0 ≤ a5 ∧ a5 ≤ 65535)
    (hr3 : Kd.C (Kd.int .u8) w A3 l3.length l3) (hc3 : l3.length ≤ c3) (hw3 : isBytes l3) :
    Calls Try.prog 6 #[.agg #[.slice A0 l0.length c0, .slice A1 l1.length c1, .int .u16 a2, .int .u16 a3, .int .u16 a4, .int .u16 a5, .int .i64 a6], .agg #[.int .i64 p0, .int .i64 p1], .slice A3 l3.length c3] w fun e w' => e = .returned (.bool true) ∧ Below w.heap.size w w' := by
  obtain ⟨b, r, he, hn⟩ := near_ev l0 l1 a2 a3 a4 a5 a6
  have hm := hn.may
  have hbB := hn.isB hw0
  have hlen := hn.len
  have hfew := hn.few
  generalize a6 % 256 = mn at *
  have hF : (fileB b r a2 a3 a4 a5 mn).length = headOf r.length + b.length := file_length ..
  have hH : 28 ≤ headOf r.length ∧ headOf r.length ≤ 28 + 4 * r.length + 15 := by unfold headOf; omega
  have hFB := file_isB b r a2 a3 a4 a5 mn hbB hm h2 h3 h4 h5
  have hw := refw_ev b r a2 a3 a4 a5 mn (by omega) (by omega) hm h2 h3 h4 h5
  generalize hFF : fileB b r a2 a3 a4 a5 mn = F at *
  clear hFF hn hm
  obtain ⟨k1, e1⟩ := he.rounds
  obtain ⟨k2, e2⟩ := hw.rounds
  have E1 := Lib.hid e1
  have E2 := Lib.hid e2
  have HR0 := Lib.hid hr0
  have HR1 := Lib.hid hr1
  have HR3 := Lib.hid hr3
  have HFB := Lib.hid hFB
  have HW3 := Lib.hid hw3
  clear he hw e1 e2 hr0 hr1 hr3 hFB hw3 hw0 hbB h2 h3 h4 h5
  have hFl : F.length ≤ 2000 := by omega
  have hF28 : 28 ≤ F.length := by omega
  clear hF hH hlen hfew
  obtain ⟨mm, k, hmm, hk, hkl⟩ : ∃ (mm : Int) (k : Nat), ((mm = 48 ∧ 48 < F.length) ∨ (mm = (F.length : Int) ∧ F.length ≤ 48)) ∧ Int.tmod (Go.bits .and .i64 p0 255) mm = (k : Int) ∧ k < F.length := by
    have h0 : 0 ≤ p0 % 256 := Int.emod_nonneg _ (by decide)
    have go : ∀ m : Int, 28 ≤ m → m ≤ F.length → ∃ k : Nat, Int.tmod (Go.bits .and .i64 p0 255) m = (k : Int) ∧ k < F.length := fun m a c => by
      rw [and255, Int.tmod_eq_emod_of_nonneg h0]
      have h1 : 0 ≤ p0 % 256 % m := Int.emod_nonneg _ (by omega)
      have h2 : p0 % 256 % m < m := Int.emod_lt_of_pos _ (by omega)
      generalize p0 % 256 % m = x at *
      exact ⟨x.toNat, by omega, by omega⟩
    by_cases h48 : 48 < F.length
    · obtain ⟨k, a, c⟩ := go 48 (by omega) (by omega)
      exact ⟨48, k, .inl ⟨rfl, h48⟩, a, c⟩
    · obtain ⟨k, a, c⟩ := go F.length (by omega) (by omega)
      exact ⟨F.length, k, .inr ⟨rfl, by omega⟩, a, c⟩
  have hkI : ((k : Int) < (F.length : Int)) = True := eq_true (by omega)
  have hkN : (k < F.length) = True := eq_true hkl
  rcases hmm with ⟨rfl, h48⟩ | ⟨rfl, h48⟩
  all_goals
   go_enter Try.func6, Try.ntmps6
   have hsz0 : w.heap.size + 1 < ((w.alloc (.cells #[.slice A0 l0.length c0, .slice A1 l1.length c1, .int .u16 a2, .int .u16 a3, .int .u16 a4, .int .u16 a5, .int .i64 a6] 35 (0, 0))).alloc (.cells #[.int .i64 p0, .int .i64 p1] 47 (0, 0))).heap.size := by simp
   have hbk0 : ((w.alloc (.cells #[.slice A0 l0.length c0, .slice A1 l1.length c1, .int .u16 a2, .int .u16 a3, .int .u16 a4, .int .u16 a5, .int .i64 a6] 35 (0, 0))).alloc (.cells #[.int .i64 p0, .int .i64 p1] 47 (0, 0))).heap[w.heap.size + 1]? = some (.cells #[.int .i64 p0, .int .i64 p1] 47 (0, 0)) := by
     have := blk_new (w.alloc (.cells #[.slice A0 l0.length c0, .slice A1 l1.length c1, .int .u16 a2, .int .u16 a3, .int .u16 a4, .int .u16 a5, .int .i64 a6] 35 (0, 0))) (.cells #[.int .i64 p0, .int .i64 p1] 47 (0, 0))
     rwa [World.size_alloc] at this
   have hB0 : Below w.heap.size w ((w.alloc (.cells #[.slice A0 l0.length c0, .slice A1 l1.length c1, .int .u16 a2, .int .u16 a3, .int .u16 a4, .int .u16 a5, .int .i64 a6] 35 (0, 0))).alloc (.cells #[.int .i64 p0, .int .i64 p1] 47 (0, 0))) := below_alloc (below_alloc (Below.refl _ _) _) _
   have HBK0 := Lib.hid hbk0
   have HB0 := Lib.hid hB0
   have HS0 := Lib.hid hsz0
   clear hbk0 hB0 hsz0
   go_wp2_with fail
   refine (PRefN.hansomref44_Near.calls k1 _ _ l0 _ _ l1 a2 a3 a4 a5 a6 b r a2 a3 a4 a5 mn _ (Kd.C_below HR0.out HB0.out) hc0 (Kd.C_below HR1.out HB0.out) hc1 E1.out).mono ?_
   rintro e w1 ⟨v0, v1, rfl, ho0, ho1, hb1⟩
   obtain ⟨B0, d0, rfl⟩ := Kd.R_slice ho0
   obtain ⟨B1, d1, rfl⟩ := Kd.R_slice ho1
   have HBK1 := Lib.hid ((hb1.block _ HS0.out).trans HBK0.out)
   have HB1 := Lib.hid (below_step HB0.out hb1)
   have HS1 := Lib.hid (Nat.lt_of_lt_of_le HS0.out hb1.size)
   have HO0 := Lib.hid ho0
   have HO1 := Lib.hid ho1
   clear HBK0 HB0 HS0 ho0 ho1 hb1
   go_wp2_with fail
   refine (PRefWrite.hansomref44_Write.calls k2 _ _ b _ _ r a2 a3 a4 a5 mn (strOfNums F) _ (Kd.R_reads' HO0.out).2.2 (Kd.R_reads' HO0.out).2.1 (Kd.R_reads' HO1.out).2.2 (Kd.R_reads' HO1.out).2.1 E2.out).mono ?_
   rintro e w2 ⟨rfl, hb2⟩
   have HBK2 := Lib.hid ((hb2.block _ HS1.out).trans HBK1.out)
   have HB2 := Lib.hid (below_step HB1.out hb2)
   have HS2 := Lib.hid (Nat.lt_of_lt_of_le HS1.out hb2.size)
   clear HBK1 HB1 HS1 HO0 HO1 hb2
   have hys : F = bytesOf (strOfNums F) := (bytes_str F HFB.out).symm
   have HYS := Lib.hid hys
   clear hys
   go_wp2_with ((with_reducible refine gate_dst (N := 18) rfl ?_); refine bytes_mark ?hg (N := 18) ?hd (src := 9) (dst := 23) (e := 5) (x := .tmp 17) ?ho (s := strOfNums F) ?hx Try.underlying9 Try.underlying23 Try.underlying5 (ys := F) HYS.out (by rw [str_size]; omega) ?_; (case hd => rfl); (case hg => rfl); (case ho => rfl); (case hx => first | rfl | (go_simp; done) | (go_simp; rfl)); intro g cg w3 hg hM hb3; have HBK3 := Lib.hid ((hb3.block _ HS2.out).trans HBK2.out); have HB3 := Lib.hid (below_step HB2.out hb3); have HG := Lib.hid (show w.heap.size + 1 < g by rw [hg]; exact HS2.out); have HM := Lib.hid hM; clear HBK2 HB2 HS2 hg hM hb3; have hq0 : w3.cell? ⟨w.heap.size + 1, 0, none⟩ = some (.int .i64 p0) := (blk_cell HBK3.out 0).trans rfl; have hq1 : w3.cell? ⟨w.heap.size + 1, 1, none⟩ = some (.int .i64 p1) := (blk_cell HBK3.out 1).trans rfl)
   have hx0 := HM.out.cell k hkl
   have hf0 := HM.out.frozen k hkl
   go_wp2
   go_region
   generalize hnv : Go.bits .xor .u8 (F[k]'hkl) (wrap64 (Int.tmod (Go.bits .and .i64 p1 255) 255 + 1) % 256) = nv
   have hnr := bits_u8 .xor (F[k]'hkl) (wrap64 (Int.tmod (Go.bits .and .i64 p1 255) 255 + 1) % 256)
   rw [hnv] at hnr
   clear hnv
   obtain ⟨w4, hw4⟩ : ∃ w4, w4 = (w3.setCell ⟨g, k, none⟩ (.int .u8 nv)).drew := ⟨_, rfl⟩
   rw [← hw4]
   have HM4 := Lib.hid (show MRow 5 w4 g cg (F.set k nv) by rw [hw4]; exact (HM.out.set k hkl nv).drew)
   have HB4 := Lib.hid (show Below w.heap.size w w4 by rw [hw4]; exact below_drew (below_set HB3.out (by have := HG.out; omega)))
   have HBK4 := Lib.hid (show w4.heap[w.heap.size + 1]? = some (.cells #[.int .i64 p0, .int .i64 p1] 47 (0, 0)) by rw [hw4]; exact (set_block (by have := HG.out; omega)).trans HBK3.out)
   have HF4 := Lib.hid (show isBytes (F.set k nv) from isBytes.set HFB.out k hnr)
   clear hw4 HM HB3 HBK3 hx0 hf0 hq0 hq1 HG hnr
   have hq1 : w4.cell? ⟨w.heap.size + 1, 1, none⟩ = some (.int .i64 p1) := (blk_cell HBK4.out 1).trans rfl
   have hmi0 : (0 : Int) ≤ ((min l3.length 80 : Nat) : Int) := by omega
   have hmi1 : ((min l3.length 80 : Nat) : Int) ≤ (l3.length : Int) := by omega
   have hmi3 : ((80 : Int) < (l3.length : Int) ∧ ((min l3.length 80 : Nat) : Int) = 80) ∨ ((l3.length : Int) ≤ 80 ∧ ((min l3.length 80 : Nat) : Int) = (l3.length : Int)) := by omega
   have hset : (F.set k nv).length = F.length := List.length_set
   have HSET := Lib.hid hset
   have HMI3 := Lib.hid hmi3
   clear hset hmi3
   go_upto_if 42 with (fail)
   go_cut [7] (fun v7 wc => ∃ (A : Option Addr) (c : Nat) (xs : List Int), v7 = .slice A xs.length c ∧ Hid ((Kd.int .u8).C wc A xs.length xs) ∧ Hid (xs.length ≤ c) ∧ Hid (isBytes xs) ∧ xs.length ≤ 3000 ∧ Hid (Below w.heap.size w wc))
   case first =>
    by_cases hc : (Go.bits .and .i64 (p1 / 256) 7 == 0) = true
    · rcases HMI3.out with ⟨hl80, hmm⟩ | ⟨hl80, hmm⟩
      all_goals
       obtain ⟨i0, hi0, hz0⟩ := Option.map_eq_some_iff.1 infoU8
       have hcut := cut_to (P := Try.prog) 23 5 .i64 Try.underlying23 hi0 A3 l3.length c3 ((min l3.length 80 : Nat) : Int) hmi0 hmi1 hc3
       rw [Int.toNat_natCast] at hcut
       try rw [hmm] at hcut
       have HMM := Lib.hid hmm
       clear hmm
       go_wp2
       go_meet
       case rel =>
        have hlen : (l3.take (min l3.length 80)).length = min l3.length 80 := by rw [List.length_take]; omega
        exact ⟨A3, c3, l3.take (min l3.length 80), (by rw [hlen]; try rfl), Lib.hid (Kd.C_take (Kd.C_below HR3.out HB4.out) (by omega)), Lib.hid (by omega), Lib.hid (HW3.out.take _), by omega, HB4⟩
    · have hc2 : (Go.bits .and .i64 (p1 / 256) 7 == 0) = false := by simpa using hc
      clear hc
      go_wp2
      go_meet
      case rel =>
        exact ⟨some ⟨g, 0, none⟩, cg, F.set k nv, (by rw [HSET.out]; try rfl), Lib.hid HM4.out.reads, Lib.hid HM4.out.1, HF4, by rw [HSET.out]; omega, HB4⟩
   case rest =>
    obtain ⟨A, c, xs, rfl, HC, HL, HX, hxl, HB⟩ := hcut
    clear HM4 HB4 HBK4 HF4 hq1 hmi0 hmi1 HSET HMI3 HFB HW3 HR3 HR0 HR1 E1 E2 hkI hkN hk hkl h48 hc0 hc1 hc3 HYS hFl hF28
    have hfit : Ext.fitB xs = true := by
      simp only [Ext.fitB, Bool.and_eq_true, decide_eq_true_eq, List.all_eq_true]
      exact ⟨by omega, fun x hx => HX.out x hx⟩
    have hread : Ext.mz_Read.f xs = some (Ext.readR xs) := by unfold Ext.mz_Read.f; rw [if_pos hfit]
    by_cases h0 : rdCode xs = 0
    · have hmay := rd_may h0
      have hr : Ext.readR xs = (bsOf xs, plOf xs, hw xs 11, hw xs 10, hw xs 7, hw xs 8, hw xs 5, 0) := by unfold Ext.readR; rw [if_pos h0]
      rw [hr] at hread
      have hbl : (bsOf xs).length ≤ xs.length := by rw [bsOf, List.length_drop, List.length_take]; omega
      have hbb : isBytes (bsOf xs) := (HX.out.take _).drop _
      have r11 : 0 ≤ hw xs 11 ∧ hw xs 11 ≤ 65535 := wv_range HX.out (2 * 11)
      have r10 : 0 ≤ hw xs 10 ∧ hw xs 10 ≤ 65535 := wv_range HX.out (2 * 10)
      have r7 : 0 ≤ hw xs 7 ∧ hw xs 7 ≤ 65535 := wv_range HX.out (2 * 7)
      have r8 : 0 ≤ hw xs 8 ∧ hw xs 8 ≤ 65535 := wv_range HX.out (2 * 8)
      generalize bsOf xs = B at *
      generalize plOf xs = R at *
      generalize hw xs 11 = cs at *
      generalize hw xs 10 = ip at *
      generalize hw xs 7 = ss at *
      generalize hw xs 8 = sp at *
      generalize hw xs 5 = mz at *
      obtain ⟨_, _, _, hRl, _⟩ := mayB_parts hmay
      obtain ⟨ka, ea⟩ := awake_ev.rounds
      obtain ⟨kw, ew⟩ := (write_ev hmay r11 r10 r7 r8).rounds
      have eb := read_back hmay r11 r10 r7 r8 hbb [] isBytes.nil (by simp)
      rw [List.append_nil] at eb
      obtain ⟨km, em⟩ := (may_ev hmay cs ip ss sp).rounds
      obtain ⟨ks, es⟩ := (same_ev B R cs ip ss sp mz (by omega)).rounds
      generalize fileB B R cs ip ss sp mz = FF at *
      have EA := Lib.hid ea
      have EW := Lib.hid ew
      have EB := Lib.hid eb
      have EM := Lib.hid em
      have ES := Lib.hid es
      have HREAD := Lib.hid hread
      clear ea ew eb em es hread hr hfit hmay hbb r11 r10 r7 r8 h0 hRl
      go_wp2_with fail
      refine (Ext.mz_Read.calls A c xs B R cs ip ss sp mz 0 _ HC.out HL.out HREAD.out).mono ?_
      rintro e w5 ⟨u0, u1, rfl, hu0, hu1, hb5⟩
      obtain ⟨U0, n0, rfl⟩ := Kd.R_slice hu0
      obtain ⟨U1, n1, rfl⟩ := Kd.R_slice hu1
      have HB5 := Lib.hid (below_step HB.out hb5)
      have HU0 := Lib.hid (Kd.R_reads' hu0)
      have HU1 := Lib.hid (Kd.R_reads' hu1)
      clear hu0 hu1 hb5 HB HC HL HX HREAD
      go_wp2_with fail
      have HY5 := Lib.hid (blk_new w5 (.cells #[.slice U0 B.length n0, .slice U1 R.length n1, .int .u16 cs, .int .u16 ip, .int .u16 ss, .int .u16 sp, .int .i64 mz] 35 (0, 0)))
      refine (PWrite.mz_Write.calls kw U0 n0 B U1 n1 R cs ip ss sp mz FF 0 _ (Kd.C_alloc HU0.out.2.2 _) HU0.out.2.1 (Kd.C_alloc HU1.out.2.2 _) HU1.out.2.1 EW.out).mono ?_
      rintro e w6 ⟨u2, rfl, hu2, hb6⟩
      obtain ⟨U2, n2, rfl⟩ := Kd.R_slice hu2
      have HU2 := Lib.hid (Kd.R_reads' hu2)
      have HY6 := Lib.hid ((hb6.block w5.heap.size (by simp)).trans HY5.out)
      have HB6 := Lib.hid (below_step (below_alloc HB5.out _) hb6)
      have HC0 := Lib.hid (Kd.C_below (Kd.C_alloc HU0.out.2.2 _) hb6)
      have HC1 := Lib.hid (Kd.C_below (Kd.C_alloc HU1.out.2.2 _) hb6)
      have HS6 := Lib.hid (show w5.heap.size < w6.heap.size from Nat.lt_of_lt_of_le (by simp) hb6.size)
      clear hu2 hb6 HB5 HY5
      go_wp2_with fail
      refine (Ext.mz_Read.calls U2 n2 FF B R cs ip ss sp mz 0 _ HU2.out.2.2 HU2.out.2.1 EB.out).mono ?_
      rintro e w7 ⟨u3, u4, rfl, hu3, hu4, hb7⟩
      obtain ⟨U3, n3, rfl⟩ := Kd.R_slice hu3
      obtain ⟨U4, n4, rfl⟩ := Kd.R_slice hu4
      have HU3 := Lib.hid (Kd.R_reads' hu3)
      have HU4 := Lib.hid (Kd.R_reads' hu4)
      have HY7 := Lib.hid ((hb7.block w5.heap.size HS6.out).trans HY6.out)
      have HB7 := Lib.hid (below_step HB6.out hb7)
      have HC07 := Lib.hid (Kd.C_below HC0.out hb7)
      have HC17 := Lib.hid (Kd.C_below HC1.out hb7)
      have HS7 := Lib.hid (Nat.lt_of_lt_of_le HS6.out hb7.size)
      clear hu3 hu4 hb7 HB6 HY6 HC0 HC1 HS6
      have HYx := Lib.hid (blk_alloc HY7.out (.cells #[.slice U3 B.length n3, .slice U4 R.length n4, .int .u16 cs, .int .u16 ip, .int .u16 ss, .int .u16 sp, .int .i64 mz] 35 (0, 0)))
      have HZx := Lib.hid (blk_new w7 (.cells #[.slice U3 B.length n3, .slice U4 R.length n4, .int .u16 cs, .int .u16 ip, .int .u16 ss, .int .u16 sp, .int .i64 mz] 35 (0, 0)))
      have HBx := Lib.hid (below_alloc HB7.out (.cells #[.slice U3 B.length n3, .slice U4 R.length n4, .int .u16 cs, .int .u16 ip, .int .u16 ss, .int .u16 sp, .int .i64 mz] 35 (0, 0)))
      have HCAx := Lib.hid (Kd.C_alloc HC07.out (.cells #[.slice U3 B.length n3, .slice U4 R.length n4, .int .u16 cs, .int .u16 ip, .int .u16 ss, .int .u16 sp, .int .i64 mz] 35 (0, 0)))
      have HCBx := Lib.hid (Kd.C_alloc HC17.out (.cells #[.slice U3 B.length n3, .slice U4 R.length n4, .int .u16 cs, .int .u16 ip, .int .u16 ss, .int .u16 sp, .int .i64 mz] 35 (0, 0)))
      have HCCx := Lib.hid (Kd.C_alloc HU3.out.2.2 (.cells #[.slice U3 B.length n3, .slice U4 R.length n4, .int .u16 cs, .int .u16 ip, .int .u16 ss, .int .u16 sp, .int .i64 mz] 35 (0, 0)))
      have HCDx := Lib.hid (Kd.C_alloc HU4.out.2.2 (.cells #[.slice U3 B.length n3, .slice U4 R.length n4, .int .u16 cs, .int .u16 ip, .int .u16 ss, .int .u16 sp, .int .i64 mz] 35 (0, 0)))
      have HSYx := Lib.hid (show w5.heap.size < (w7.alloc (.cells #[.slice U3 B.length n3, .slice U4 R.length n4, .int .u16 cs, .int .u16 ip, .int .u16 ss, .int .u16 sp, .int .i64 mz] 35 (0, 0))).heap.size by rw [World.size_alloc]; have := HS7.out; omega)
      have HSZx := Lib.hid (show w7.heap.size < (w7.alloc (.cells #[.slice U3 B.length n3, .slice U4 R.length n4, .int .u16 cs, .int .u16 ip, .int .u16 ss, .int .u16 sp, .int .i64 mz] 35 (0, 0))).heap.size by rw [World.size_alloc]; omega)
      clear HY7 HB7 HC07 HC17 HS7
      go_wp2_with fail
      refine (QAw.hansomlaw44_awake.calls ka true _ EA.out).mono ?_
      rintro e w8 ⟨rfl, hb8⟩
      have HY8 := Lib.hid ((hb8.block w5.heap.size HSYx.out).trans HYx.out)
      have HZ8 := Lib.hid ((hb8.block w7.heap.size HSZx.out).trans HZx.out)
      have HB8 := Lib.hid (below_step HBx.out hb8)
      have HCA8 := Lib.hid (Kd.C_below HCAx.out hb8)
      have HCB8 := Lib.hid (Kd.C_below HCBx.out hb8)
      have HCC8 := Lib.hid (Kd.C_below HCCx.out hb8)
      have HCD8 := Lib.hid (Kd.C_below HCDx.out hb8)
      have HSY8 := Lib.hid (Nat.lt_of_lt_of_le HSYx.out hb8.size)
      have HSZ8 := Lib.hid (Nat.lt_of_lt_of_le HSZx.out hb8.size)
      clear hb8 HYx HZx HBx HCAx HCBx HCCx HCDx HSYx HSZx
      have y0 : w8.cell? ⟨w5.heap.size, 0, none⟩ = some (.slice U0 B.length n0) := (blk_cell HY8.out 0).trans rfl
      have y1 : w8.cell? ⟨w5.heap.size, 1, none⟩ = some (.slice U1 R.length n1) := (blk_cell HY8.out 1).trans rfl
      have y2 : w8.cell? ⟨w5.heap.size, 2, none⟩ = some (.int .u16 cs) := (blk_cell HY8.out 2).trans rfl
      have y3 : w8.cell? ⟨w5.heap.size, 3, none⟩ = some (.int .u16 ip) := (blk_cell HY8.out 3).trans rfl
      have y4 : w8.cell? ⟨w5.heap.size, 4, none⟩ = some (.int .u16 ss) := (blk_cell HY8.out 4).trans rfl
      have y5 : w8.cell? ⟨w5.heap.size, 5, none⟩ = some (.int .u16 sp) := (blk_cell HY8.out 5).trans rfl
      have y6 : w8.cell? ⟨w5.heap.size, 6, none⟩ = some (.int .i64 mz) := (blk_cell HY8.out 6).trans rfl
      go_wp2_with fail
      clear y0 y1 y2 y3 y4 y5 y6
      refine (PWrite.mz_May.calls km U0 n0 B U1 n1 R cs ip ss sp mz true _ HCA8.out HU0.out.2.1 HCB8.out HU1.out.2.1 EM.out).mono ?_
      rintro e w9 ⟨rfl, hb9⟩
      have HY9 := Lib.hid ((hb9.block w5.heap.size HSY8.out).trans HY8.out)
      have HZ9 := Lib.hid ((hb9.block w7.heap.size HSZ8.out).trans HZ8.out)
      have HB9 := Lib.hid (below_step HB8.out hb9)
      have HCA9 := Lib.hid (Kd.C_below HCA8.out hb9)
      have HCB9 := Lib.hid (Kd.C_below HCB8.out hb9)
      have HCC9 := Lib.hid (Kd.C_below HCC8.out hb9)
      have HCD9 := Lib.hid (Kd.C_below HCD8.out hb9)
      have HSY9 := Lib.hid (Nat.lt_of_lt_of_le HSY8.out hb9.size)
      have HSZ9 := Lib.hid (Nat.lt_of_lt_of_le HSZ8.out hb9.size)
      clear hb9 HY8 HZ8 HB8 HCA8 HCB8 HCC8 HCD8 HSY8 HSZ8
      have y0 : w9.cell? ⟨w5.heap.size, 0, none⟩ = some (.slice U0 B.length n0) := (blk_cell HY9.out 0).trans rfl
      have y1 : w9.cell? ⟨w5.heap.size, 1, none⟩ = some (.slice U1 R.length n1) := (blk_cell HY9.out 1).trans rfl
      have y2 : w9.cell? ⟨w5.heap.size, 2, none⟩ = some (.int .u16 cs) := (blk_cell HY9.out 2).trans rfl
      have y3 : w9.cell? ⟨w5.heap.size, 3, none⟩ = some (.int .u16 ip) := (blk_cell HY9.out 3).trans rfl
      have y4 : w9.cell? ⟨w5.heap.size, 4, none⟩ = some (.int .u16 ss) := (blk_cell HY9.out 4).trans rfl
      have y5 : w9.cell? ⟨w5.heap.size, 5, none⟩ = some (.int .u16 sp) := (blk_cell HY9.out 5).trans rfl
      have y6 : w9.cell? ⟨w5.heap.size, 6, none⟩ = some (.int .i64 mz) := (blk_cell HY9.out 6).trans rfl
      have z0 : w9.cell? ⟨w7.heap.size, 0, none⟩ = some (.slice U3 B.length n3) := (blk_cell HZ9.out 0).trans rfl
      have z1 : w9.cell? ⟨w7.heap.size, 1, none⟩ = some (.slice U4 R.length n4) := (blk_cell HZ9.out 1).trans rfl
      have z2 : w9.cell? ⟨w7.heap.size, 2, none⟩ = some (.int .u16 cs) := (blk_cell HZ9.out 2).trans rfl
      have z3 : w9.cell? ⟨w7.heap.size, 3, none⟩ = some (.int .u16 ip) := (blk_cell HZ9.out 3).trans rfl
      have z4 : w9.cell? ⟨w7.heap.size, 4, none⟩ = some (.int .u16 ss) := (blk_cell HZ9.out 4).trans rfl
      have z5 : w9.cell? ⟨w7.heap.size, 5, none⟩ = some (.int .u16 sp) := (blk_cell HZ9.out 5).trans rfl
      have z6 : w9.cell? ⟨w7.heap.size, 6, none⟩ = some (.int .i64 mz) := (blk_cell HZ9.out 6).trans rfl
      go_wp2_with fail
      clear y0 y1 y2 y3 y4 y5 y6 z0 z1 z2 z3 z4 z5 z6
      refine (PSame.hansomref44_Same.calls ks U0 n0 B U1 n1 R cs ip ss sp mz U3 n3 B U4 n4 R cs ip ss sp mz true _ HCA9.out HU0.out.2.1 HCB9.out HU1.out.2.1 HCC9.out HU3.out.2.1 HCD9.out HU4.out.2.1 ES.out).mono ?_
      rintro e w10 ⟨rfl, hb10⟩
      have HY10 := Lib.hid ((hb10.block w5.heap.size HSY9.out).trans HY9.out)
      have HZ10 := Lib.hid ((hb10.block w7.heap.size HSZ9.out).trans HZ9.out)
      have HB10 := Lib.hid (below_step HB9.out hb10)
      have HCA10 := Lib.hid (Kd.C_below HCA9.out hb10)
      have HCB10 := Lib.hid (Kd.C_below HCB9.out hb10)
      have HCC10 := Lib.hid (Kd.C_below HCC9.out hb10)
      have HCD10 := Lib.hid (Kd.C_below HCD9.out hb10)
      have HSY10 := Lib.hid (Nat.lt_of_lt_of_le HSY9.out hb10.size)
      have HSZ10 := Lib.hid (Nat.lt_of_lt_of_le HSZ9.out hb10.size)
      clear hb10 HY9 HZ9 HB9 HCA9 HCB9 HCC9 HCD9 HSY9 HSZ9
      have y0 : w10.cell? ⟨w5.heap.size, 0, none⟩ = some (.slice U0 B.length n0) := (blk_cell HY10.out 0).trans rfl
      go_wp2
      go_ret
      exact ⟨rfl, HB10.out⟩
    · have hcode : rdCode xs = 2 ∨ rdCode xs = 440 ∨ rdCode xs = 3 ∨ rdCode xs = 8 := by
        unfold rdCode at h0 ⊢
        repeat' split
        all_goals first | omega | (exfalso; apply h0; simp_all; done)
      have hr : Ext.readR xs = ([], [], 0, 0, 0, 0, 0, rdCode xs) := by unfold Ext.readR; rw [if_neg h0]
      rw [hr] at hread
      generalize rdCode xs = cd at *
      have HREAD := Lib.hid hread
      obtain ⟨ka, ea⟩ := awake_ev.rounds
      have EA := Lib.hid ea
      clear hread hr hfit ea
      go_wp2_with fail
      refine (Ext.mz_Read.calls A c xs [] [] 0 0 0 0 0 cd _ HC.out HL.out HREAD.out).mono ?_
      rintro e w5 ⟨u0, u1, rfl, hu0, hu1, hb5⟩
      obtain ⟨U0, n0, rfl⟩ := Kd.R_slice hu0
      obtain ⟨U1, n1, rfl⟩ := Kd.R_slice hu1
      have HB5 := Lib.hid (below_step HB.out hb5)
      clear hu0 hu1 hb5 HB HC HL HX HREAD hxl
      have hcd : (cd != 0) = true := by rw [bne_iff_ne]; omega
      go_wp2_with fail
      refine (QAw.hansomlaw44_awake.calls ka true _ EA.out).mono ?_
      rintro e w6 ⟨rfl, hb6⟩
      have HBK6 := Lib.hid ((hb6.block w5.heap.size (by simp)).trans (blk_new w5 _))
      have HB6 := Lib.hid (below_step (below_alloc HB5.out _) hb6)
      have hy0 : w6.cell? ⟨w5.heap.size, 0, none⟩ = some (.slice U0 0 n0) := (blk_cell HBK6.out 0).trans rfl
      have hy1 : w6.cell? ⟨w5.heap.size, 1, none⟩ = some (.slice U1 0 n1) := (blk_cell HBK6.out 1).trans rfl
      clear hb6 HB5 EA h0
      rcases hcode with rfl | rfl | rfl | rfl
      all_goals
       go_wp2
       go_ret
       exact ⟨rfl, HB6.out⟩
end Go.Proofs.Ytfibdecfmfdikaa.Any
namespace Go.Proofs.Ytfibdecfmfdikaa
open Go.RowKit Go.Proofs.YtfibdecfmfdikaaW.PrintWords Go.Proofs.Ytfibdecfmfdikaa.Str
theorem MzAny_walk (A0 : Option Addr) (c0 : Nat) (l0 : List Int) (A1 : Option Addr) (c1 : Nat) (l1 : List Int) (a2 a3 a4 a5 a6 p0 p1 : Int) (A3 : Option Addr) (c3 : Nat) (l3 : List Int) (w : World) (hr0 : Kd.C (Kd.int .u8) w A0 l0.length l0) (hc0 : l0.length ≤ c0) (hm0 : l0.length ≤ maxLen) (hw0 : ∀ x ∈ l0, (Lit.int .u8 x).wf = true)
    (hr1 : Kd.C (Kd.int .i64) w A1 l1.length l1) (hc1 : l1.length ≤ c1) (hm1 : l1.length ≤ maxLen) (hw1 : ∀ x ∈ l1, (Lit.int .i64 x).wf = true) (w2 : (Lit.int .u16 a2).wf = true) (w3 : (Lit.int .u16 a3).wf = true) (w4 : (Lit.int .u16 a4).wf = true) (w5 : (Lit.int .u16 a5).wf = true) (w6 : (Lit.int .i64 a6).wf = true) (w7 : (Lit.int .i64 p0).wf = true) (w8 : (Lit.int .i64 p1).wf = true)
    (hr3 : Kd.C (Kd.int .u8) w A3 l3.length l3) (hc3 : l3.length ≤ c3) (hm3 : l3.length ≤ maxLen) (hw3 : ∀ x ∈ l3, (Lit.int .u8 x).wf = true) :
    Calls Try.prog 6 #[.agg #[.slice A0 l0.length c0, .slice A1 l1.length c1, .int .u16 a2, .int .u16 a3, .int .u16 a4, .int .u16 a5, .int .i64 a6], .agg #[.int .i64 p0, .int .i64 p1], .slice A3 l3.length c3] w fun e w' => e = .returned (.bool true) ∧ Below w.heap.size w w' :=
  Any.any_walk A0 c0 l0 A1 c1 l1 a2 a3 a4 a5 a6 p0 p1 A3 c3 l3 w hr0 hc0 (wf_bytes hw0) hr1 hc1 (wf_u16 w2) (wf_u16 w3) (wf_u16 w4) (wf_u16 w5) hr3 hc3 (wf_bytes hw3)
end Go.Proofs.Ytfibdecfmfdikaa
