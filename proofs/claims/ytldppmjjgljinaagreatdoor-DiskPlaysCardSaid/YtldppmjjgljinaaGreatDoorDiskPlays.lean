/- DiskPlays: whatever room, and whatever is done to a disk (at most 60 acts), each answer is the document's, and what is told of the paths, of their parents and of the root; so is the tree, behind each act: the statement DiskPlaysCardSaid, with no condition of its own. -/
import Derived.Test.YtldppmjjgljinaaGreatDoorPathEnv
import Derived.Test.YtldppmjjgljinaaGreatDoorActs
import Derived.Test.YtldppmjjgljinaaGreatDoorLawDkI
import Derived.Test.YtldppmjjgljinaaGreatDoorDiskPlaysF
namespace Go.Proofs.YtldppmjjgljinaaGreatDoor.lawDiskPlays
open Go.ChangeShapes Go.WideShapes Go.ChangeAt Go.RowKit
open Go.ChangeMaps (open_string)

/-- The cells of an act's own variable. -/
def BoxIs (b : Nat) (x : ActR) (pv : Value) (w : World) : Prop := w.heap[b]? = some (.cells #[.int .i64 x.kind, .string x.p, .string x.q, .string x.text, .int .i64 x.long, .int .i64 x.time, pv] 69 (0, 0))
theorem box_of {w0 w : World} {L : List Thing} {b : Nat} {x : ActR} {pv : Value} (h : Things w0 w (L ++ [.obj b (.cells #[.int .i64 x.kind, .string x.p, .string x.q, .string x.text, .int .i64 x.long, .int .i64 x.time, pv] 69 (0, 0))])) : BoxIs b x pv w := by
  obtain ⟨M, I, ⟨_, _, h1⟩, _⟩ := h.opened
  exact h1
theorem run_len {w : World} {v : Value} {l : List ActR} (h : ActsIn w v l) {room : Nat} (h1 : 1024 ≤ room) (h2 : room ≤ 1048576) (k : Nat) : DkRun k (playD (Dk.made room) (l.take k)) ∧ Fl (playD (Dk.made room) (l.take k)) :=
  ⟨by have := run_take (DkRun.made h1 h2) h k; rwa [Nat.zero_add] at this, (Fl.made room).play _⟩

set_option maxRecDepth 100000 in
set_option maxHeartbeats 8000000 in
theorem walk (n : Int) (v : Value) (l : List ActR) (w : World) (hA : ActsIn w v l) (E : Env w) : Calls Tryz.prog 7 #[.int .i64 n, v] w fun e w' => e = .returned (.bool true) ∧ Below w.heap.size w w' := by
  have HLg := Lib.hid (llarge_any hA 60 (by decide))
  have AW := fun w1 (x : Ext w w1) => Lib.hid (awake_any w1 (E.ext x))
  cases hlg : largeB l 60 with
  | true =>
    rw [hlg] at HLg
    clear hA hlg E
    go_enter Tryz.func7, Tryz.ntmps7
    go_wp2_with fail
    refine HLg.out.mono ?_
    rintro e w1 ⟨rfl, x1⟩
    have HX1 := Lib.hid x1
    clear x1
    go_wp2_with fail
    refine (AW _ HX1.out).out.mono ?_
    rintro e w2 ⟨rfl, x2⟩
    have HX2 := Lib.hid (HX1.out.trans x2)
    clear x2
    go_wp2_with fail
    go_ret
    exact ⟨rfl, HX2.out⟩
  | false =>
    rw [hlg] at HLg
    obtain ⟨hl60, hfit⟩ := large_not hlg
    by_cases hbad : n < 1024 ∨ 1048576 < n
    · have HNw := fun w1 => Lib.hid (New_bad n w1 hbad)
      have hbad2 : decide (n < 1024) = true ∨ (decide (n < 1024) = false ∧ decide (1048576 < n) = true) := by
        rcases hbad with h | h
        · exact .inl (decide_eq_true h)
        · rcases Classical.em (n < 1024) with h' | h'
          · exact .inl (decide_eq_true h')
          · exact .inr ⟨decide_eq_false h', decide_eq_true h⟩
      clear hA hlg E hfit hl60 hbad
      rcases hbad2 with d1 | ⟨d1, d2⟩
      all_goals
        go_enter Tryz.func7, Tryz.ntmps7
        go_wp2_with fail
        refine HLg.out.mono ?_
        rintro e w1 ⟨rfl, x1⟩
        have HX1 := Lib.hid x1
        clear x1
        go_wp2_with fail
        refine (HNw _).out.mono ?_
        rintro e w2 ⟨rfl, hw⟩
        obtain rfl := hw.symm
        clear hw
        go_wp2_with fail
        refine (AW _ HX1.out).out.mono ?_
        rintro e w3 ⟨rfl, x3⟩
        have HX3 := Lib.hid (HX1.out.trans x3)
        clear x3
        go_wp2_with fail
        go_ret
        exact ⟨rfl, HX3.out⟩
    · have hn1 : 1024 ≤ n := by omega
      have hn2 : n ≤ 1048576 := by omega
      clear hbad
      obtain ⟨room, rfl⟩ : ∃ room : Nat, n = (room : Int) := ⟨n.toNat, by omega⟩
      have hr1 : 1024 ≤ room := by omega
      have hr2 : room ≤ 1048576 := by omega
      have d1 : decide ((room : Int) < 1024) = false := decide_eq_false (by omega)
      have d2 : decide (1048576 < (room : Int)) = false := decide_eq_false (by omega)
      have d3 : decide (room < 1024) = false := decide_eq_false (by omega)
      have d4 : decide (1048576 < room) = false := decide_eq_false (by omega)
      have HNw := fun w1 (x : Ext w w1) => Lib.hid (new_many (Things.start x) room hr1 hr2)
      have HRun := Lib.hid (run_len hA hr1 hr2)
      have HPN := Lib.hid (fun k x (h : l[k]? = some x) => playD_next (D := Dk.made room) (k := k) (a := x) h)
      have H00 := Lib.hid (show Dk.made room = playD (Dk.made room) (l.take 0) from rfl)
      obtain ⟨a, cap, rfl, hl1, hl2, hcell⟩ := hA
      unfold maxLen at hl2
      have HC := Lib.hid hcell
      have HF := Lib.hid hfit
      have HE := Lib.hid E
      obtain ⟨N, hN⟩ : ∃ N, N = l.length := ⟨_, rfl⟩
      have HL := Lib.hid hN
      rw [← hN] at hl1 hl60 HLg ⊢
      clear hcell hN hfit E hlg hn1 hn2 hr1 hr2
      go_enter Tryz.func7, Tryz.ntmps7
      go_wp2_with fail
      refine HLg.out.mono ?_
      rintro e w1 ⟨rfl, x1⟩
      have HN1 := HNw _ x1
      clear x1 HNw HLg
      go_wp2_with fail
      refine HN1.out.mono ?_
      rintro e w2 ⟨d, rfl, h2⟩
      have HM := Lib.hid (rmade_many h2 room)
      clear h2 HN1
      go_wp2_with fail
      refine HM.out.mono ?_
      rintro e w3 ⟨r, rfl, h3⟩
      have HT3 := Lib.hid (show Things w w3 [.disk d (playD (Dk.made room) (l.take 0)), .ref r (playD (Dk.made room) (l.take 0))] from h3)
      clear h3 HM H00
      generalize hDM : Dk.made room = DM at *
      clear hDM d1 d2 d3 d4
      go_wp2_with fail
      go_loopw [8] (fun iv wr => Hid (∃ k : Nat, k ≤ N ∧ iv = .int .i64 k ∧ Things w wr [.disk d (playD DM (l.take k)), .ref r (playD DM (l.take k))])) (fun iv _ => N - (intOf iv).toNat)
      case atStart => exact ⟨0, Nat.zero_le _, rfl, HT3.out⟩
      case round =>
        obtain ⟨k, hk, rfl, ht⟩ := hrel.out
        clear hrel HT3
        by_cases hlt : k < N
        · obtain ⟨x, hxk⟩ : ∃ x, l[k]? = some x := ⟨_, List.getElem?_eq_getElem (by have := HL.out; omega)⟩
          obtain ⟨hok, g, o, pv, rfl, hp, hcs⟩ := HC.out k x hxk
          obtain ⟨pa, pc, hpe, _⟩ := id hp
          subst hpe
          obtain ⟨pv, hpv⟩ : ∃ pv, pv = Value.slice pa x.picks.length pc := ⟨_, rfl⟩
          have HPV := Lib.hid hpv
          rw [← hpv] at hp hcs
          clear hpv
          have HLD := Lib.hid (range_act (x := x) (pv := pv) (o := o + k * 7) (g := g) (w := wr) fun j u hj => (ht.is_ext.cell (lt_of_cell (hcs j u hj))).trans (hcs j u hj))
          have hA := ActsFit.at HF.out hxk hok
          obtain ⟨hR, hFl⟩ := HRun.out k
          obtain ⟨hR2, hFl2⟩ := HRun.out (k + 1)
          have hpn := HPN.out k x hxk
          rw [hpn] at hR2
          have HPn := Lib.hid hpn
          have zp := hA.p
          have zq := hA.q
          have hb1 := block_alloc_new wr (.cells #[.int .i64 x.kind, .string x.p, .string x.q, .string x.text, .int .i64 x.long, .int .i64 x.time, pv] 69 (0, 0))
          have h1 : Things w (wr.alloc (.cells #[.int .i64 x.kind, .string x.p, .string x.q, .string x.text, .int .i64 x.long, .int .i64 x.time, pv] 69)) [.disk d (playD DM (l.take k)), .ref r (playD DM (l.take k)), .obj wr.heap.size (.cells #[.int .i64 x.kind, .string x.p, .string x.q, .string x.text, .int .i64 x.long, .int .i64 x.time, pv] 69 (0, 0))] :=
            ht.add (M := []) (I := [wr.heap.size]) ((Ext.refl wr).alloc _) ⟨rfl, rfl, hb1⟩ (fun _ h => by cases h) (fun b hb => by rw [List.mem_singleton.1 hb]; exact Nat.le_refl _)
          generalize playD DM (l.take k) = D at *
          obtain ⟨D', hD'⟩ : ∃ D', D' = (D.doA x).2 := ⟨_, rfl⟩
          have HDo := Lib.hid (do_many (A := []) (B := [.ref r D, .obj wr.heap.size _]) (h1.ext (Ext.refl _).drew) (hR.fit (by omega)) HE.out x hA pv hp)
          have HDn := fun w' (h : Things w w' [.disk d D', .ref r D, .obj wr.heap.size (.cells #[.int .i64 x.kind, .string x.p, .string x.q, .string x.text, .int .i64 x.long, .int .i64 x.time, pv] 69 (0, 0))]) => Lib.hid (done_many (A := [.disk d D']) (B := [.obj wr.heap.size _]) h (hR.dofit hFl (by omega)) hFl.lasts x hA pv hp)
          have HB0 := Lib.hid (show ∀ w' D1 D2, Things w w' [.disk d D1, .ref r D2, .obj wr.heap.size (.cells #[.int .i64 x.kind, .string x.p, .string x.q, .string x.text, .int .i64 x.long, .int .i64 x.time, pv] 69 (0, 0))] → BoxIs wr.heap.size x pv w' from fun w' D1 D2 h => box_of (L := [.disk d D1, .ref r D2]) h)
          rw [← hD'] at HDo HDn hR2 HPn
          obtain ⟨rr, hrr⟩ : ∃ rr, rr = (D.doA x).1 := ⟨_, rfl⟩
          rw [← hrr] at HDo HDn
          have HR2 := Lib.hid hR2
          have HK1 := fun w' D1 D2 (h : Things w w' [.disk d D1, .ref r D2, .obj wr.heap.size (.cells #[.int .i64 x.kind, .string x.p, .string x.q, .string x.text, .int .i64 x.long, .int .i64 x.time, pv] 69 (0, 0))]) => Lib.hid (looks_true (d := d) (r := r) (A := []) (B := [.ref r D', .obj wr.heap.size (.cells #[.int .i64 x.kind, .string x.p, .string x.q, .string x.text, .int .i64 x.long, .int .i64 x.time, pv] 69 (0, 0))]) (A' := [.disk d D']) (B' := [.obj wr.heap.size (.cells #[.int .i64 x.kind, .string x.p, .string x.q, .string x.text, .int .i64 x.long, .int .i64 x.time, pv] 69 (0, 0))]) (w := w') (w0 := w) (D := D'))
          have H1 := Lib.hid h1
          clear HK1 h1 ht hok hcs hA hR hFl hR2 hFl2 hpn hxk hb1 hD' hrr HPN HRun HC HF hp
          unfold BoxIs at HB0
          generalize x.kind = xk at *
          generalize x.p = xp at *
          generalize x.q = xq at *
          generalize x.text = xt at *
          generalize x.long = xl at *
          generalize x.time = xm at *
          have hpv := HPV.out
          generalize x.picks.length = pl at *
          subst hpv
          clear HPV
          have hb0 := HB0.out _ _ _ H1.out
          have c0 := cellB (k := 0) hb0
          have c1 := cellB (k := 1) hb0
          have c2 := cellB (k := 2) hb0
          have c3 := cellB (k := 3) hb0
          have c4 := cellB (k := 4) hb0
          have c5 := cellB (k := 5) hb0
          have c6 := cellB (k := 6) hb0
          clear hb0
          go_wp2_with (refine wpList_load_at rfl 69 (.tmp 51) rfl g (o + k * 7) rfl _ _ HLD.out Tryz.underlying69 rfl (by kernel_rfl) ?_; go_frame)
          go_region_held (fun w' => w'.cell? ⟨wr.heap.size, 0, none⟩ = some (.int .i64 xk) ∧ w'.cell? ⟨wr.heap.size, 1, none⟩ = some (.string xp) ∧ w'.cell? ⟨wr.heap.size, 2, none⟩ = some (.string xq) ∧ w'.cell? ⟨wr.heap.size, 3, none⟩ = some (.string xt) ∧ w'.cell? ⟨wr.heap.size, 4, none⟩ = some (.int .i64 xl) ∧ w'.cell? ⟨wr.heap.size, 5, none⟩ = some (.int .i64 xm) ∧ w'.cell? ⟨wr.heap.size, 6, none⟩ = some (.slice pa pl pc))
            (first | (have hbq := HB0.out _ _ _ (by assumption); exact ⟨cellB (k := 0) hbq, cellB (k := 1) hbq, cellB (k := 2) hbq, cellB (k := 3) hbq, cellB (k := 4) hbq, cellB (k := 5) hbq, cellB (k := 6) hbq⟩) | go_keep)
            (first
              | (go_at_call 40; refine HDo.out.mono ?_; rintro e w4 ⟨rfl, h4⟩)
              | (go_at_call 43; refine (HDn _ h4).out.mono ?_; rintro e w5 ⟨rfl, h5⟩))
          all_goals
            have HT5 := Lib.hid h5
            clear h4 h5 c0 c1 c2 c3 c4 c5 c6
            have hb5 := HB0.out _ _ _ HT5.out
            have c1 := cellB (k := 1) hb5
            have HPa := Lib.hid (refParent_any xp w5 (by omega))
            have hup := parentR_le xp
            have HLk := fun (w' : World) (x : Ext w5 w') (p : ByteArray) (hp : p.size ≤ 4294967000) => Lib.hid (looks_true (A := []) (B := [.ref r D', .obj wr.heap.size _]) (A' := [.disk d D']) (B' := [.obj wr.heap.size _]) (HT5.out.ext x) (HT5.out.ext x) HE.out HR2.out.ok p hp)
            have HAl := fun (w' : World) (x : Ext w5 w') => Lib.hid (alike_true (A := []) (B := [.ref r D', .obj wr.heap.size _]) (A' := [.disk d D']) (B' := [.obj wr.heap.size _]) (HT5.out.ext x) (HT5.out.ext x) HE.out HR2.out (by omega))
            generalize parentR xp = up at *
            generalize mayB xp = mb at *
            go_wp2_with fail
            refine HPa.out.mono ?_
            rintro e w6 ⟨rfl, x6⟩
            have HX6 := Lib.hid x6
            have hb6 := (x6.block (ltB hb5)).trans hb5
            have c1 := cellB (k := 1) hb6
            clear x6 hb5 HPa
            go_wp2_with fail
            refine (HLk _ HX6.out xp (by omega)).out.mono ?_
            rintro e w7 ⟨rfl, x7⟩
            have HX7 := Lib.hid (HX6.out.trans x7)
            have hb7 := (x7.block (ltB hb6)).trans hb6
            have c2 := cellB (k := 2) hb7
            clear x7 hb6 hb7 c1
            go_wp2_with fail
            refine (HLk _ HX7.out xq (by omega)).out.mono ?_
            rintro e w8 ⟨rfl, x8⟩
            have HX8 := Lib.hid (HX7.out.trans x8)
            clear x8 c2
            go_wp2_with fail
            refine (HLk _ HX8.out up (by omega)).out.mono ?_
            rintro e w9 ⟨rfl, x9⟩
            have HX9 := Lib.hid (HX8.out.trans x9)
            clear x9
            go_wp2_with fail
            refine (HLk _ HX9.out ⟨#[]⟩ (by decide)).out.mono ?_
            rintro e wa ⟨rfl, xa⟩
            have HXa := Lib.hid (HX9.out.trans xa)
            clear xa
            go_wp2_with fail
            refine (HAl _ HXa.out).out.mono ?_
            rintro e wb ⟨rfl, xb⟩
            have HTb := Lib.hid ((HT5.out.ext (HXa.out.trans xb)).fewer (L' := [.disk d D', .ref r D']) (by simp))
            clear xb
            go_wp2_with fail
            go_roundw
            case rel => exact ⟨k + 1, by omega, by go_num, by rw [HPn.out]; exact HTb.out⟩
            case measure => simp [intOf] <;> omega
        · obtain rfl : k = N := by omega
          have nlt : decide ((k : Int) < (k : Int)) = false := by simp
          have HX := Lib.hid ht.is_ext
          clear ht
          go_wp2_with fail
          refine (AW _ HX.out).out.mono ?_
          rintro e w9 ⟨rfl, x9⟩
          have HX9 := Lib.hid (HX.out.trans x9)
          clear x9
          go_wp2_with fail
          go_ret
          exact ⟨rfl, HX9.out⟩

-- BEGUN
set_option maxRecDepth 100000 in
theorem begun {H : Type} {enc : TypeId × Value → H} (W : World) (args : Array Value) (ds : List (DataW H)) (p : List MemPlace) (st : Start enc Rows.diskPlaysRow.laid Tryz.f7 W args ds p) :
    Calls Tryz.prog 7 args W fun e W' => e = .returned (.bool true) ∧ Below W.heap.size W W' := by
  obtain ⟨⟨base, hval⟩, hA, hfit, hl, hsh⟩ := st
  rw [Tryz.params7] at hA hval hfit
  obtain ⟨v0, v1, d0, d1, p0, p1, rfl, rfl, rfl, h0, h1⟩ := trodAll_two hA
  have hfit : ((DataW.weightsEach Tryz.prog [3, 51] [d0, d1]).all (· ≤ reachBytes)) = true := hfit
  simp only [DataW.weightsEach, List.append_nil, List.all_append, Bool.and_eq_true] at hfit
  obtain ⟨n, rfl, rfl, rfl, hn⟩ := open_int (show Tryz.prog.underlying 3 = some (.int .i64) by kernel_rfl) (hval 0 3 v0 rfl rfl) h0
  obtain ⟨l, hl2⟩ := open_acts (hval 1 51 v1 rfl rfl) h1 hfit.2
  exact walk n v1 l W hl2 (env_of hsh)

set_option maxRecDepth 100000 in
theorem said : Rows.DiskPlaysSaid :=
  OpenClaim.holds_of_wide 7 Tryz.f7 rfl rfl rfl rfl rfl rfl rfl ⟨rfl, rfl, rfl, rfl, rfl⟩ rfl rfl rfl rfl rfl named Tryz.func7 facts
    (of_decide_eq_true (by kernel_rfl)) (by unfold Func.isWrapper; first | (rw [if_pos (by decide +kernel)]; kernel_rfl) | (rw [if_neg (by decide +kernel)]; exact ⟨rfl, rfl⟩))
    (fun os started H enc _ => lifted Rows.diskPlaysRow.laid (by kernel_rfl) 7 Tryz.f7 Tryz.func7 Rows.diskPlaysSpec rfl (by kernel_rfl) (by kernel_rfl)
      (by rw [Tryz.params7]
          have hall : ([3, 51].all fun t => Tryz.prog.readableRec t && decide (t < Tryz.prog.types.size)) = true := by kernel_rfl
          intro t ht
          have := List.all_eq_true.1 hall t ht
          simpa using this)
      (by intro H ts ds h hl; rw [Tryz.params7] at h; subst h
          match ds, hl with
          | [d1, d2], _ => rfl)
      Rows.diskPlaysRow.domain os started H enc #[.int .i64 0, .slice none 0 0] (by kernel_rfl) (by kernel_rfl) (by kernel_rfl)
      (World.shaped_of_ZipB (by kernel_rfl) (by kernel_rfl)) (laidMet_laidAll _ (by kernel_rfl) (by kernel_rfl))
      begun)

theorem card : Rows.DiskPlaysCardSaid :=
  Claim7.holds_tied_plain_at .later [] Rows.diskPlaysCard.laidKinds true Rows.diskPlaysCard.stood.harness Rows.diskPlaysCard.stood.looks said (fun _ h => by cases h) (by kernel_rfl) (fun _ h => by cases h) diskPlays_row_tie rfl ⟨rfl, rfl⟩ (by kernel_rfl) rfl
    (fun f fn hf hfn => by
      obtain rfl : f = 7 := Option.some.inj ((show Tryz.prog.funcNamed Rows.diskPlaysRow.func = some 7 by kernel_rfl).symm.trans hf) |>.symm
      obtain rfl : fn = Tryz.f7 := (Option.some.inj (Tryz.func7.symm.trans hfn)).symm
      exact ⟨by kernel_rfl, fun j t ht => by
        rw [Tryz.params7] at ht
        have hm : t ∈ [3, 51] := by simpa using Array.mem_of_getElem? ht
        have hall : ([3, 51].all fun u => !Tryz.prog.wantsStandIn u) = true := by kernel_rfl
        exact (show Tryz.prog.wantsStandIn t = false by simpa using List.all_eq_true.1 hall t hm)⟩)
    (by kernel_rfl)
#print axioms card
end Go.Proofs.YtldppmjjgljinaaGreatDoor.lawDiskPlays
