/- caravan/disk's do: the walk. caravan/disk's Mkdir, Append, Remove, Write, Link, Rename. -/
import Derived.Test.YtldppmjjgljinaaGreatDoorDiskC
namespace Go.Proofs.YtldppmjjgljinaaGreatDoor
open Go.RowKit

set_option maxRecDepth 100000 in
set_option maxHeartbeats 4000000 in
theorem do_any {w0 w : World} {d : Nat} {M I : List Nat} {D : Dk} (h : DkAt w0 d M I D) (xw : Ext w0 w) (O : DkFit D) (E : Env w0) {B : List Nat} {F : FuncId} {cap : Array Value} {x : Eff} (he : EffAt w B (.func (.func F) #[] cap) x) (hB : ∀ b ∈ B, w0.heap.size ≤ b ∧ b < w.heap.size) (hf : x.few)
    (r : Bool) (hr : x.right = r) (g n : Nat) (hn : x.paths.length = n) (hn4 : n ≤ 4) (hc : ∀ (k : Nat) p, x.paths[k]? = some p → w.cell? ⟨g, k, none⟩ = some (.string p)) (hz : ∀ p ∈ x.paths, p.size < 4294967281) :
    Calls Tryz.prog 122 #[.pointer (some ⟨d, 0, none⟩), .func (.func F) #[] cap, .bool r, .slice (some ⟨g, 0, none⟩) n n] w (ActPost2 w0 w d M I (D.act x)) := by
  have HR := Lib.hid (show D.act x = if D.off then (20, D) else if x.paths.all mayB then (if x.right then
    (if (effE D.live D.room full x).1 = 0 then (0, { D with live := (effE D.live D.room full x).2, log := D.log ++ [x], left := D.left - 1 }) else ((effE D.live D.room full x).1, D))
  else (2, D)) else (10, D) from rfl)
  have HD := Lib.hid h
  obtain ⟨lt, lm, st, sm, lg, vs, h, hM⟩ := h
  have HI := Lib.hid h
  have HM := Lib.hid hM
  have HX := Lib.hid xw
  have hb := (xw.block (ltB h.blk)).trans h.blk
  have c0 : w.cell? ⟨d, 0, none⟩ = some (.pointer (some ⟨lt, 0, none⟩)) := cellB hb
  have c3 : w.cell? ⟨d, 3, none⟩ = some (.bool D.fused) := cellB hb
  have c4 : w.cell? ⟨d, 4, none⟩ = some (.int .i64 D.left) := cellB hb
  have H1 := Lib.hid (dis_any d _ w c0)
  have H2 := Lib.hid (show Calls Tryz.prog 34 #[.pointer (some ⟨d, 0, none⟩)] w fun e w' => e = .returned (.bool D.off) ∧ w' = w from doff_at d _ D.fused D.left w c0 c3 c4)
  have H3 := fun s w h E => Lib.hid (may_any s w h E)
  have HE := Lib.hid E
  have HC := Lib.hid hc
  have HZ := Lib.hid hz
  have HRi := Lib.hid hr
  have HN := Lib.hid hn
  have HEf := Lib.hid he
  have HB := Lib.hid hB
  have HO := Lib.hid O
  have hdl := ltB h.blk
  clear h hM xw hb c0 c3 c4 hc hz hr hn E he hB O
  generalize hAct : D.act x = R at *
  clear hAct
  cases hoff : D.off with
  | true =>
    have HR2 := Lib.hid (HR.out.trans (if_pos hoff))
    rw [hoff] at H2
    clear HR
    go_enter Tryz.func122, Tryz.ntmps122
    go_wp2_with fail
    refine H1.out.mono ?_
    rintro e w1 ⟨rfl, hw1⟩
    obtain rfl := hw1.symm
    clear hw1
    go_wp2_with fail
    refine H2.out.mono ?_
    rintro e w1 ⟨rfl, hw1⟩
    obtain rfl := hw1.symm
    clear hw1
    go_wp2_with fail
    go_ret
    exact ActPost2.still HD.out HX.out (Ext.refl _) HR2.out
  | false =>
    have HR2 := Lib.hid (HR.out.trans (if_neg (by rw [hoff]; decide)))
    rw [hoff] at H2
    clear HR
    cases hall : x.paths.all mayB with
    | false =>
      have HR3 := Lib.hid (HR2.out.trans (if_neg (by rw [hall]; decide)))
      have HAL := Lib.hid hall
      clear HR2 hall
      go_enter Tryz.func122, Tryz.ntmps122
      go_wp2_with fail
      refine H1.out.mono ?_
      rintro e w1 ⟨rfl, hw1⟩
      obtain rfl := hw1.symm
      clear hw1
      go_wp2_with fail
      refine H2.out.mono ?_
      rintro e w1 ⟨rfl, hw1⟩
      obtain rfl := hw1.symm
      clear hw1
      go_wp2_with fail
      go_loopw [21] (fun iv wr => Hid (∃ k : Nat, k ≤ n ∧ iv = .int .i64 k ∧ (∀ p ∈ x.paths.take k, mayB p = true) ∧ Ext w wr)) (fun iv _ => n - (intOf iv).toNat)
      case atStart => exact ⟨0, Nat.zero_le _, rfl, by simp, Ext.refl _⟩
      case round =>
        obtain ⟨k, hk, rfl, hak, hx⟩ := hrel.out
        clear hrel
        have HAK := Lib.hid hak
        have HXr := Lib.hid hx
        by_cases hlt2 : k < n
        · obtain ⟨p, hp⟩ : ∃ p, x.paths[k]? = some p := ⟨_, List.getElem?_eq_getElem (by rw [HN.out]; exact hlt2)⟩
          have c := HC.out k p hp
          have ck := (hx.cell (lt_of_cell c)).trans c
          have hm := Lib.hid (H3 p wr (HZ.out p (List.mem_of_getElem? hp)) (HE.out.ext (HX.out.trans hx))).out
          have HTK := Lib.hid (show x.paths.take (k + 1) = x.paths.take k ++ [p] from by rw [List.take_add_one, hp]; rfl)
          clear hak hx c hp
          cases hmq : mayB p with
          | true =>
            rw [hmq] at hm
            have HMQ := Lib.hid hmq
            clear hmq
            go_wp2_with fail
            refine hm.out.mono ?_
            rintro e w5 ⟨rfl, x5⟩
            have HX5 := Lib.hid (HXr.out.trans x5)
            clear x5
            go_wp2_with fail
            go_roundw
            case rel => exact ⟨k + 1, by omega, by go_num, fun q hq => by
              rw [HTK.out] at hq
              rcases List.mem_append.1 hq with h | h
              · exact HAK.out q h
              · simp at h; subst h; exact HMQ.out, HX5.out⟩
            case measure => simp [intOf]; omega
          | false =>
            rw [hmq] at hm
            clear hmq
            go_wp2_with fail
            refine hm.out.mono ?_
            rintro e w5 ⟨rfl, x5⟩
            have HX5 := Lib.hid (HXr.out.trans x5)
            clear x5
            go_wp2_with fail
            go_ret
            exact ActPost2.still HD.out HX.out HX5.out HR3.out
        · exfalso
          rw [List.take_of_length_le (by rw [HN.out]; omega)] at hak
          have := List.all_eq_true.2 hak
          rw [HAL.out] at this
          cases this
    | true =>
      have HR3 := Lib.hid (HR2.out.trans (if_pos hall))
      have HAL := Lib.hid (List.all_eq_true.1 hall)
      clear HR2 hall
      go_enter Tryz.func122, Tryz.ntmps122
      go_wp2_with fail
      refine H1.out.mono ?_
      rintro e w1 ⟨rfl, hw1⟩
      obtain rfl := hw1.symm
      clear hw1
      go_wp2_with fail
      refine H2.out.mono ?_
      rintro e w1 ⟨rfl, hw1⟩
      obtain rfl := hw1.symm
      clear hw1
      go_wp2_with fail
      go_loopw [21] (fun iv wr => Hid (∃ k : Nat, k ≤ n ∧ iv = .int .i64 k ∧ Ext w wr)) (fun iv _ => n - (intOf iv).toNat)
      case atStart => exact ⟨0, Nat.zero_le _, rfl, Ext.refl _⟩
      case round =>
        obtain ⟨k, hk, rfl, hx⟩ := hrel.out
        clear hrel
        have HXr := Lib.hid hx
        by_cases hlt2 : k < n
        · obtain ⟨p, hp⟩ : ∃ p, x.paths[k]? = some p := ⟨_, List.getElem?_eq_getElem (by rw [HN.out]; exact hlt2)⟩
          have c := HC.out k p hp
          have ck := (hx.cell (lt_of_cell c)).trans c
          have hm := Lib.hid (H3 p wr (HZ.out p (List.mem_of_getElem? hp)) (HE.out.ext (HX.out.trans hx))).out
          rw [HAL.out p (List.mem_of_getElem? hp)] at hm
          clear hx c hp
          go_wp2_with fail
          refine hm.out.mono ?_
          rintro e w5 ⟨rfl, x5⟩
          have HX5 := Lib.hid (HXr.out.trans x5)
          clear x5
          go_wp2_with fail
          go_roundw
          case rel => exact ⟨k + 1, by omega, by go_num, HX5.out⟩
          case measure => simp [intOf]; omega
        · obtain rfl : k = n := by omega
          have nlt : decide ((k : Int) < (k : Int)) = false := by simp
          clear hk hlt2 hx
          cases r with
          | false =>
            have HR4 := Lib.hid (HR3.out.trans (if_neg (by rw [HRi.out]; decide)))
            go_wp2_with fail
            go_ret
            exact ActPost2.still HD.out HX.out HXr.out HR4.out
          | true =>
            have HR4 := Lib.hid (HR3.out.trans (if_pos HRi.out))
            have hxw := HX.out.trans HXr.out
            have hxo : EffOk x := ⟨HAL.out, HRi.out⟩
            have hb := (hxw.block (ltB HI.out.blk)).trans HI.out.blk
            have c0 : wr.cell? ⟨d, 0, none⟩ = some (.pointer (some ⟨lt, 0, none⟩)) := cellB hb
            have hea := HEf.out.turn (fun _ hb => hb) fun b _ hl => HXr.out.block hl
            have hRd : Ready wr lt lm D.live D.room := ⟨HE.out.ext hxw, HI.out.live.ext hxw, HO.out.ok.live, HO.out.ok.r2⟩
            obtain ⟨hen, hcall⟩ := eff_calls hea hxo hf hRd (most := full) (by decide)
            have hen : ∀ args W, (callFunc F args).run Tryz.prog W = .ok (.enter F args) W := hen
            have HCall := Lib.hid hcall
            have HEa := Lib.hid hea
            have HXw := Lib.hid hxw
            have HBr := Lib.hid (show ∀ b ∈ B, w0.heap.size ≤ b ∧ b < wr.heap.size from fun b hb => ⟨(HB.out b hb).1, Nat.lt_of_lt_of_le (HB.out b hb).2 HXr.out.size⟩)
            have HFail := Lib.hid (effE_fail (l := D.live) (room := D.room) (most := full) (x := x))
            have hlen := HO.out.len
            have hlo := HO.out.lo
            have hhi := HO.out.hi
            clear hea hxo hRd hb hcall hxw nlt HEf HB HR3
            go_wp2_with fail
            refine HCall.out.mono ?_
            rintro e w4 ⟨rfl, t4, x4⟩
            have HT4 := Lib.hid t4
            have HC4 := Lib.hid x4
            have hdw : w4.heap[d]? = some (.cells #[.pointer (some ⟨lt, 0, none⟩), .pointer (some ⟨st, 0, none⟩), lg, .bool D.fused, .int .i64 D.left] 109 (0, 0)) := by
              have hnd := HI.out.nd
              simp only [List.nodup_cons, List.mem_cons, List.not_mem_nil, not_or, or_false] at hnd
              exact (x4.block d (Nat.lt_of_lt_of_le hdl HXw.out.size) (by simp [hnd.1.1, hnd.1.2.1])).trans ((HXw.out.block hdl).trans HI.out.blk)
            have HDW := Lib.hid hdw
            have d2 : w4.cell? ⟨d, 2, none⟩ = some lg := cellB hdw
            have hd4 : d < w4.heap.size := ltB hdw
            clear t4 x4 hdw HCall hen c0
            generalize hS : effE D.live D.room full x = S at *
            obtain ⟨en, l4⟩ := S
            by_cases hen0 : en = 0
            · have HR5 := Lib.hid (HR4.out.trans (if_pos hen0))
              subst hen0
              have HOw := Lib.hid (show w4.ownsRow 0 150 1 lg D.log.length vs from owns_blocks HI.out.log fun b hb => by
                have hbl := own_lt HI.out.log b hb
                exact (HC4.out.block b (Nat.lt_of_lt_of_le hbl HXw.out.size) (fun hm => HI.out.lgne b hb (by simp at hm; rcases hm with rfl | rfl <;> simp))).trans (HXw.out.block hbl))
              have hlgd : ∀ b, lg.ownBlock = some b → b ≠ d := fun b hb e => HI.out.lgne b hb (by simp [e])
              have HLGD := Lib.hid hlgd
              clear HFail hS hlgd
              go_wp2_with (at_builtin; refine append_kw ⟨el_effect.ut, el_effect.info, el_effect.one, by decide, el_effect.few⟩ 0 _ _ _ (HOw.out.alloc _) w4.heap.size [.func (.func F) #[] cap] rfl (.tmp 43) (.tmp 45) rfl rfl rfl rfl (fun j u hj => by rw [cell_alloc_new rfl]; simpa using hj) (by simp [Value.oneCell']) (by omega) (Nat.zero_le _) ?_)
              intro v5 w5 hown5 hg5 hv5 hw5
              obtain ⟨g5, cap5, rfl, hv5⟩ := hv5
              have hd5 : w5.heap[d]? = some (.cells #[.pointer (some ⟨lt, 0, none⟩), .pointer (some ⟨st, 0, none⟩), lg, .bool D.fused, .int .i64 D.left] 109 (0, 0)) := by
                rw [hg5.block d (by rw [size_alloc]; omega) (fun e => HLGD.out d e.symm rfl), block_alloc_old hd4]
                exact HDW.out
              have e2 : w5.cell? ⟨d, 2, none⟩ = some lg := cellB hd5
              have e3 : w5.frozen? ⟨d, 2, none⟩ = false := frozenB hd5
              have hd6 : (w5.setCell ⟨d, 2, none⟩ (.slice (some ⟨g5, 0, none⟩) (D.log.length + 1) cap5)).heap[d]? = some (.cells #[.pointer (some ⟨lt, 0, none⟩), .pointer (some ⟨st, 0, none⟩), .slice (some ⟨g5, 0, none⟩) (D.log.length + 1) cap5, .bool D.fused, .int .i64 D.left] 109 (0, 0)) := setCellB hd5
              have e4 : (w5.setCell ⟨d, 2, none⟩ (.slice (some ⟨g5, 0, none⟩) (D.log.length + 1) cap5)).cell? ⟨d, 4, none⟩ = some (.int .i64 D.left) := cellB hd6
              have e5 : (w5.setCell ⟨d, 2, none⟩ (.slice (some ⟨g5, 0, none⟩) (D.log.length + 1) cap5)).frozen? ⟨d, 4, none⟩ = false := frozenB hd6
              have HEnd := Lib.hid (act_done HI.out HXw.out HT4.out HC4.out HEa.out HBr.out hf hown5 hg5 hw5 HR5.out)
              clear hown5 hg5 hv5 hw5 hd5 hd6
              go_wp2_with fail
              go_ret
              rw [HM.out]
              exact ⟨HEnd.out.1, Chg.from_ext HXr.out HEnd.out.2⟩
            · have HR5 := Lib.hid (HR4.out.trans (if_neg hen0))
              have HL := Lib.hid (HFail.out hen0)
              have n1 : (en == 0) = false := by simpa using hen0
              have n2 : (en != 0) = true := by simpa using hen0
              have HEnd := Lib.hid (act_fail HI.out HXw.out HT4.out HC4.out HL.out HR5.out)
              clear hen0 hS HFail
              go_wp2_with fail
              go_ret
              rw [HM.out]
              exact ⟨HEnd.out.1, Chg.from_ext HXr.out HEnd.out.2⟩
end Go.Proofs.YtldppmjjgljinaaGreatDoor

namespace Go.Proofs.YtldppmjjgljinaaGreatDoor
open Go.RowKit

theorem cell1 {w : World} {v : Value} {t : TypeId} : (w.alloc (.cells #[v] t)).cell? ⟨w.heap.size, 0, none⟩ = some v := by rw [cell_alloc_new rfl]; rfl
theorem cell_up {w : World} {o : Obj} {b k : Nat} {v : Value} (h : w.cell? ⟨b, k, none⟩ = some v) : (w.alloc o).cell? ⟨b, k, none⟩ = some v := (cell_alloc_old (lt_of_cell h)).trans h

set_option maxRecDepth 100000 in
set_option maxHeartbeats 2000000 in
theorem Mkdir_any {w : World} {d : Nat} {M I : List Nat} {D : Dk} (h : DkAt w d M I D) (O : DkFit D) (E : Env w) (p : ByteArray) (hp : p.size < 4294967281) :
    Calls Tryz.prog 57 #[.pointer (some ⟨d, 0, none⟩), .string p] w (ActPost w d M I (D.act (.mkdir p))) := by
  obtain ⟨W2, hW2⟩ : ∃ W2, W2 = (w.alloc (.cells #[.string p] 9)).alloc (.cells #[.string p] 9) := ⟨_, rfl⟩
  have x2 : Ext w W2 := hW2 ▸ ((Ext.refl w).alloc _).alloc _
  have hsz : W2.heap.size = w.heap.size + 2 := by rw [hW2, size_alloc, size_alloc]
  have HD := Lib.hid (do_any (x := .mkdir p) h x2 O E (B := [w.heap.size]) (F := 123) (cap := #[.pointer (some ⟨w.heap.size, 0, none⟩)])
    ⟨w.heap.size, rfl, by simp, hW2 ▸ cell_up cell1⟩ (fun b hb => by simp at hb; omega) trivial true rfl (w.heap.size + 1) 1 rfl (by decide)
    (fun k q hk => by
      match k, hk with
      | 0, hk =>
        simp [Eff.paths] at hk; subst hk
        have := cell1 (w := w.alloc (.cells #[.string p] 9)) (v := .string p) (t := 9)
        rw [size_alloc] at this
        rw [hW2]; exact this)
    (fun q hq => by simp [Eff.paths] at hq; subst hq; exact hp))
  clear x2 hsz h O E
  subst hW2
  generalize D.act (.mkdir p) = R at *
  go_enter Tryz.func57, Tryz.ntmps57
  go_wp2_with fail
  refine HD.out.mono ?_
  rintro e w1 ⟨⟨rfl, h1⟩, _⟩
  have HP := Lib.hid h1
  clear h1
  go_wp2_with fail
  go_ret
  exact ⟨rfl, HP.out⟩

set_option maxRecDepth 100000 in
set_option maxHeartbeats 2000000 in
theorem Remove_any {w : World} {d : Nat} {M I : List Nat} {D : Dk} (h : DkAt w d M I D) (O : DkFit D) (E : Env w) (p : ByteArray) (hp : p.size < 4294967281) :
    Calls Tryz.prog 65 #[.pointer (some ⟨d, 0, none⟩), .string p] w (ActPost w d M I (D.act (.remove p))) := by
  obtain ⟨W2, hW2⟩ : ∃ W2, W2 = (w.alloc (.cells #[.string p] 9)).alloc (.cells #[.string p] 9) := ⟨_, rfl⟩
  have x2 : Ext w W2 := hW2 ▸ ((Ext.refl w).alloc _).alloc _
  have hsz : W2.heap.size = w.heap.size + 2 := by rw [hW2, size_alloc, size_alloc]
  have HD := Lib.hid (do_any (x := .remove p) h x2 O E (B := [w.heap.size]) (F := 142) (cap := #[.pointer (some ⟨w.heap.size, 0, none⟩)])
    ⟨w.heap.size, rfl, by simp, hW2 ▸ cell_up cell1⟩ (fun b hb => by simp at hb; omega) trivial true rfl (w.heap.size + 1) 1 rfl (by decide)
    (fun k q hk => by
      match k, hk with
      | 0, hk =>
        simp [Eff.paths] at hk; subst hk
        have := cell1 (w := w.alloc (.cells #[.string p] 9)) (v := .string p) (t := 9)
        rw [size_alloc] at this
        rw [hW2]; exact this)
    (fun q hq => by simp [Eff.paths] at hq; subst hq; exact hp))
  clear x2 hsz h O E
  subst hW2
  generalize D.act (.remove p) = R at *
  go_enter Tryz.func65, Tryz.ntmps65
  go_wp2_with fail
  refine HD.out.mono ?_
  rintro e w1 ⟨⟨rfl, h1⟩, _⟩
  have HP := Lib.hid h1
  clear h1
  go_wp2_with fail
  go_ret
  exact ⟨rfl, HP.out⟩

set_option maxRecDepth 100000 in
set_option maxHeartbeats 2000000 in
theorem Append_any {w : World} {d : Nat} {M I : List Nat} {D : Dk} (h : DkAt w d M I D) (O : DkFit D) (E : Env w) (p a : ByteArray) (hp : p.size < 4294967281) (ha : a.size ≤ 4611686018427387904) :
    Calls Tryz.prog 59 #[.pointer (some ⟨d, 0, none⟩), .string p, .string a] w (ActPost w d M I (D.act (.add p a))) := by
  obtain ⟨W2, hW2⟩ : ∃ W2, W2 = ((w.alloc (.cells #[.string p] 9)).alloc (.cells #[.string a] 9)).alloc (.cells #[.string p] 9) := ⟨_, rfl⟩
  have x2 : Ext w W2 := hW2 ▸ (((Ext.refl w).alloc _).alloc _).alloc _
  have hsz : W2.heap.size = w.heap.size + 3 := by rw [hW2, size_alloc, size_alloc, size_alloc]
  have ca : ((w.alloc (.cells #[.string p] 9)).alloc (.cells #[.string a] 9)).cell? ⟨w.heap.size + 1, 0, none⟩ = some (.string a) := by
    have := cell1 (w := w.alloc (.cells #[.string p] 9)) (v := .string a) (t := 9)
    rwa [size_alloc] at this
  have HD := Lib.hid (do_any (x := .add p a) h x2 O E (B := [w.heap.size, w.heap.size + 1]) (F := 128) (cap := #[.pointer (some ⟨w.heap.size, 0, none⟩), .pointer (some ⟨w.heap.size + 1, 0, none⟩)])
    ⟨w.heap.size, w.heap.size + 1, rfl, by simp, by simp, hW2 ▸ cell_up (cell_up cell1), hW2 ▸ cell_up ca⟩ (fun b hb => by simp at hb; omega) ha true rfl (w.heap.size + 2) 1 rfl (by decide)
    (fun k q hk => by
      match k, hk with
      | 0, hk =>
        simp [Eff.paths] at hk; subst hk
        have := cell1 (w := (w.alloc (.cells #[.string p] 9)).alloc (.cells #[.string a] 9)) (v := .string p) (t := 9)
        rw [size_alloc, size_alloc] at this
        rw [hW2]; exact this)
    (fun q hq => by simp [Eff.paths] at hq; subst hq; exact hp))
  clear x2 hsz h O E ca
  subst hW2
  generalize D.act (.add p a) = R at *
  go_enter Tryz.func59, Tryz.ntmps59
  go_wp2_with fail
  refine HD.out.mono ?_
  rintro e w1 ⟨⟨rfl, h1⟩, _⟩
  have HP := Lib.hid h1
  clear h1
  go_wp2_with fail
  go_ret
  exact ⟨rfl, HP.out⟩

set_option maxRecDepth 100000 in
set_option maxHeartbeats 2000000 in
theorem Write_any {w : World} {d : Nat} {M I : List Nat} {D : Dk} (h : DkAt w d M I D) (O : DkFit D) (E : Env w) (p a : ByteArray) (tm : Int) (hp : p.size < 4294967281) (ha : a.size ≤ 4611686018427387904) :
    Calls Tryz.prog 58 #[.pointer (some ⟨d, 0, none⟩), .string p, .string a, .int .i64 tm] w (ActPost w d M I (D.act (.write p a tm))) := by
  obtain ⟨W1, hW1⟩ : ∃ W1, W1 = ((w.alloc (.cells #[.string p] 9)).alloc (.cells #[.string a] 9)).alloc (.cells #[.int .i64 tm] 2) := ⟨_, rfl⟩
  have x1 : Ext w W1 := hW1 ▸ (((Ext.refl w).alloc _).alloc _).alloc _
  have hsz : W1.heap.size = w.heap.size + 3 := by rw [hW1, size_alloc, size_alloc, size_alloc]
  have ca : ((w.alloc (.cells #[.string p] 9)).alloc (.cells #[.string a] 9)).cell? ⟨w.heap.size + 1, 0, none⟩ = some (.string a) := by
    have := cell1 (w := w.alloc (.cells #[.string p] 9)) (v := .string a) (t := 9)
    rwa [size_alloc] at this
  have ct : W1.cell? ⟨w.heap.size + 2, 0, none⟩ = some (.int .i64 tm) := by
    have := cell1 (w := (w.alloc (.cells #[.string p] 9)).alloc (.cells #[.string a] 9)) (v := .int .i64 tm) (t := 2)
    rw [size_alloc, size_alloc] at this
    rw [hW1]; exact this
  have cp : W1.cell? ⟨w.heap.size, 0, none⟩ = some (.string p) := hW1 ▸ cell_up (cell_up cell1)
  have ca2 : W1.cell? ⟨w.heap.size + 1, 0, none⟩ = some (.string a) := hW1 ▸ cell_up ca
  have HM := h.lt.1
  have x2 : Ext w (W1.alloc (.cells #[.string p] 9)).drew := (x1.alloc _).drew
  have HD := Lib.hid (do_any (x := .write p a tm) h x2 O E (B := [w.heap.size, w.heap.size + 1, w.heap.size + 2]) (F := 125) (cap := #[.pointer (some ⟨w.heap.size, 0, none⟩), .pointer (some ⟨w.heap.size + 1, 0, none⟩), .pointer (some ⟨w.heap.size + 2, 0, none⟩)])
    ⟨w.heap.size, w.heap.size + 1, w.heap.size + 2, rfl, by simp, by simp, by simp, cell_up (o := .cells #[.string p] 9) cp, cell_up (o := .cells #[.string p] 9) ca2, cell_up (o := .cells #[.string p] 9) ct⟩ (fun b hb => by show _ ∧ b < (W1.alloc _).heap.size; rw [size_alloc]; simp at hb; omega) ha (clockB tm) rfl W1.heap.size 1 rfl (by decide)
    (fun k q hk => by
      match k, hk with
      | 0, hk => simp [Eff.paths] at hk; subst hk; exact cell1 (w := W1) (v := .string p) (t := 9))
    (fun q hq => by simp [Eff.paths] at hq; subst hq; exact hp))
  have HS := Lib.hid (show ∀ w', Chg M (W1.alloc (.cells #[.string p] 9)).drew w' → w'.cell? ⟨w.heap.size, 0, none⟩ = some (.string p) ∧ w'.cell? ⟨w.heap.size + 2, 0, none⟩ = some (.int .i64 tm) from fun w' c => by
    have nm : ∀ b, w.heap.size ≤ b → b ∉ M := fun b hb hm => by have := HM b hm; omega
    exact ⟨(c.cell (by show _ < (W1.alloc _).heap.size; rw [size_alloc]; omega) (nm _ (by omega))).trans (cell_up (o := .cells #[.string p] 9) cp), (c.cell (by show _ < (W1.alloc _).heap.size; rw [size_alloc]; omega) (nm _ (by omega))).trans (cell_up (o := .cells #[.string p] 9) ct)⟩)
  have HCk := fun w => Lib.hid (dclock_any tm w)
  rw [hsz] at HD
  clear x1 x2 h O E ca ca2 HM
  subst hW1
  generalize D.act (.write p a tm) = R at *
  generalize clockB tm = cb at *
  go_enter Tryz.func58, Tryz.ntmps58
  go_wp2_with fail
  go_region_held (fun w' => w'.cell? ⟨w.heap.size, 0, none⟩ = some (.string p) ∧ w'.cell? ⟨w.heap.size + 2, 0, none⟩ = some (.int .i64 tm)) (first | go_keep | exact HS.out _ (by assumption)) (first
    | (go_at_call 127; refine (HCk _).out.mono ?_; rintro e w' ⟨rfl, rfl⟩)
    | (go_at_call 122; refine HD.out.mono ?_; rintro e w9 ⟨⟨rfl, h1⟩, h2⟩))
  all_goals (go_wp2_with fail; go_ret; exact ⟨rfl, by assumption⟩)
end Go.Proofs.YtldppmjjgljinaaGreatDoor
