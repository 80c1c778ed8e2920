/- caravan/disk's rename: the walk. -/
import Derived.Test.YtldppmjjgljinaaGreatDoorTreeG
namespace Go.Proofs.YtldppmjjgljinaaGreatDoor
open Go.RowKit

theorem own_slice {w : World} {base n : Nat} {v : Value} {xs : List Value} (h : w.ownsRow base 9 1 v n xs) : ∃ (a : Option Addr) (cap : Nat), v = .slice a n cap ∧ n ≤ 9223372036854775807 ∧ xs.length = n ∧ ∀ (k : Nat) x, xs[k]? = some x → ∃ g, a = some ⟨g, 0, none⟩ ∧ base ≤ g ∧ w.cell? ⟨g, k, none⟩ = some x := by
  have hl := h.1
  rcases h.2 with ⟨rfl, h0⟩ | ⟨g, cap, cur, rfl, hb, hh, h1, h2, h3, h4⟩
  · subst h0
    exact ⟨none, 0, rfl, Nat.zero_le _, by simpa using hl, fun k x hx => by have := (List.getElem?_eq_some_iff.1 hx).1; simp at hl; rw [hl] at this; simp at this⟩
  · refine ⟨_, cap, rfl, by unfold maxLen at h2; omega, by simpa using hl, fun k x hx => ⟨g, rfl, hb, ?_⟩⟩
    have := h.cells (g := g) rfl k x hx
    rwa [append_kw.add_off, Nat.zero_add] at this
theorem owns_chg {F : List Nat} {w w' : World} {base k : Nat} {e : TypeId} {v : Value} {n : Nat} {xs : List Value} (h : w.ownsRow base e k v n xs) (x : Chg F w w') (hF : ∀ b ∈ F, b < base) : w'.ownsRow base e k v n xs := by
  refine ⟨h.1, ?_⟩
  rcases h.2 with h1 | ⟨g, cap, cur, hv, hg, hh, hr⟩
  · exact .inl h1
  · exact .inr ⟨g, cap, cur, hv, hg, (x.block g (ltB hh) (fun hm => by have := hF g hm; omega)).trans hh, hr⟩
theorem own_ge {w : World} {base n k : Nat} {e : TypeId} {v : Value} {xs : List Value} (h : w.ownsRow base e k v n xs) : ∀ b, v.ownBlock = some b → base ≤ b := by
  intro b hb
  rcases h.2 with ⟨rfl, _⟩ | ⟨g, cap, cur, rfl, hg, _⟩
  · simp [Value.ownBlock] at hb
  · simp [Value.ownBlock] at hb; omega
theorem agg_nv (n : Nd) : nv n = .agg #[.int .i64 n.kind, .string n.data, .string n.target, .int .i64 n.time] := rfl

/-- While the nodes are moved. -/
def MovAt (w : World) (t m : Nat) (l : Nodes) (room : Nat) (a b : ByteArray) (base : Nat) (v : Value) (N : Nat) (wr : World) (k : Nat) : Prop :=
  ∃ cur, MovedTo l a b k cur ∧ TreeAt wr t m cur room ∧ wr.ownsRow base 9 1 v N ((orderM l a).map Value.string) ∧ Chg [t, m] w wr
theorem mov_start {w w4 w5 w6 : World} {o : Obj} {t m : Nat} {l : Nodes} {room : Nat} {a b : ByteArray} {base : Nat} {v v' : Value} (M : MoveOk l room a b) (T5 : TreeAt w5 t m (dropA l b) room) (c5 : Chg [t, m] w4 w5) (x4 : Ext w w4) (ht : t < base) (hm : m < base) (hown : w5.ownsRow base 9 1 v (withinsS l a).length ((withinsS l a).map Value.string))
    (hown6 : w6.ownsRow base 9 1 v' ((withinsS l a).length + 1) ((withinsS l a).map Value.string ++ [.string a])) (hg6 : (w5.alloc o).grownBy w6 v.ownBlock) (hbw : w.heap.size ≤ base) : MovAt w t m l room a b base v' ((withinsS l a).length + 1) w6 0 := by
  have hge := own_ge hown
  refine ⟨_, moved_start M, ?_, ?_, ?_⟩
  · have T5' := T5.ext ((Ext.refl w5).alloc o)
    have hlt := lt_of_tree T5'
    exact T5'.kept (hg6.block t hlt.1 (fun e => by have := hge t e.symm; omega)) (hg6.block m hlt.2 (fun e => by have := hge m e.symm; omega))
  · unfold orderM
    rw [List.map_append]
    exact hown6
  · have h1 : Chg [t, m] w w5 := Chg.from_ext x4 c5
    have h2 : Chg [t, m] w (w5.alloc o) := h1.alloc o
    have h3 : Chg (match v.ownBlock with | some b => [b] | none => []) (w5.alloc o) w6 := Chg.grownO hg6 (fun b hb => .inl (by rw [hb]; simp))
    exact h2.trans h3 (fun x hx => .inr (by
      cases hv : v.ownBlock with
      | none => rw [hv] at hx; cases hx
      | some b' => rw [hv] at hx; simp at hx; subst hx; have := hge x hv; omega))
theorem mov_step {w wr w7 w8 w9 : World} {t m : Nat} {l cur : Nodes} {room : Nat} {a b p : ByteArray} {base : Nat} {v : Value} {N k : Nat} {n : Nd} (M : MoveOk l room a b) (hc : MovedTo l a b k cur) (hp : (orderM l a)[k]? = some p) (hf : findA cur p = some n) (T : TreeAt wr t m cur room) (hown : wr.ownsRow base 9 1 v N ((orderM l a).map Value.string)) (c : Chg [t, m] w wr) (x7 : Ext wr w7)
    (h8 : w7.mapTurned w8 m) (hm9 : MapL w9 m (dropA ((newP a b p, n) :: dropA cur (newP a b p)) p)) (h9 : w8.mapTurned w9 m) (ht : t < base) (hm : m < base) : MovAt w t m l room a b base v N w9 (k + 1) := by
  obtain ⟨_, hf', _, hs⟩ := moved_step M hp hc
  have hst : stepM a b cur p = dropA ((newP a b p, n) :: dropA cur (newP a b p)) p := by unfold stepM; rw [hf]; rfl
  have hlt := lt_of_tree T
  have hne := T.ne
  have c8 : Chg [t, m] w7 w9 := (Chg.grown (F := [t, m]) h8.grown (by simp)).trans (Chg.grown (F := [t, m]) h9.grown (by simp)) (fun x hx => .inl hx)
  have ct : w9.heap[t]? = wr.heap[t]? := by
    have e7 := x7.block hlt.1
    have e8 := h8.grown.block t (Nat.lt_of_lt_of_le hlt.1 x7.size) (fun e => hne (Option.some.inj e))
    have e9 := h9.grown.block t (Nat.lt_of_lt_of_le hlt.1 (Nat.le_trans x7.size h8.grown.size)) (fun e => hne (Option.some.inj e))
    exact e9.trans (e8.trans e7)
  refine ⟨_, hs, ⟨?_, hst ▸ hm9⟩, ?_, ?_⟩
  · rw [ct, moved_used M hs, ← moved_used M hc]
    exact T.blk
  · exact owns_chg (owns_ext hown x7) c8 (fun b hb => by simp at hb; omega)
  · exact (c.trans_ext x7).trans c8 (fun x hx => .inl hx)
theorem mov_end {w wr : World} {t m : Nat} {l : Nodes} {room : Nat} {a b : ByteArray} {base : Nat} {v : Value} {N : Nat} {R : Int × Nodes} (M : MoveOk l room a b) (h : MovAt w t m l room a b base v N wr N) (hN : N = (orderM l a).length) (hR : R = (0, moveL l a b)) :
    Ending.returned (.int .i64 0) = .returned (.int .i64 R.1) ∧ TreeAt wr t m R.2 room ∧ Chg [t, m] w wr := by
  subst hR
  obtain ⟨cur, h1, h2, _, h4⟩ := h
  exact ⟨rfl, h2.perm (moved_end M hN h1), h4⟩

set_option maxRecDepth 100000 in
set_option maxHeartbeats 8000000 in
theorem drename_any (t m : Nat) (l : Nodes) (room : Nat) (a b : ByteArray) (w : World) (E : Env w) (T : TreeAt w t m l room) (O : TreeOk l room) (hr : room ≤ 1048576) (ha : mayB a = true) (hb : mayB b = true) (hrt : (Eff.rename a b).right = true) :
    Calls Tryz.prog 131 #[.pointer (some ⟨t, 0, none⟩), .string a, .string b] w
      fun e w' => e = .returned (.int .i64 (renameE l a b).1) ∧ TreeAt w' t m (renameE l a b).2 room ∧ Chg [t, m] w w' := by
  have haz := mayB_size ha
  have hbz := mayB_size hb
  have ha2 : a.size ≤ maxLen := by unfold maxLen; omega
  have hb2 : b.size ≤ maxLen := by unfold maxLen; omega
  have hu := O.used
  have hlen := len_used l
  have L := T.map.look_ok a ha2
  have c0 : w.cell? ⟨t, 0, none⟩ = some (.map (some m)) := cellB T.blk
  have HE := Lib.hid (show renameE l a b = if (findA l a).isSome then
    (if homeE l b = 0 then (if dirsB l a b then (12, l) else if l.all fun x => !withinB x.1 a || mayB (newP a b x.1) then (0, moveL l a b) else (10, l)) else (homeE l b, l))
  else (5, l) from rfl)
  have HMv := fun h1 h2 h3 h4 => Lib.hid (rename_ok O ha hb hrt h1 h2 h3 h4)
  have HT := Lib.hid T
  cases hf : findA l a with
  | none =>
    rw [hf] at L
    have L2 : (Instr.lookup 142 (.map (some m)) (.string a) true).run Tryz.prog w = .ok (.tuple #[.agg #[.int .i64 0, .string ⟨#[]⟩, .string ⟨#[]⟩, .int .i64 0], .bool false]) w := L
    have HR := Lib.hid (show renameE l a b = (5, l) from by rw [HE.out, hf]; rfl)
    clear L HE hf T HMv O
    generalize renameE l a b = R at *
    go_enter Tryz.func131, Tryz.ntmps131
    go_wp2_with fail
    go_ret
    rw [HR.out]
    have x : Ext w (w.alloc (.cells #[.int .i64 0, .string ⟨#[]⟩, .string ⟨#[]⟩, .int .i64 0] 57)) := (Ext.refl w).alloc _
    exact ⟨rfl, HT.out.ext x, x.chg _⟩
  | some n =>
    have hsome : (findA l a).isSome = true := by rw [hf]; rfl
    have HEa := Lib.hid (HE.out.trans (if_pos hsome))
    clear HE
    have HD := Lib.hid (show dirsB l a b = match findA l b with | some o => decide (o.kind = 2) || decide (n.kind = 2) | none => false from by unfold dirsB; rw [hf]; rfl)
    obtain ⟨k, d, g, tm⟩ := n
    rw [hf] at L
    have L2 : (Instr.lookup 142 (.map (some m)) (.string a) true).run Tryz.prog w = .ok (.tuple #[.agg #[.int .i64 k, .string d, .string g, .int .i64 tm], .bool true]) w := L
    obtain ⟨W1, hW1⟩ : ∃ W1, W1 = w.alloc (.cells #[.int .i64 k, .string d, .string g, .int .i64 tm] 57 (0, 0)) := ⟨_, rfl⟩
    have X1 : Ext w W1 := hW1 ▸ (Ext.refl w).alloc _
    have HB := Lib.hid (show W1.heap[w.heap.size]? = some (.cells #[.int .i64 k, .string d, .string g, .int .i64 tm] 57 (0, 0)) by rw [hW1]; exact block_alloc_new _ _)
    have H1 := Lib.hid (dhome_any t m l room b W1 (E.ext X1) (T.ext X1) (by omega) O.nz)
    have H5 := fun w E T => Lib.hid (dwithin_any t m l room a w E T (by omega) (by omega) fun x hx => mayB_size (O.may x hx))
    have H6 := fun w T => Lib.hid (ddrop_any t m l room b w T O.sorted hb2 (by omega))
    have HM := fun s w h E => Lib.hid (may_any s w h E)
    have HT1 := Lib.hid (T.ext X1)
    have HX1 := Lib.hid X1
    have HEn := Lib.hid E
    have hlt := lt_of_tree T
    clear L hf O T X1 E hrt
    subst hW1
    generalize renameE l a b = R at *
    generalize hh : homeE l b = h at *
    by_cases hh0 : h = 0
    · have HEb := Lib.hid (HEa.out.trans (if_pos hh0))
      have HMw := fun h3 h4 => Lib.hid ((HMv hsome hh0 h3 h4).out)
      clear HEa HMv
      subst hh0
      clear hh
      cases ho : findA l b with
      | none =>
        have HD := Lib.hid (show dirsB l a b = false from by rw [HD.out, ho])
        have HE := Lib.hid (HEb.out.trans (if_neg (by rw [HD.out]; decide)))
        clear HEb
        go_enter Tryz.func131, Tryz.ntmps131
        go_wp2_with fail
        refine H1.out.mono ?_
        rintro e W2 ⟨rfl, x2⟩
        have T2 := HT1.out.ext x2
        have L := T2.map.look_ok b hb2
        rw [ho] at L
        have L3 : (Instr.lookup 142 (.map (some m)) (.string b) true).run Tryz.prog W2 = .ok (.tuple #[.agg #[.int .i64 0, .string ⟨#[]⟩, .string ⟨#[]⟩, .int .i64 0], .bool false]) W2 := L
        have c2 : W2.cell? ⟨t, 0, none⟩ = some (.map (some m)) := cellB T2.blk
        have x3 := (Ext.refl W2).alloc (.cells #[.int .i64 0, .string ⟨#[]⟩, .string ⟨#[]⟩, .int .i64 0] 57 (0, 0))
        have HX3 := Lib.hid ((HX1.out.trans x2).trans x3)
        have HT3 := Lib.hid (T2.ext x3)
        clear L x2 x3 T2 ho H1
        go_wp2_with fail
        refine (H5 _ (HEn.out.ext HX3.out) HT3.out).out.mono ?_
        rintro e W4 ⟨v, rfl, hown, x4⟩
        have HT4 := Lib.hid (HT3.out.ext x4)
        have HX4 := Lib.hid (HX3.out.trans x4)
        have hz3 := HX3.out.size
        have hz4 := x4.size
        rw [size_alloc] at hown hz3 hz4
        have HO4 := Lib.hid hown
        have hb3 : t < (W2.heap.size + 1) ∧ m < (W2.heap.size + 1) := ⟨by omega, by omega⟩
        have hb4 : (W2.heap.size + 1) ≤ W4.heap.size := hz4
        have hb5 : w.heap.size ≤ (W2.heap.size + 1) := hz3
        clear hz3 hz4
        generalize (W2.heap.size + 1) = base at *
        obtain ⟨ad, cap, rfl, hn, hxl, hcl⟩ := own_slice hown
        have HCL := Lib.hid hcl
        have HWS := Lib.hid (fun k (hk : k ∈ withinsS l a) => (withinsS_mem.1 hk).1)
        have HAll := Lib.hid (all_within (l := l) (a := a) (b := b))
        have hwl : (withinsS l a).length ≤ 1048576 := by
          have := (withinsS_perm l a).length_eq
          have h2 := List.length_filter_le (fun x : ByteArray × Nd => withinB x.1 a) l
          simp at this; omega
        clear hown x4 hcl H5 HX3 HT3 hxl hn
        obtain ⟨ws, hws⟩ : ∃ ws, ws = withinsS l a := ⟨_, rfl⟩
        rw [← hws] at HO4 HCL HWS HAll hwl ⊢
        have HW := Lib.hid hws
        clear hws
        cases hall : ws.all fun k => mayB (newP a b k) with
        | false =>
          have HR := Lib.hid (show R = (10, l) from HE.out.trans (if_neg (by rw [HAll.out, hall]; decide)))
          have HAL := Lib.hid hall
          clear hall HAll HE HMw
          go_wp2_with fail
          go_loopw [59] (fun iv wr => Hid (∃ k : Nat, k ≤ ws.length ∧ iv = .int .i64 k ∧ (∀ x ∈ ws.take k, mayB (newP a b x) = true) ∧ Ext W4 wr)) (fun iv _ => ws.length - (intOf iv).toNat)
          case atStart => exact ⟨0, Nat.zero_le _, rfl, by simp, Ext.refl _⟩
          case round =>
            obtain ⟨k, hk, rfl, hak, hx⟩ := hrel.out
            clear hrel
            have HAK := Lib.hid hak
            have HX := Lib.hid hx
            by_cases hlt2 : k < ws.length
            · obtain ⟨p, hp⟩ : ∃ p, ws[k]? = some p := ⟨_, List.getElem?_eq_getElem hlt2⟩
              obtain ⟨gb, rfl, _, hc⟩ := HCL.out k (.string p) (by rw [List.getElem?_map, hp]; rfl)
              have ck := (hx.cell (lt_of_cell hc)).trans hc
              have hpz := within_size ha (HWS.out p (List.mem_of_getElem? hp))
              obtain ⟨hp1, hp2⟩ := hpz
              have hqs : (newP a b p).size ≤ 400 := by unfold newP; simp; omega
              have hm := Lib.hid (HM (newP a b p) wr (by omega) (HEn.out.ext (HX4.out.trans hx))).out
              have HTK := Lib.hid (show ws.take (k + 1) = ws.take k ++ [p] from by rw [List.take_add_one, hp]; rfl)
              obtain ⟨q, hq⟩ : ∃ q, b ++ p.extract a.size p.size = q := ⟨_, rfl⟩
              have HQ := Lib.hid (show newP a b p = q from hq)
              have hez : (p.extract a.size p.size).size ≤ 160 := by simp; omega
              rw [HQ.out] at hm hqs
              clear hak hx hc hp
              cases hmq : mayB q with
              | true =>
                rw [hmq] at hm
                have HMQ := Lib.hid hmq
                clear hmq
                go_wp2_with fail
                refine hm.out.mono ?_
                rintro e w5 ⟨rfl, x5⟩
                have HX5 := Lib.hid (HX.out.trans x5)
                clear x5
                go_wp2_with fail
                go_roundw
                case rel => exact ⟨k + 1, by omega, by go_num, fun x hx => by
                  rw [HTK.out] at hx
                  rcases List.mem_append.1 hx with h | h
                  · exact HAK.out x h
                  · simp at h; subst h; rw [HQ.out]; exact HMQ.out, HX5.out⟩
                case measure => simp [intOf]; omega
              | false =>
                rw [hmq] at hm
                clear hmq
                go_wp2_with fail
                refine hm.out.mono ?_
                rintro e w5 ⟨rfl, x5⟩
                have HX5 := Lib.hid (HX.out.trans x5)
                clear x5
                go_wp2_with fail
                go_ret
                rw [HR.out]
                exact ⟨rfl, HT4.out.ext HX5.out, (HX4.out.trans HX5.out).chg _⟩
            · exfalso
              rw [List.take_of_length_le (by omega)] at hak
              have := List.all_eq_true.2 hak
              rw [HAL.out] at this
              cases this
        | true =>
          have HR := Lib.hid (show R = (0, moveL l a b) from HE.out.trans (if_pos (by rw [HAll.out, hall])))
          have HMV := HMw HD.out (by rw [HAll.out, hall])
          have HAL := Lib.hid (List.all_eq_true.1 hall)
          clear hall HAll HE HMw
          go_wp2_with fail
          go_loopw [59] (fun iv wr => Hid (∃ k : Nat, k ≤ ws.length ∧ iv = .int .i64 k ∧ Ext W4 wr)) (fun iv _ => ws.length - (intOf iv).toNat)
          case atStart => exact ⟨0, Nat.zero_le _, rfl, Ext.refl _⟩
          case round =>
            obtain ⟨k, hk, rfl, hx⟩ := hrel.out
            clear hrel
            have HX := Lib.hid hx
            by_cases hlt2 : k < ws.length
            · obtain ⟨p, hp⟩ : ∃ p, ws[k]? = some p := ⟨_, List.getElem?_eq_getElem hlt2⟩
              obtain ⟨gb, rfl, _, hc⟩ := HCL.out k (.string p) (by rw [List.getElem?_map, hp]; rfl)
              have ck := (hx.cell (lt_of_cell hc)).trans hc
              have hpz := within_size ha (HWS.out p (List.mem_of_getElem? hp))
              obtain ⟨hp1, hp2⟩ := hpz
              have hqs : (newP a b p).size ≤ 400 := by unfold newP; simp; omega
              have hm := Lib.hid (HM (newP a b p) wr (by omega) (HEn.out.ext (HX4.out.trans hx))).out
              rw [HAL.out p (List.mem_of_getElem? hp)] at hm
              obtain ⟨q, hq⟩ : ∃ q, b ++ p.extract a.size p.size = q := ⟨_, rfl⟩
              have HQ := Lib.hid (show newP a b p = q from hq)
              have hez : (p.extract a.size p.size).size ≤ 160 := by simp; omega
              rw [HQ.out] at hm hqs
              clear hx hc hp
              go_wp2_with fail
              refine hm.out.mono ?_
              rintro e w5 ⟨rfl, x5⟩
              have HX5 := Lib.hid (HX.out.trans x5)
              clear x5
              go_wp2_with fail
              go_roundw
              case rel => exact ⟨k + 1, by omega, by go_num, HX5.out⟩
              case measure => simp [intOf]; omega
            · obtain rfl : k = ws.length := by omega
              have nlt : decide ((ws.length : Int) < (ws.length : Int)) = false := by simp
              clear hx hk hlt2
              go_wp2_with fail
              refine (H6 _ (HT4.out.ext HX.out)).out.mono ?_
              rintro e w5 ⟨rfl, t5, c5⟩
              have HO5 := Lib.hid (owns_chg (owns_ext HO4.out HX.out) c5 (fun x hx => by simp at hx; omega))
              have hsz5 : base ≤ w5.heap.size := Nat.le_trans hb4 (Nat.le_trans HX.out.size c5.size)
              have HT5 := Lib.hid t5
              have HC5 := Lib.hid c5
              clear t5 c5 nlt
              go_wp2_with (at_builtin; refine append_one el_string base _ _ _ (HO5.out.alloc _) w5.heap.size (.string a) (.tmp 75) (.tmp 77) rfl rfl rfl rfl (by rw [cell_alloc_new rfl]; rfl) rfl (by omega) (by simp; omega) ?_)
              intro v6 w6 hown6 hg6 hv6
              obtain ⟨g6, cap6, rfl, hg6b, hg6l, hcap1, hcap2⟩ := hv6
              have HS := Lib.hid (mov_start HMV.out HT5.out HC5.out (HX4.out.trans HX.out) hb3.1 hb3.2 (HW.out ▸ HO5.out) (HW.out ▸ hown6) hg6 hb5)
              rw [← HW.out] at HS
              have HN := Lib.hid (show ws.length + 1 = (orderM l a).length from by unfold orderM; rw [HW.out]; simp)
              clear hown6 hg6
              unfold maxLen at hcap2
              generalize hNN : ws.length + 1 = N at *
              have hN2 : N ≤ 1048577 := by omega
              clear hNN hwl HAL HCL
              go_wp2_with fail
              go_loopw [80] (fun iv wr => Hid (∃ k : Nat, k ≤ N ∧ iv = .int .i64 k ∧ MovAt w t m l room a b base (.slice (some ⟨g6, 0, none⟩) N cap6) N wr k)) (fun iv _ => N - (intOf iv).toNat)
              case atStart => exact ⟨0, Nat.zero_le _, rfl, HS.out⟩
              case round =>
                obtain ⟨k, hk, rfl, cur, hcu, tc, hoc, cc⟩ := hrel.out
                clear hrel HS
                by_cases hlt3 : k < N
                · obtain ⟨p, hp⟩ : ∃ p, (orderM l a)[k]? = some p := ⟨_, List.getElem?_eq_getElem (by rw [← HN.out]; exact hlt3)⟩
                  obtain ⟨n, hn1, hn2, _⟩ := moved_step HMV.out hp hcu
                  have ck := hoc.cells (g := g6) rfl k (.string p) (by rw [List.getElem?_map, hp]; rfl)
                  rw [append_kw.add_off, Nat.zero_add] at ck
                  obtain ⟨hp1, hp2⟩ : a.size ≤ p.size ∧ p.size ≤ 160 := by
                    have hm := List.mem_of_getElem? hp
                    unfold orderM at hm
                    rcases List.mem_append.1 hm with h | h
                    · exact within_size ha (withinsS_mem.1 h).1
                    · simp at h; subst h; exact ⟨Nat.le_refl _, haz⟩
                  have hqs : (newP a b p).size ≤ 400 := by unfold newP; simp; omega
                  have hcl := moved_keys HMV.out hcu
                  have hcl2 : cur.length < 1048576 := by omega
                  have ct := After.at (k := 0) tc.blk
                  have L4 : ∀ x : After wr, (Instr.lookup 142 (.map (some m)) (.string p) false).run Tryz.prog x.v = .ok (.agg #[.int .i64 n.kind, .string n.data, .string n.target, .int .i64 n.time]) x.v := fun x => by
                    have h := (tc.ext x.x).map.look p (by unfold maxLen; omega)
                    rw [hn1] at h
                    exact h
                  obtain ⟨q, hq⟩ : ∃ q, b ++ p.extract a.size p.size = q := ⟨_, rfl⟩
                  have HQ := Lib.hid (show newP a b p = q from hq)
                  have hez : (p.extract a.size p.size).size ≤ 160 := by simp; omega
                  rw [HQ.out] at hqs
                  have HF := fun w7 w8 w9 x7 h8 hm9 h9 => Lib.hid (mov_step (w := w) (base := base) (v := .slice (some ⟨g6, 0, none⟩) N cap6) (N := N) HMV.out hcu hp hn1 tc hoc cc (w7 := w7) (w8 := w8) (w9 := w9) x7 h8 hm9 h9 hb3.1 hb3.2)
                  rw [HQ.out] at HF
                  have HTC := Lib.hid tc
                  have hpm : p.size ≤ maxLen := by unfold maxLen; omega
                  have hqm : q.size ≤ maxLen := by unfold maxLen; omega
                  clear hcu tc hoc cc hp hn1 hn2 hcl
                  obtain ⟨k7, d7, g7, tm7⟩ := n
                  go_wp2_with fail
                  refine wp_region_after_tail 16 (by kernel_rfl) (by kernel_rfl) ?_
                  simp only [List.take_succ_cons, List.take_zero, List.drop_succ_cons, List.drop_zero]
                  repeat (go_big_quiet_step (fail))
                  refine wpQuiet_nil ?_
                  rintro w7 ⟨⟨_, x7⟩, rfl⟩
                  have t7 := HTC.out.ext x7
                  obtain ⟨w8, hr8, hm8, ht8⟩ := t7.map.store hcl2 q hqm ⟨k7, d7, g7, tm7⟩
                  have hr8' : (Instr.mapUpdate 142 (.map (some m)) (.string q) (.agg #[.int .i64 k7, .string d7, .string g7, .int .i64 tm7])).run Tryz.prog w7 = .ok () w8 := hr8
                  have c8 : w8.cell? ⟨t, 0, none⟩ = some (.map (some m)) := cellB ((ht8.grown.block t (lt_of_tree t7).1 (fun e => t7.ne (Option.some.inj e))).trans t7.blk)
                  obtain ⟨w9, hr9, hm9, ht9⟩ := hm8.drop p hpm 0
                  have HF9 := HF w7 w8 w9 x7 ht8 hm9 ht9
                  clear L4 ct HF t7 hr8 hm8 ht8 hm9 ht9 x7 HTC
                  go_wp2_with fail
                  go_roundw
                  case rel => exact ⟨k + 1, by omega, by go_num, HF9.out⟩
                  case measure => simp [intOf]; omega
                · obtain rfl : k = N := by omega
                  have nlt : decide ((k : Int) < (k : Int)) = false := by simp
                  have HS := Lib.hid (show MovAt w t m l room a b base (.slice (some ⟨g6, 0, none⟩) k cap6) k wr k from ⟨cur, hcu, tc, hoc, cc⟩)
                  clear hcu tc hoc cc
                  go_wp2_with fail
                  go_ret
                  exact mov_end HMV.out HS.out HN.out HR.out
      | some o =>
        obtain ⟨k1, d1, g1, tm1⟩ := o
        have HD := Lib.hid (show dirsB l a b = (decide (k1 = 2) || decide (k = 2)) from by rw [HD.out, ho])
        by_cases e1 : k1 = 2
        · have HE := Lib.hid (HEb.out.trans (if_pos (by rw [HD.out]; simp [e1])))
          clear HEb
          subst e1
          go_enter Tryz.func131, Tryz.ntmps131
          go_wp2_with fail
          refine H1.out.mono ?_
          rintro e W2 ⟨rfl, x2⟩
          have T2 := HT1.out.ext x2
          have L := T2.map.look_ok b hb2
          rw [ho] at L
          have L3 : (Instr.lookup 142 (.map (some m)) (.string b) true).run Tryz.prog W2 = .ok (.tuple #[.agg #[.int .i64 2, .string d1, .string g1, .int .i64 tm1], .bool true]) W2 := L
          have c2 : W2.cell? ⟨t, 0, none⟩ = some (.map (some m)) := cellB T2.blk
          have x3 := (Ext.refl W2).alloc (.cells #[.int .i64 2, .string d1, .string g1, .int .i64 tm1] 57 (0, 0))
          have HX3 := Lib.hid ((HX1.out.trans x2).trans x3)
          have HT3 := Lib.hid (T2.ext x3)
          clear L x2 x3 T2 ho H1
          go_wp2_with fail
          go_ret
          rw [HE.out]
          exact ⟨rfl, HT3.out, HX3.out.chg _⟩
        · have e1' : (k1 == 2) = false := by simpa using e1
          by_cases e2 : k = 2
          · have HE := Lib.hid (HEb.out.trans (if_pos (by rw [HD.out]; simp [e2])))
            clear HEb
            subst e2
            go_enter Tryz.func131, Tryz.ntmps131
            go_wp2_with fail
            refine H1.out.mono ?_
            rintro e W2 ⟨rfl, x2⟩
            have T2 := HT1.out.ext x2
            have L := T2.map.look_ok b hb2
            rw [ho] at L
            have L3 : (Instr.lookup 142 (.map (some m)) (.string b) true).run Tryz.prog W2 = .ok (.tuple #[.agg #[.int .i64 k1, .string d1, .string g1, .int .i64 tm1], .bool true]) W2 := L
            have c2 : W2.cell? ⟨t, 0, none⟩ = some (.map (some m)) := cellB T2.blk
            have b2 : W2.cell? ⟨w.heap.size, 0, none⟩ = some (.int .i64 2) := cellB ((x2.block (ltB HB.out)).trans HB.out)
            have bl : w.heap.size < W2.heap.size := ltB ((x2.block (ltB HB.out)).trans HB.out)
            have x3 := (Ext.refl W2).alloc (.cells #[.int .i64 k1, .string d1, .string g1, .int .i64 tm1] 57 (0, 0))
            have HX3 := Lib.hid ((HX1.out.trans x2).trans x3)
            have HT3 := Lib.hid (T2.ext x3)
            clear L x2 x3 T2 ho H1
            go_wp2_with fail
            go_ret
            rw [HE.out]
            exact ⟨rfl, HT3.out, HX3.out.chg _⟩
          · have e2' : (k == 2) = false := by simpa using e2
            have HD := Lib.hid (show dirsB l a b = false from by rw [HD.out]; simp [e1, e2])
            have HE := Lib.hid (HEb.out.trans (if_neg (by rw [HD.out]; decide)))
            clear HEb
            clear e1 e2
            go_enter Tryz.func131, Tryz.ntmps131
            go_wp2_with fail
            refine H1.out.mono ?_
            rintro e W2 ⟨rfl, x2⟩
            have T2 := HT1.out.ext x2
            have L := T2.map.look_ok b hb2
            rw [ho] at L
            have L3 : (Instr.lookup 142 (.map (some m)) (.string b) true).run Tryz.prog W2 = .ok (.tuple #[.agg #[.int .i64 k1, .string d1, .string g1, .int .i64 tm1], .bool true]) W2 := L
            have c2 : W2.cell? ⟨t, 0, none⟩ = some (.map (some m)) := cellB T2.blk
            have b2 : W2.cell? ⟨w.heap.size, 0, none⟩ = some (.int .i64 k) := cellB ((x2.block (ltB HB.out)).trans HB.out)
            have bl : w.heap.size < W2.heap.size := ltB ((x2.block (ltB HB.out)).trans HB.out)
            have x3 := (Ext.refl W2).alloc (.cells #[.int .i64 k1, .string d1, .string g1, .int .i64 tm1] 57 (0, 0))
            have HX3 := Lib.hid ((HX1.out.trans x2).trans x3)
            have HT3 := Lib.hid (T2.ext x3)
            clear L x2 x3 T2 ho H1
            go_wp2_with fail
            refine (H5 _ (HEn.out.ext HX3.out) HT3.out).out.mono ?_
            rintro e W4 ⟨v, rfl, hown, x4⟩
            have HT4 := Lib.hid (HT3.out.ext x4)
            have HX4 := Lib.hid (HX3.out.trans x4)
            have hz3 := HX3.out.size
            have hz4 := x4.size
            rw [size_alloc] at hown hz3 hz4
            have HO4 := Lib.hid hown
            have hb3 : t < (W2.heap.size + 1) ∧ m < (W2.heap.size + 1) := ⟨by omega, by omega⟩
            have hb4 : (W2.heap.size + 1) ≤ W4.heap.size := hz4
            have hb5 : w.heap.size ≤ (W2.heap.size + 1) := hz3
            clear hz3 hz4
            generalize (W2.heap.size + 1) = base at *
            obtain ⟨ad, cap, rfl, hn, hxl, hcl⟩ := own_slice hown
            have HCL := Lib.hid hcl
            have HWS := Lib.hid (fun k (hk : k ∈ withinsS l a) => (withinsS_mem.1 hk).1)
            have HAll := Lib.hid (all_within (l := l) (a := a) (b := b))
            have hwl : (withinsS l a).length ≤ 1048576 := by
              have := (withinsS_perm l a).length_eq
              have h2 := List.length_filter_le (fun x : ByteArray × Nd => withinB x.1 a) l
              simp at this; omega
            clear hown x4 hcl H5 HX3 HT3 hxl hn
            obtain ⟨ws, hws⟩ : ∃ ws, ws = withinsS l a := ⟨_, rfl⟩
            rw [← hws] at HO4 HCL HWS HAll hwl ⊢
            have HW := Lib.hid hws
            clear hws
            cases hall : ws.all fun k => mayB (newP a b k) with
            | false =>
              have HR := Lib.hid (show R = (10, l) from HE.out.trans (if_neg (by rw [HAll.out, hall]; decide)))
              have HAL := Lib.hid hall
              clear hall HAll HE HMw
              go_wp2_with fail
              go_loopw [59] (fun iv wr => Hid (∃ k : Nat, k ≤ ws.length ∧ iv = .int .i64 k ∧ (∀ x ∈ ws.take k, mayB (newP a b x) = true) ∧ Ext W4 wr)) (fun iv _ => ws.length - (intOf iv).toNat)
              case atStart => exact ⟨0, Nat.zero_le _, rfl, by simp, Ext.refl _⟩
              case round =>
                obtain ⟨k, hk, rfl, hak, hx⟩ := hrel.out
                clear hrel
                have HAK := Lib.hid hak
                have HX := Lib.hid hx
                by_cases hlt2 : k < ws.length
                · obtain ⟨p, hp⟩ : ∃ p, ws[k]? = some p := ⟨_, List.getElem?_eq_getElem hlt2⟩
                  obtain ⟨gb, rfl, _, hc⟩ := HCL.out k (.string p) (by rw [List.getElem?_map, hp]; rfl)
                  have ck := (hx.cell (lt_of_cell hc)).trans hc
                  have hpz := within_size ha (HWS.out p (List.mem_of_getElem? hp))
                  obtain ⟨hp1, hp2⟩ := hpz
                  have hqs : (newP a b p).size ≤ 400 := by unfold newP; simp; omega
                  have hm := Lib.hid (HM (newP a b p) wr (by omega) (HEn.out.ext (HX4.out.trans hx))).out
                  have HTK := Lib.hid (show ws.take (k + 1) = ws.take k ++ [p] from by rw [List.take_add_one, hp]; rfl)
                  obtain ⟨q, hq⟩ : ∃ q, b ++ p.extract a.size p.size = q := ⟨_, rfl⟩
                  have HQ := Lib.hid (show newP a b p = q from hq)
                  have hez : (p.extract a.size p.size).size ≤ 160 := by simp; omega
                  rw [HQ.out] at hm hqs
                  clear hak hx hc hp
                  cases hmq : mayB q with
                  | true =>
                    rw [hmq] at hm
                    have HMQ := Lib.hid hmq
                    clear hmq
                    go_wp2_with fail
                    refine hm.out.mono ?_
                    rintro e w5 ⟨rfl, x5⟩
                    have HX5 := Lib.hid (HX.out.trans x5)
                    clear x5
                    go_wp2_with fail
                    go_roundw
                    case rel => exact ⟨k + 1, by omega, by go_num, fun x hx => by
                      rw [HTK.out] at hx
                      rcases List.mem_append.1 hx with h | h
                      · exact HAK.out x h
                      · simp at h; subst h; rw [HQ.out]; exact HMQ.out, HX5.out⟩
                    case measure => simp [intOf]; omega
                  | false =>
                    rw [hmq] at hm
                    clear hmq
                    go_wp2_with fail
                    refine hm.out.mono ?_
                    rintro e w5 ⟨rfl, x5⟩
                    have HX5 := Lib.hid (HX.out.trans x5)
                    clear x5
                    go_wp2_with fail
                    go_ret
                    rw [HR.out]
                    exact ⟨rfl, HT4.out.ext HX5.out, (HX4.out.trans HX5.out).chg _⟩
                · exfalso
                  rw [List.take_of_length_le (by omega)] at hak
                  have := List.all_eq_true.2 hak
                  rw [HAL.out] at this
                  cases this
            | true =>
              have HR := Lib.hid (show R = (0, moveL l a b) from HE.out.trans (if_pos (by rw [HAll.out, hall])))
              have HMV := HMw HD.out (by rw [HAll.out, hall])
              have HAL := Lib.hid (List.all_eq_true.1 hall)
              clear hall HAll HE HMw
              go_wp2_with fail
              go_loopw [59] (fun iv wr => Hid (∃ k : Nat, k ≤ ws.length ∧ iv = .int .i64 k ∧ Ext W4 wr)) (fun iv _ => ws.length - (intOf iv).toNat)
              case atStart => exact ⟨0, Nat.zero_le _, rfl, Ext.refl _⟩
              case round =>
                obtain ⟨k, hk, rfl, hx⟩ := hrel.out
                clear hrel
                have HX := Lib.hid hx
                by_cases hlt2 : k < ws.length
                · obtain ⟨p, hp⟩ : ∃ p, ws[k]? = some p := ⟨_, List.getElem?_eq_getElem hlt2⟩
                  obtain ⟨gb, rfl, _, hc⟩ := HCL.out k (.string p) (by rw [List.getElem?_map, hp]; rfl)
                  have ck := (hx.cell (lt_of_cell hc)).trans hc
                  have hpz := within_size ha (HWS.out p (List.mem_of_getElem? hp))
                  obtain ⟨hp1, hp2⟩ := hpz
                  have hqs : (newP a b p).size ≤ 400 := by unfold newP; simp; omega
                  have hm := Lib.hid (HM (newP a b p) wr (by omega) (HEn.out.ext (HX4.out.trans hx))).out
                  rw [HAL.out p (List.mem_of_getElem? hp)] at hm
                  obtain ⟨q, hq⟩ : ∃ q, b ++ p.extract a.size p.size = q := ⟨_, rfl⟩
                  have HQ := Lib.hid (show newP a b p = q from hq)
                  have hez : (p.extract a.size p.size).size ≤ 160 := by simp; omega
                  rw [HQ.out] at hm hqs
                  clear hx hc hp
                  go_wp2_with fail
                  refine hm.out.mono ?_
                  rintro e w5 ⟨rfl, x5⟩
                  have HX5 := Lib.hid (HX.out.trans x5)
                  clear x5
                  go_wp2_with fail
                  go_roundw
                  case rel => exact ⟨k + 1, by omega, by go_num, HX5.out⟩
                  case measure => simp [intOf]; omega
                · obtain rfl : k = ws.length := by omega
                  have nlt : decide ((ws.length : Int) < (ws.length : Int)) = false := by simp
                  clear hx hk hlt2
                  go_wp2_with fail
                  refine (H6 _ (HT4.out.ext HX.out)).out.mono ?_
                  rintro e w5 ⟨rfl, t5, c5⟩
                  have HO5 := Lib.hid (owns_chg (owns_ext HO4.out HX.out) c5 (fun x hx => by simp at hx; omega))
                  have hsz5 : base ≤ w5.heap.size := Nat.le_trans hb4 (Nat.le_trans HX.out.size c5.size)
                  have HT5 := Lib.hid t5
                  have HC5 := Lib.hid c5
                  clear t5 c5 nlt
                  go_wp2_with (at_builtin; refine append_one el_string base _ _ _ (HO5.out.alloc _) w5.heap.size (.string a) (.tmp 75) (.tmp 77) rfl rfl rfl rfl (by rw [cell_alloc_new rfl]; rfl) rfl (by omega) (by simp; omega) ?_)
                  intro v6 w6 hown6 hg6 hv6
                  obtain ⟨g6, cap6, rfl, hg6b, hg6l, hcap1, hcap2⟩ := hv6
                  have HS := Lib.hid (mov_start HMV.out HT5.out HC5.out (HX4.out.trans HX.out) hb3.1 hb3.2 (HW.out ▸ HO5.out) (HW.out ▸ hown6) hg6 hb5)
                  rw [← HW.out] at HS
                  have HN := Lib.hid (show ws.length + 1 = (orderM l a).length from by unfold orderM; rw [HW.out]; simp)
                  clear hown6 hg6
                  unfold maxLen at hcap2
                  generalize hNN : ws.length + 1 = N at *
                  have hN2 : N ≤ 1048577 := by omega
                  clear hNN hwl HAL HCL
                  go_wp2_with fail
                  go_loopw [80] (fun iv wr => Hid (∃ k : Nat, k ≤ N ∧ iv = .int .i64 k ∧ MovAt w t m l room a b base (.slice (some ⟨g6, 0, none⟩) N cap6) N wr k)) (fun iv _ => N - (intOf iv).toNat)
                  case atStart => exact ⟨0, Nat.zero_le _, rfl, HS.out⟩
                  case round =>
                    obtain ⟨k, hk, rfl, cur, hcu, tc, hoc, cc⟩ := hrel.out
                    clear hrel HS
                    by_cases hlt3 : k < N
                    · obtain ⟨p, hp⟩ : ∃ p, (orderM l a)[k]? = some p := ⟨_, List.getElem?_eq_getElem (by rw [← HN.out]; exact hlt3)⟩
                      obtain ⟨n, hn1, hn2, _⟩ := moved_step HMV.out hp hcu
                      have ck := hoc.cells (g := g6) rfl k (.string p) (by rw [List.getElem?_map, hp]; rfl)
                      rw [append_kw.add_off, Nat.zero_add] at ck
                      obtain ⟨hp1, hp2⟩ : a.size ≤ p.size ∧ p.size ≤ 160 := by
                        have hm := List.mem_of_getElem? hp
                        unfold orderM at hm
                        rcases List.mem_append.1 hm with h | h
                        · exact within_size ha (withinsS_mem.1 h).1
                        · simp at h; subst h; exact ⟨Nat.le_refl _, haz⟩
                      have hqs : (newP a b p).size ≤ 400 := by unfold newP; simp; omega
                      have hcl := moved_keys HMV.out hcu
                      have hcl2 : cur.length < 1048576 := by omega
                      have ct := After.at (k := 0) tc.blk
                      have L4 : ∀ x : After wr, (Instr.lookup 142 (.map (some m)) (.string p) false).run Tryz.prog x.v = .ok (.agg #[.int .i64 n.kind, .string n.data, .string n.target, .int .i64 n.time]) x.v := fun x => by
                        have h := (tc.ext x.x).map.look p (by unfold maxLen; omega)
                        rw [hn1] at h
                        exact h
                      obtain ⟨q, hq⟩ : ∃ q, b ++ p.extract a.size p.size = q := ⟨_, rfl⟩
                      have HQ := Lib.hid (show newP a b p = q from hq)
                      have hez : (p.extract a.size p.size).size ≤ 160 := by simp; omega
                      rw [HQ.out] at hqs
                      have HF := fun w7 w8 w9 x7 h8 hm9 h9 => Lib.hid (mov_step (w := w) (base := base) (v := .slice (some ⟨g6, 0, none⟩) N cap6) (N := N) HMV.out hcu hp hn1 tc hoc cc (w7 := w7) (w8 := w8) (w9 := w9) x7 h8 hm9 h9 hb3.1 hb3.2)
                      rw [HQ.out] at HF
                      have HTC := Lib.hid tc
                      have hpm : p.size ≤ maxLen := by unfold maxLen; omega
                      have hqm : q.size ≤ maxLen := by unfold maxLen; omega
                      clear hcu tc hoc cc hp hn1 hn2 hcl
                      obtain ⟨k7, d7, g7, tm7⟩ := n
                      go_wp2_with fail
                      refine wp_region_after_tail 16 (by kernel_rfl) (by kernel_rfl) ?_
                      simp only [List.take_succ_cons, List.take_zero, List.drop_succ_cons, List.drop_zero]
                      repeat (go_big_quiet_step (fail))
                      refine wpQuiet_nil ?_
                      rintro w7 ⟨⟨_, x7⟩, rfl⟩
                      have t7 := HTC.out.ext x7
                      obtain ⟨w8, hr8, hm8, ht8⟩ := t7.map.store hcl2 q hqm ⟨k7, d7, g7, tm7⟩
                      have hr8' : (Instr.mapUpdate 142 (.map (some m)) (.string q) (.agg #[.int .i64 k7, .string d7, .string g7, .int .i64 tm7])).run Tryz.prog w7 = .ok () w8 := hr8
                      have c8 : w8.cell? ⟨t, 0, none⟩ = some (.map (some m)) := cellB ((ht8.grown.block t (lt_of_tree t7).1 (fun e => t7.ne (Option.some.inj e))).trans t7.blk)
                      obtain ⟨w9, hr9, hm9, ht9⟩ := hm8.drop p hpm 0
                      have HF9 := HF w7 w8 w9 x7 ht8 hm9 ht9
                      clear L4 ct HF t7 hr8 hm8 ht8 hm9 ht9 x7 HTC
                      go_wp2_with fail
                      go_roundw
                      case rel => exact ⟨k + 1, by omega, by go_num, HF9.out⟩
                      case measure => simp [intOf]; omega
                    · obtain rfl : k = N := by omega
                      have nlt : decide ((k : Int) < (k : Int)) = false := by simp
                      have HS := Lib.hid (show MovAt w t m l room a b base (.slice (some ⟨g6, 0, none⟩) k cap6) k wr k from ⟨cur, hcu, tc, hoc, cc⟩)
                      clear hcu tc hoc cc
                      go_wp2_with fail
                      go_ret
                      exact mov_end HMV.out HS.out HN.out HR.out
    · have HR := Lib.hid (HEa.out.trans (if_neg hh0))
      have h1 : (h == 0) = false := by simpa using hh0
      have h2 : (h != 0) = true := by simpa using hh0
      clear hh0 HMv hh
      go_enter Tryz.func131, Tryz.ntmps131
      go_wp2_with fail
      refine H1.out.mono ?_
      rintro e W2 ⟨rfl, x2⟩
      have HT2 := Lib.hid (HT1.out.ext x2)
      have HX2 := Lib.hid (HX1.out.trans x2)
      clear x2
      go_wp2_with fail
      go_ret
      rw [HR.out]
      exact ⟨rfl, HT2.out, HX2.out.chg _⟩
end Go.Proofs.YtldppmjjgljinaaGreatDoor
