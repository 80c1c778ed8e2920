/- Contract of caravan/caravanref01: Padded. Contract of caravan/caravanref01: Words. Contract of caravan/caravanref01: Sum. caravan/caravanref05: Size, Blocks, List: contracts in plain words. Contract of caravan/caravanref01: Text. Contracts of caravan/caravanref02: Temp, IsTemp. Numbers in so many digits: what the program pads is what the document's Digits gives; two numbers with the same digits are one. No program in sight. Contracts of caravan/caravanref02: digit, Digits, ext. Contract of caravan/caravanref02: Conflict. Contract of caravan/caravanref02: IsConflict. caravan/caravanref17: Nodes, Why: contracts in plain words. caravan/caravanref17: Root: a contract in plain words; caravanref08's Parse in the words of what it ignores. caravan/caravanref17: Item: contracts in plain words. caravan/caravanref17: One: contracts in plain words. caravan/caravanref06: items that are the same: contracts in plain words. caravan/caravanref06: two lists of items that are the same: a contract in plain words. What both sides tell of one path: the same item. -/
import Derived.Test.YtodickpibbbiiaaGreatDoorWiF2
import Derived.Test.YtodickpibbbiiaaGreatDoorWiB1
import Derived.Test.YtodickpibbbiiaaGreatDoorWiA1
import Derived.Test.YtodickpibbbiiaaGreatDoorWiF1
import Derived.Test.YtodickpibbbiiaaGreatDoorWiE1
import Derived.Test.YtodickpibbbiiaaGreatDoorWiE2
import Derived.Test.YtodickpibbbiiaaGreatDoorWiC3
import Derived.Laws.AppendOwnNone
import Derived.Deep.RegionHeldLaw
namespace Go.Proofs.YtodickpibbbiiaaGreatDoor
open Go.RowKit

theorem append_lots {P:Program} {ops:Array Oper} {rest:List Oper} {o:Oper} {a:Act} {Q:Exit→Act→World→Prop} {w:World} {t e:TypeId} {z:Value} {bytes:Nat} (el:Elem P t e z bytes)
    (base:Nat) (v:Value) (n:Nat) (xs:List Value) (hown:w.ownsRow base e 1 v n xs) (ad:Option Addr) (m c:Nat) (us:List Value) (s x:Operand)
    (hgd:o.guard=none) (ho:o.op=.call { callee:=.builtin .append,args:=#[s,x],argTypes:=#[t,t] })
    (hs:a.eval s=v) (hx:a.eval x=.slice ad m c) (hl:us.length=m) (hz:ad=none→m=0∧c=0) (hnew:0<m→∃ g k,ad=some ⟨g,k,none⟩∧∀ (j:Nat) u,us[j]?=some u→w.cell? ⟨g,k+j,none⟩=some u) (h1:∀ u∈us,u.oneCell'=true) (hn:n+m≤68719476736) (hbase:base≤w.heap.size)
    (h:∀ v' w',w'.ownsRow base e 1 v' (n+m) (xs++us)→w.grownBy w' v.ownBlock→wpList P ops Q rest (a.put o.dst v') w'):wpList P ops Q (o::rest) a w:=by
  obtain ⟨i,hi,hz0,hsz,hby⟩:=info_parts el.info
  have hf:=el.few
  cases ad with
  | none =>
    obtain ⟨rfl,rfl⟩:=hz rfl
    have:us=[]:=List.length_eq_zero_iff.1 hl
    subst this
    refine wpList_append_own_none hgd s x t ho base e i 1 el.ut hi v n xs hs hown hx ?_
    exact h v w (by simpa using hown) ⟨rfl,rfl,rfl,Nat.le_refl _,fun _ _ _=>rfl⟩
  | some A =>
    refine wpList_append_own w hgd s x t ho base e i z 1 bytes el.ut hi hz0 hsz hby el.one (by decide) v n xs hs hown A m c us hx (by omega) ?_ h1 ?_ ?_ hbase ?_
    · intro j u hj
      obtain ⟨g,k,e1,e2⟩:=hnew (by have:=(List.getElem?_eq_some_iff.1 hj).1;omega)
      injection e1 with e1
      subst e1
      rw [show (⟨g,k,none⟩:Addr).add j=⟨g,k+j,none⟩ from by
        unfold Addr.add;split
        · rename_i h;subst h;rfl
        · rfl]
      exact e2 j u hj
    · unfold maxLen;omega
    · have:(n+m)*bytes≤(n+m)*1024:=Nat.mul_le_mul_left _ hf
      omega
    · intro v' w' h2 h3 _
      exact h v' w' h2 h3
theorem byte_at (n c:Nat) (x:UInt8) (h:(be8 n)[7 - c]?=some x) (hc:c≤7):((n:Int) / 2 ^ (8*c)) % 256=(x.toNat:Int):=by
  rw [be8_at n (7 - c) (by omega),show 56 - 8*(7 - c)=8*c from by omega] at h
  injection h with h
  subst h
  unfold byteOf
  rw [UInt8.toNat_ofNat',show (2:Int) ^ (8*c)=((2 ^ (8*c):Nat):Int) from (Int.natCast_pow 2 (8*c)).symm]
  generalize 2 ^ (8*c)=d
  rw [←Int.natCast_ediv]
  omega

set_option maxHeartbeats 1000000 in
set_option maxRecDepth 100000 in
theorem rpadded_any (b:List UInt8) (v:Value) (w:World) (hv:BytesOff w.heap.size w v b) (hz:∀ cap,v=.slice none 0 cap→cap=0) (hm:b.length≤1048576) :
    Calls Tryz.prog 279 #[v] w fun e w'=>∃ u,e=.returned u∧CellsAt w' u ((padded b).map bv)∧Ext w w':=by
  obtain ⟨ad,cap,rfl,hc1,hc2,hcell⟩:=hv
  obtain ⟨L,hL⟩:∃ L,L=b.length:=⟨_,rfl⟩
  have HL:=Lib.hid hL.symm
  rw [←hL] at hm hc1 hcell hz ⊢
  clear hL
  have HZ0:=Lib.hid (show ad=none→L=0∧cap=0 from fun e=>by
    rcases Nat.eq_zero_or_pos L with h0 | h0
    · exact ⟨h0,hz cap (by rw [e,h0])⟩
    · obtain ⟨g,o,e1,_⟩:=hcell h0;rw [e] at e1;cases e1)
  have HCE:=Lib.hid (show 0<L→∃ g k,ad=some ⟨g,k,none⟩∧∀ (j:Nat) u,(b.map bv)[j]?=some u→w.cell? ⟨g,k+j,none⟩=some u from fun h=>by
    obtain ⟨g,o,e1,_,_,e4⟩:=hcell h
    refine ⟨g,o,e1,fun j u hj=>?_⟩
    rw [List.getElem?_map,Option.map_eq_some_iff] at hj
    obtain ⟨x,hx,rfl⟩:=hj
    exact e4 j x hx)
  have HP:=Lib.hid (show padded b=b++(128::List.replicate (zerosOf L) 0++be8 (8*L)) from by unfold padded padL;rw [HL.out])
  rw [HP.out]
  obtain ⟨Z,hZ⟩:∃ Z,Z=zerosOf L:=⟨_,rfl⟩
  have HZ2:=Lib.hid (show Z=(119 - L % 64) % 64 from hZ)
  have hZ64:Z<64:=by rw [hZ];unfold zerosOf;omega
  rw [←hZ]
  clear hcell hz HP hZ
  have HBE:=fun c x h hc=>Lib.hid (byte_at (8*L) c x h hc)
  have HBL:=Lib.hid (show (be8 (8*L)).length=8 from rfl)
  obtain ⟨be,hbe⟩:∃ be,be=be8 (8*L):=⟨_,rfl⟩
  rw [←hbe] at HBE HBL ⊢
  clear hbe
  go_enter Tryz.func279,Tryz.ntmps279
  go_wp2_with (at_builtin;refine append_lots elU8 w.heap.size _ _ _ (World.ownsRow_nil w w.heap.size 5 1) ad L cap (b.map bv) (.tmp 6) (.tmp 7) rfl rfl rfl rfl (by rw [List.length_map];exact HL.out) HZ0.out HCE.out (by intro u hu;obtain ⟨x,_,rfl⟩:=List.mem_map.1 hu;rfl) (by omega) (Nat.le_refl _) ?_)
  intro v1 w1 hown1 hg1
  have HB1:=Lib.hid (ext_own (Ext.refl w) (Nat.le_refl _) (World.ownsRow_nil w w.heap.size 5 1) hg1)
  have HO1:=Lib.hid hown1
  clear hown1 hg1
  have hs1:=HB1.out.size
  go_wp2_with (at_builtin;refine append_one elU8 w.heap.size _ _ _ (HO1.out.alloc _) w1.heap.size (bv 128) (.tmp 9) (.tmp 10) rfl rfl rfl rfl ?c1 rfl (by omega) ?c2 ?_)
  case c1=>rw [cell_alloc_new rfl];rfl
  case c2=>simp;omega
  intro v2 w2 hown2 hg2 _
  have HX2:=Lib.hid (ext_own (HB1.out.alloc _) (Nat.le_refl _) (HO1.out.alloc _) hg2)
  have HO2:=Lib.hid (show w2.ownsRow w.heap.size 5 1 v2 (L+1+0) ((b++128::List.replicate 0 0).map bv) from by simpa using hown2)
  clear hown2 hg2 HO1 HB1 hs1
  go_wp2_with fail
  go_loopw [3] (fun v wr=>Hid (∃ j:Nat,j≤Z∧wr.ownsRow w.heap.size 5 1 v (L+1+j) ((b++128::List.replicate j 0).map bv)∧Ext w wr)) (fun v _=>Z - (lenV v - (L+1)))
  case atStart=>exact ⟨0,by omega,HO2.out,HX2.out⟩
  case round =>
    obtain ⟨j,hj,ho,hx⟩:=hrel.out
    clear hrel HO2 HX2
    have HX:=Lib.hid hx
    have HO:=Lib.hid ho
    have hs:=hx.size
    obtain ⟨a0,cap0,rfl⟩:=owns_slice ho
    clear ho hx
    by_cases hlt:j<Z
    · have hne:(((L+1+j:Nat):Int) % 64==56)=false:=by have:=HZ2.out;simp;omega
      go_wp2_with (at_builtin;refine append_one elU8 w.heap.size _ _ _ (HO.out.alloc _) wr.heap.size (bv 0) (.tmp 16) (.tmp 17) rfl rfl rfl rfl ?c1 rfl (by omega) ?c2 ?_)
      case c1=>rw [cell_alloc_new rfl];rfl
      case c2=>simp;omega
      intro v' w3 hown3 hg3 hv3
      have HX3:=Lib.hid (ext_own (HX.out.alloc _) (Nat.le_refl _) (HO.out.alloc _) hg3)
      go_wp2_with fail
      go_roundw
      case rel=>exact ⟨j+1,by omega,by rw [←Nat.add_assoc];simpa [List.replicate_succ'] using hown3,HX3.out⟩
      case measure =>
        obtain ⟨g',cap',rfl,_⟩:=hv3
        simp [lenV];omega
    · have hne:(((L:Int)+1+j) % 64 != 56)=false:=by have:=HZ2.out;simp;omega
      have HO:=Lib.hid (show wr.ownsRow w.heap.size 5 1 (.slice a0 (L+1+j) cap0) (L+1+j+0) ((b++(128::List.replicate Z 0++be.take 0)).map bv) from by
        have e:j=Z:=by omega
        subst e
        simpa using HO.out)
      obtain ⟨wa,rfl⟩:∃ x,x=wr:=⟨_,rfl⟩
      have hj64:j<64:=by omega
      go_wp2_with fail
      go_loopw [3,5] (fun v bv' wr=>Hid (∃ i k:Nat,i+k=8∧bv'=.int .i64 ((k:Int) - 1)∧wr.ownsRow w.heap.size 5 1 v (L+1+j+i) ((b++(128::List.replicate Z 0++be.take i)).map bv)∧Ext w wr)) (fun _ bv' _=>(intOf bv'+1).toNat)
      case atStart=>exact ⟨0,8,by omega,rfl,HO.out,HX.out⟩
      case round =>
        obtain ⟨i,k,hik,rfl,ho,hx⟩:=hrel.out
        clear hrel HO HX
        have HX:=Lib.hid hx
        have HO:=Lib.hid ho
        have hs:=hx.size
        obtain ⟨a1,cap1,rfl⟩:=owns_slice ho
        match k,hik with
        | 0,hik =>
          have HC:=Lib.hid (CellsAt.of_owns (xs:=(b++(128::List.replicate Z 0++be)).map bv) (v:=.slice a1 (L+1+j+i) cap1) (w:=wr) (base:=w.heap.size) (e:=5) (by
            have e8:be.take i=be:=List.take_of_length_le (by rw [HBL.out];omega)
            rw [e8] at ho
            have hl:=ho.1
            rw [Nat.mul_one] at hl
            rw [hl];exact ho))
          clear ho hx
          go_wp2_with fail
          go_ret
          exact ⟨_,rfl,by simpa using HC.out,HX.out⟩
        | c+1,hik =>
          clear ho hx
          rw [show ((c+1:Nat):Int) - 1=(c:Int) from by omega]
          obtain ⟨x,hx⟩:∃ x,be[7 - c]?=some x:=⟨_,List.getElem?_eq_getElem (by rw [HBL.out];omega)⟩
          have HBX:=Lib.hid (show (L:Int)*8 / 2 ^ (8*c) % 256=x.toNat from by rw [←(HBE c x hx (by omega)).out,Int.natCast_mul,Int.mul_comm];rfl)
          have HST:=Lib.hid (show be.take (i+1)=be.take i++[x] from by rw [List.take_add_one,show i=7 - c from by omega,hx];rfl)
          clear hx
          go_wp2_with (at_builtin;refine append_one elU8 w.heap.size _ _ _ (HO.out.alloc _) wr.heap.size (.int .u8 ((L:Int)*8 / 2 ^ (8*c) % 256)) (.tmp 27) (.tmp 34) rfl rfl rfl rfl ?c1 rfl (by omega) ?c2 ?_)
          case c1=>rw [cell_alloc_new rfl];rfl
          case c2=>simp;omega
          intro v' w3 hown3 hg3 _
          have HX3:=Lib.hid (ext_own (HX.out.alloc _) (Nat.le_refl _) (HO.out.alloc _) hg3)
          rw [HBX.out] at hown3
          have HO3:=Lib.hid hown3
          clear hown3 hg3
          go_wp2_with fail
          go_roundw
          case rel=>exact ⟨i+1,c,by omega,by go_num,by rw [HST.out,←Nat.add_assoc];simpa [bv] using HO3.out,HX3.out⟩
          case measure=>simp [intOf]
end Go.Proofs.YtodickpibbbiiaaGreatDoor

namespace Go.Proofs.YtodickpibbbiiaaGreatDoor
open Go.RowKit

theorem elU32:Elem Tryz.prog 346 40 (.int .u32 0) 4:=⟨by kernel_rfl,by kernel_rfl,rfl,by decide⟩
def accW (r:List UInt8) (t:Nat):Nat→Nat
  | 0=>0
  | k+1=>256*accW r t k+(r.getD (4*t+k) 0).toNat
theorem accW_lt (r:List UInt8) (t:Nat):∀ k,accW r t k<256 ^ k
  | 0=>Nat.one_pos
  | k+1=>by
    have:=accW_lt r t k
    have h2:=(r.getD (4*t+k) 0).toNat_lt
    unfold accW
    rw [Nat.pow_succ];omega
theorem accW_four (r:List UInt8) (t:Nat):accW r t 4=(((r.getD (4*t) 0).toNat*256+(r.getD (4*t+1) 0).toNat)*256+(r.getD (4*t+2) 0).toNat)*256+(r.getD (4*t+3) 0).toNat:=by
  simp only [accW,Nat.add_zero,Nat.zero_add,Nat.mul_zero]
  omega
theorem accW_word (r:List UInt8) (t:Nat) (h:t<16) (l:List Wd):accW r t 4=(nextW r l t).toNat:=by
  have h4:=accW_lt r t 4
  unfold nextW wordAt
  rw [if_pos h,BitVec.toNat_ofNat,Nat.mod_eq_of_lt]
  · exact accW_four r t
  · rw [←accW_four];exact h4
theorem owns_cell {w:World} {base n:Nat} {e:TypeId} {v:Value} {xs:List Value} (h:w.ownsRow base e 1 v n xs) (hn:0<n):∃ g cap,v=.slice (some ⟨g,0,none⟩) n cap∧n≤cap∧cap≤maxLen∧g<w.heap.size∧base≤g∧∀ (j:Nat) u,xs[j]?=some u→w.cell? ⟨g,j,none⟩=some u:=by
  rcases h.2 with ⟨_,h2⟩ | ⟨g,cap,cur,hv,hb,hh,hc,hm,_⟩
  · omega
  · subst hv
    refine ⟨g,cap,rfl,hc,hm,ltB hh,hb,fun j u hj=>?_⟩
    rw [h.cellAt j (by have:=(List.getElem?_eq_some_iff.1 hj).1;have:=h.1;omega),hj]

set_option maxHeartbeats 1000000 in
set_option maxRecDepth 100000 in
theorem rwords_any (r:List UInt8) (g o cap:Nat) (w:World) (hr:r.length=64) (hcell:∀ (j:Nat) x,r[j]?=some x→w.cell? ⟨g,o+j,none⟩=some (bv x)) :
    Calls Tryz.prog 280 #[.slice (some ⟨g,o,none⟩) 64 cap] w fun e w'=>∃ u,e=.returned u∧CellsAt w' u ((wordsL r 64).map wv)∧Ext w w':=by
  have HC:=Lib.hid hcell
  clear hcell
  have HT:=fun x n h1 h2 w=>Lib.hid (rturned_any x n h1 h2 w)
  go_enter Tryz.func280,Tryz.ntmps280
  go_wp2_with fail
  go_loopw [3,4] (fun v iv wr=>Hid (∃ t:Nat,t≤64∧iv=.int .i64 t∧wr.ownsRow w.heap.size 40 1 v t ((wordsL r t).map wv)∧Ext w wr)) (fun _ iv _=>64 - (intOf iv).toNat)
  case atStart=>exact ⟨0,by omega,rfl,World.ownsRow_nil _ _ _ _,Ext.refl _⟩
  case round =>
    obtain ⟨t,ht,rfl,ho,hx⟩:=hrel.out
    clear hrel
    have HX:=Lib.hid hx
    have HO:=Lib.hid ho
    have hs:=hx.size
    by_cases hlt:t<64
    · have HST:=Lib.hid (show (wordsL r (t+1)).map wv=(wordsL r t).map wv++[wv (nextW r (wordsL r t) t)] from by rw [show wordsL r (t+1)=wordsL r t++[nextW r (wordsL r t) t] from rfl,List.map_append];rfl)
      have HLN:=Lib.hid (wordsL_len r t)
      by_cases h16:t<16
      · obtain ⟨a0,cap0,rfl⟩:=owns_slice ho
        clear ho hx
        have HW:=Lib.hid (accW_word r t h16 (wordsL r t))
        go_wp2_with fail
        go_loopw [5,6] (fun xv kv w2=>Hid (∃ k:Nat,k≤4∧kv=.int .i64 k∧xv=.int .u32 (accW r t k)∧w2=wr)) (fun _ kv _=>4 - (intOf kv).toNat)
        case atStart=>exact ⟨0,by omega,rfl,rfl,rfl⟩
        case round =>
          obtain ⟨k,hk,rfl,rfl,hw⟩:=hrel.out
          clear hrel
          by_cases h4:k<4
          · have hb:accW r t k<16777216:=Nat.lt_of_lt_of_le (accW_lt r t k) (Nat.le_trans (Nat.pow_le_pow_right (by decide) (show k≤3 by omega)) (by decide))
            obtain ⟨x,hxr⟩:∃ x,r[4*t+k]?=some x:=⟨_,List.getElem?_eq_getElem (by omega)⟩
            have hcx:wr.cell? ⟨g,o+(4*t+k),none⟩=some (.int .u8 x.toNat):=by
              rw [hw];exact (HX.out.cell (lt_of_cell (HC.out _ _ hxr))).trans (HC.out _ _ hxr)
            have HA:=Lib.hid (show accW r t (k+1)=256*accW r t k+x.toNat from by rw [accW,List.getD_eq_getElem?_getD,hxr];rfl)
            obtain ⟨acc,hacc⟩:∃ acc,acc=accW r t k:=⟨_,rfl⟩
            rw [←hacc] at hb HA ⊢
            have HACC:=Lib.hid hacc
            have hxl:=x.toNat_lt
            have HWR:=Lib.hid hw
            clear hacc hxr hw
            go_wp2_with fail
            go_roundw
            case rel=>exact ⟨k+1,by omega,by go_num,by rw [HA.out];go_num,HWR.out⟩
            case measure=>simp [intOf];omega
          · have e4:k=4:=by omega
            rw [e4,HW.out]
            have HK4:=Lib.hid e4
            clear h4 hk e4
            subst hw
            go_wp2_with (at_builtin;refine append_one elU32 w.heap.size _ _ _ (HO.out.alloc _) wr.heap.size (wv (nextW r (wordsL r t) t)) (.tmp 32) (.tmp 34) rfl rfl rfl rfl ?c1 rfl (by omega) ?c2 ?_)
            case c1=>rw [cell_alloc_new rfl];rfl
            case c2=>simp;omega
            intro v' w3 hown3 hg3 _
            have HX3:=Lib.hid (ext_own (HX.out.alloc _) (Nat.le_refl _) (HO.out.alloc _) hg3)
            go_wp2_with fail
            go_roundw
            case rel=>exact ⟨t+1,by omega,by go_num,by rw [HST.out];exact hown3,HX3.out⟩
            case measure=>simp [intOf];omega
      · obtain ⟨g1,cap1,rfl,hn1,hm1,hg1,hbg1,hcl1⟩:=owns_cell ho (by omega)
        have hq:∀ j,j<t→∀ v:After wr,v.v.cell? ⟨g1,j,none⟩=some (.int .u32 ((wordsL r t).getD j 0).toNat):=fun j hj v=>After.cell (hcl1 _ _ (by
          rw [List.getElem?_map,List.getD_eq_getElem?_getD,wordsL_at r t j hj];rfl)) v
        have hwl:∀ j,j<t→((wordsL r t).map wv)[j]?=some (.int .u32 ((wordsL r t).getD j 0).toNat):=fun j hj=>by
          rw [List.getElem?_map,List.getD_eq_getElem?_getD,wordsL_at r t j hj];rfl
        obtain ⟨x0,g0⟩:∃ x,x=(wordsL r t).getD (t - 16) 0:=⟨_,rfl⟩
        obtain ⟨x1,gg1⟩:∃ x,x=(wordsL r t).getD (t - 15) 0:=⟨_,rfl⟩
        obtain ⟨x9,g9⟩:∃ x,x=(wordsL r t).getD (t - 7) 0:=⟨_,rfl⟩
        obtain ⟨x14,g14⟩:∃ x,x=(wordsL r t).getD (t - 2) 0:=⟨_,rfl⟩
        have p0:∀ v:After wr,v.v.cell? ⟨g1,t - 16,none⟩=some (.int .u32 x0.toNat):=fun v=>by rw [g0];exact hq _ (by omega) v
        have p1:∀ v:After wr,v.v.cell? ⟨g1,t - 15,none⟩=some (.int .u32 x1.toNat):=fun v=>by rw [gg1];exact hq _ (by omega) v
        have p9:∀ v:After wr,v.v.cell? ⟨g1,t - 7,none⟩=some (.int .u32 x9.toNat):=fun v=>by rw [g9];exact hq _ (by omega) v
        have p14:∀ v:After wr,v.v.cell? ⟨g1,t - 2,none⟩=some (.int .u32 x14.toNat):=fun v=>by rw [g14];exact hq _ (by omega) v
        have HK0:=Lib.hid (show ((wordsL r t).map wv)[t - 16]?=some (.int .u32 x0.toNat) from by rw [g0];exact hwl _ (by omega))
        have HK9:=Lib.hid (show ((wordsL r t).map wv)[t - 7]?=some (.int .u32 x9.toNat) from by rw [g9];exact hwl _ (by omega))
        obtain ⟨s0,hs0⟩:∃ s,s=sg0 x1:=⟨_,rfl⟩
        obtain ⟨s1,hs1⟩:∃ s,s=sg1 x14:=⟨_,rfl⟩
        have HE:=Lib.hid (show x0+s0+x9+s1=nextW r (wordsL r t) t from by
          unfold nextW
          rw [if_neg h16,hs0,hs1,g0,gg1,g9,g14])
        have HS0:=Lib.hid (show bits BinOp.xor IntKind.u32 (bits BinOp.xor IntKind.u32 ((rotr x1 7).toNat:Int) (rotr x1 18).toNat) ((x1.toNat:Int) / (8:Int))=(s0.toNat:Int) from by
          rw [wd_xor,wd_shr3,wd_xor,hs0];rfl)
        have HS1:=Lib.hid (show bits BinOp.xor IntKind.u32 (bits BinOp.xor IntKind.u32 ((rotr x14 17).toNat:Int) (rotr x14 19).toNat) ((x14.toNat:Int) / (1024:Int))=(s1.toNat:Int) from by
          rw [wd_xor,wd_shr10,wd_xor,hs1];rfl)
        have HSUM:=Lib.hid (show (((x0.toNat:Int)+s0.toNat+x9.toNat) % 4294967296+s1.toNat) % 4294967296=((nextW r (wordsL r t) t).toNat:Int) from by
          rw [←HE.out,←wd_add,←wd_add,←wd_add];omega)
        obtain ⟨nx,hnx⟩:∃ nx,nx=nextW r (wordsL r t) t:=⟨_,rfl⟩
        obtain ⟨nl,hnl⟩:∃ nl,nl=(wordsL r (t+1)).map wv:=⟨_,rfl⟩
        obtain ⟨ws,hws⟩:∃ ws,ws=(wordsL r t).map wv:=⟨_,rfl⟩
        have HNL:=Lib.hid hnl
        rw [←hnx] at HE HSUM HST
        rw [←hnl] at HST
        rw [←hws] at HO HST HK0 HK9
        clear hnx hnl hws HE HLN hwl hq g0 gg1 g9 g14 hcl1 ho hx hs0 hs1
        have h16':decide ((t:Int)<16)=false:=by simp;omega
        go_wp2_with fail
        refine wp_region_after (by kernel_rfl) (by kernel_rfl) ?_
        repeat (go_big_quiet_step (fail))
        refine wpQuiet_nil ?_;rintro _ ⟨y,rfl⟩
        obtain ⟨wy,xy⟩:=y
        go_wp2_with fail
        refine (HT x1 7 (by decide) (by decide) _).out.mono ?_
        rintro e w2 ⟨rfl,rfl⟩
        go_wp2_with fail
        refine (HT x1 18 (by decide) (by decide) _).out.mono ?_
        rintro e w2 ⟨rfl,rfl⟩
        go_wp2_with fail
        refine (HT x14 17 (by decide) (by decide) _).out.mono ?_
        rintro e w2 ⟨rfl,rfl⟩
        go_wp2_with fail
        refine (HT x14 19 (by decide) (by decide) _).out.mono ?_
        rintro e w2 ⟨rfl,rfl⟩
        rw [HS0.out]
        go_wp2_with fail
        rw [HS1.out]
        have HO4:=Lib.hid (owns_ext HO.out xy)
        have HX4:=Lib.hid (HX.out.trans xy)
        have hs4:=xy.size
        have c0:w2.cell? ⟨g1,t - 16,none⟩=some (.int .u32 x0.toNat):=p0 ⟨w2,xy⟩
        have c9:w2.cell? ⟨g1,t - 7,none⟩=some (.int .u32 x9.toNat):=p9 ⟨w2,xy⟩
        clear p0 p1 p9 p14 xy
        have b9:(16:Int)≤(t:Int):=by omega
        have b10:(7:Int)≤(t:Int):=by omega
        have b2:(t:Int) - 16<(t:Int):=by omega
        have b4:(t:Int) - 7<(t:Int):=by omega
        have b5:IntKind.i64.wrap ((t:Int) - 16)=(t:Int) - 16:=by rw [IntKind.wrap_i64];omega
        have b6:IntKind.i64.wrap ((t:Int) - 7)=(t:Int) - 7:=by rw [IntKind.wrap_i64];omega
        rw [show t - 16=((t:Int) - 16).toNat from by omega] at c0 HK0
        rw [show t - 7=((t:Int) - 7).toNat from by omega] at c9 HK9
        go_region_held_law (fun w'=>w'.cell? ⟨g1,((t:Int) - 16).toNat,none⟩=some (.int .u32 x0.toNat)∧w'.cell? ⟨g1,((t:Int) - 7).toNat,none⟩=some (.int .u32 x9.toNat)) (go_keep)
         ((refine step_append_keep elU32 w.heap.size (.slice (some ⟨g1,0,none⟩) t cap1) t ws (owns_ext HO4.out ?_) w2.heap.size (wv (nx)) (.tmp 62) (.tmp 78) rfl rfl ?_ ?_ ?_ rfl ?_ ?_ ?_
           · repeat (first | exact Ext.refl _ | refine Ext.alloc ?_ _ | refine Ext.drew ?_)
           · simp [Act.eval]
           · simp [Act.eval]
           · exact (cellB (heap_new_drew rfl)).trans (by simp only [wv,←HSUM.out,List.getElem?_toArray,List.getElem?_cons_zero,Option.some.injEq,Value.int.injEq,true_and,IntKind.wrap_u32'];omega)
           · omega
           · simp;omega
           intro v' w3 hown3 hgr3 hrow3 hkp3
           obtain ⟨g3,cap3,rfl,_⟩:=hrow3
           have k1:w3.cell? ⟨g1,((t:Int) - 16).toNat,none⟩=some (.int .u32 x0.toNat):=hkp3 g1 (((t:Int) - 16).toNat) _ rfl HK0.out
           have k2:w3.cell? ⟨g1,((t:Int) - 7).toNat,none⟩=some (.int .u32 x9.toNat):=hkp3 g1 (((t:Int) - 7).toNat) _ rfl HK9.out
           have HR:=Lib.hid (show w3.ownsRow w.heap.size 40 1 _ (t+1) nl∧Ext w w3 from ⟨by rw [HST.out];exact hown3,ext_own ((HX4.out.alloc _).drew) (Nat.le_refl _) (owns_ext HO4.out (by repeat (first | exact Ext.refl _ | refine Ext.alloc ?_ _ | refine Ext.drew ?_))) hgr3⟩)
           clear hown3 hgr3 hkp3))
        all_goals
          go_wp2_with fail
          go_roundw
          case rel=>exact ⟨t+1,by omega,by go_num,HNL.out▸HR.out.1,HR.out.2⟩
          case measure=>simp [intOf] <;> omega
    · have e64:t=64:=by omega
      have HC64:=Lib.hid (CellsAt.of_owns (xs:=(wordsL r t).map wv) (by rw [List.length_map,wordsL_len];exact ho))
      rw [e64] at HC64
      obtain ⟨a0,cap0,hv⟩:=owns_slice ho
      subst hv
      clear ho hx e64
      go_wp2_with fail
      go_ret
      exact ⟨_,rfl,HC64.out,HX.out⟩
end Go.Proofs.YtodickpibbbiiaaGreatDoor

namespace Go.Proofs.YtodickpibbbiiaaGreatDoor
open Go.RowKit

theorem rturned_ok (x:Wd) (n:Int) (w:World) (hn:rotOk n=true) :
    Calls Tryz.prog 281 #[.int .u32 x.toNat,.int .i64 n] w fun e w'=>e=.returned (.int .u32 (rotr x n.toNat).toNat)∧w'=w:=by
  have h:1≤n∧n≤31:=by
    have:n=2∨n=6∨n=7∨n=11∨n=13∨n=17∨n=18∨n=19∨n=22∨n=25:=by simpa [rotOk] using hn
    omega
  have:=rturned_any x n.toNat (by omega) (by omega) w
  rwa [show ((n.toNat:Nat):Int)=n from by omega] at this
def kV (i:Nat):List Value:=(kTab.take i).map fun (x:Nat)=>Value.int .u32 x
def sV (i:Nat):List Value:=(first8.list.take i).map wv
theorem kTab_len:kTab.length=64:=by decide
theorem CellsAt.some {w:World} {v:Value} {xs:List Value} (h:CellsAt w v xs) (n:Nat) (hn:xs.length=n) (h0:0<n):∃ g cap,v=.slice (some ⟨g,0,none⟩) n cap∧n≤cap∧cap≤maxLen∧g<w.heap.size∧∀ (j:Nat) u,xs[j]?=some u→w.cell? ⟨g,j,none⟩=some u:=by
  subst hn
  rcases h with ⟨_,h2⟩ | ⟨g,cap,h1,h2,h3,h4,h5⟩
  · subst h2;simp at h0
  · exact ⟨g,cap,h1,h3,h4,h2,h5⟩
theorem kV_step (i:Nat) (h:i<64):∃ p,primes64[i]?=some p∧p≤400∧kV (i+1)=kV i++[.int .u32 (cubeN p % 4294967296:Nat)]:=by
  have hl:primes64.length=64:=primes_all
  obtain ⟨p,hp⟩:∃ p,primes64[i]?=some p:=⟨_,List.getElem?_eq_getElem (by omega)⟩
  refine ⟨p,hp,primes_le p (List.mem_of_getElem? hp),?_⟩
  have:kTab[i]?=some (cubeN p % 4294967296):=by rw [←table_cube,List.getElem?_map,hp];rfl
  unfold kV
  rw [List.take_add_one,this,List.map_append];rfl
theorem sV_step (i:Nat) (h:i<8):∃ p,primes64[i]?=some p∧p≤400∧sV (i+1)=sV i++[.int .u32 (squareN p % 4294967296:Nat)]:=by
  have hl:primes64.length=64:=primes_all
  obtain ⟨p,hp⟩:∃ p,primes64[i]?=some p:=⟨_,List.getElem?_eq_getElem (by omega)⟩
  refine ⟨p,hp,primes_le p (List.mem_of_getElem? hp),?_⟩
  obtain ⟨x,hx⟩:∃ x,first8.list[i]?=some x:=⟨_,List.getElem?_eq_getElem (by exact h)⟩
  have h2:(first8.list.map BitVec.toNat)[i]?=some (squareN p % 4294967296):=by
    rw [←table_square,List.getElem?_map,List.getElem?_take,if_pos h,hp];rfl
  rw [List.getElem?_map,hx] at h2
  have h3:x.toNat=squareN p % 4294967296:=Option.some.inj h2
  unfold sV
  rw [List.take_add_one,hx,List.map_append]
  simp [wv,h3]

theorem xq_eq (e f g h kk ww:Wd):(((h.toNat:Int)+bits BinOp.xor IntKind.u32 (bits BinOp.xor IntKind.u32 ((rotr e 6).toNat:Int) (rotr e 11).toNat) (rotr e 25).toNat+bits BinOp.xor IntKind.u32 (bits BinOp.and IntKind.u32 (e.toNat:Int) f.toNat) (bits BinOp.and IntKind.u32 (bits BinOp.xor IntKind.u32 (e.toNat:Int) 4294967295) g.toNat)+kk.toNat) % 4294967296+ww.toNat) % 4294967296=((h+big1 e+chw e f g+kk+ww).toNat:Int):=by
  rw [show bits BinOp.xor IntKind.u32 (e.toNat:Int) 4294967295=((~~~e).toNat:Int) from by
    rw [show (4294967295:Int)=(((BitVec.allOnes 32:Wd).toNat:Nat):Int) from by decide,wd_xor,BitVec.xor_allOnes]]
  rw [wd_xor,wd_xor,wd_and,wd_and,wd_xor]
  unfold big1 chw
  rw [BitVec.toNat_add,BitVec.toNat_add,BitVec.toNat_add,BitVec.toNat_add]
  omega
def stR (l:List Wd) (rest:List Value):Array Value:=(l.map wv++rest).toArray
theorem stR_word (l:List Wd) (rest:List Value) (k:Nat) (x:Wd) (h:l[k]?=some x):(stR l rest)[k]?=some (.int .u32 x.toNat):=by
  have hk:k<l.length:=(List.getElem?_eq_some_iff.1 h).1
  unfold stR
  rw [List.getElem?_toArray,List.getElem?_append_left (by simpa using hk),List.getElem?_map,h];rfl
theorem stR_set (l:List Wd) (rest:List Value) (k:Nat) (x:Wd) (h:k<l.length):(stR l rest).setIfInBounds k (wv x)=stR (l.set k x) rest:=by
  unfold stR
  rw [List.setIfInBounds_toArray,List.set_append_left _ _ (by simpa using h),List.map_set]
theorem stR_obj (l:List Wd) (rest:List Value) (k:Nat) (x:Wd) (h:k<l.length):Obj.cells ((stR l rest).setIfInBounds k (wv x)) 40 (0,0)=Obj.cells (stR (l.set k x) rest) 40 (0,0):=by rw [stR_set _ _ _ _ h]
theorem stR_of {cur:Array Value} {l:List Wd} (h:cur.toList.take 8=l.map wv):cur=stR l (cur.toList.drop 8):=by
  unfold stR
  rw [←h,List.take_append_drop]
def vPart (s:V8) (i:Nat):Array Value:=((s.list.take i).map wv++List.replicate (8 - i) (Value.int .u32 0)).toArray
theorem vPart_set (s:V8) (i:Nat) (x:Wd) (h:s.list[i]?=some x):(vPart s i).setIfInBounds i (wv x)=vPart s (i+1):=by
  have hi:i<8:=(List.getElem?_eq_some_iff.1 h).1
  have:i=0∨i=1∨i=2∨i=3∨i=4∨i=5∨i=6∨i=7:=by omega
  rcases this with rfl | rfl | rfl | rfl | rfl | rfl | rfl | rfl <;> (injection h with h;subst h;rfl)
theorem vPart_size (s:V8) (i:Nat) (h:i≤8):(vPart s i).size=8:=by
  simp [vPart,V8.list];omega
def vShift (V:V8) (k:Nat):Array Value:=((V.list.take (k+1)++(V.list.drop k).take (7 - k)).map wv).toArray
theorem vShift_set (V:V8) (k:Nat) (h:k<7):∃ x,V.list[k]?=some x∧(vShift V (k+1))[k]?=some (wv x)∧(vShift V (k+1)).setIfInBounds (k+1) (wv x)=vShift V k:=by
  have:k=0∨k=1∨k=2∨k=3∨k=4∨k=5∨k=6:=by omega
  rcases this with rfl | rfl | rfl | rfl | rfl | rfl | rfl <;> exact ⟨_,rfl,rfl,rfl⟩
theorem kV_at (t:Nat) (h:t<64):(kV 64)[t]?=some (.int .u32 (kAt t).toNat):=by
  have hl:∀ x∈kTab,x<4294967296:=by decide
  obtain ⟨x,hx⟩:∃ x,kTab[t]?=some x:=⟨_,List.getElem?_eq_getElem (by rw [kTab_len];exact h)⟩
  unfold kV kAt
  rw [List.take_of_length_le (by rw [kTab_len];exact Nat.le_refl _),List.getElem?_map,hx,List.getD_eq_getElem?_getD,hx]
  have:=hl x (List.mem_of_getElem? hx)
  simp only [Option.map_some,Option.getD_some,BitVec.toNat_ofNat]
  rw [Nat.mod_eq_of_lt this]

set_option maxHeartbeats 4000000 in
set_option maxRecDepth 100000 in
theorem rsum_any (b:List UInt8) (v:Value) (w:World) (hv:BytesOff w.heap.size w v b) (hz:∀ cap,v=.slice none 0 cap→cap=0) (hm:b.length≤1048576) :
    Calls Tryz.prog 224 #[v] w fun e w'=>e=.returned (hashV (shaL b))∧Ext w w':=by
  have HV:=Lib.hid hv
  have HPR:=fun w=>Lib.hid (rprimes_any w)
  have HCU:=fun p h w=>Lib.hid (rcube_any p h w)
  have HSQ:=fun p h w=>Lib.hid (rsquare_any p h w)
  have HKS:=fun i h=>Lib.hid (kV_step i h)
  have HSS:=fun i h=>Lib.hid (sV_step i h)
  have HPA:=fun w h=>Lib.hid (rpadded_any b v w h hz hm)
  clear hv
  go_enter Tryz.func224,Tryz.ntmps224
  go_wp2_with fail
  refine (HPR _).out.mono ?_
  rintro e w1 ⟨pv,rfl,hpc,hx1⟩
  obtain ⟨gp,capp,rfl,_,_,hgp,hpcell⟩:=hpc.some 64 (by rw [List.length_map];exact primes_all) (by decide)
  have HPC:=Lib.hid hpcell
  have HX1:=Lib.hid (((Ext.refl w).alloc _).trans hx1)
  have HB0:=Lib.hid (show w1.heap[w.heap.size]?=some (.cells (hArr [] 0) 54 (0,0)) from (hx1.block (by simp)).trans (heap_alloc_new w _))
  clear hpc hx1 hpcell
  go_wp2_with fail
  go_loopw [5,6] (fun kv iv wr=>Hid (∃ i:Nat,i≤64∧iv=.int .i64 i∧wr.ownsRow w1.heap.size 40 1 kv i (kV i)∧Ext w1 wr)) (fun _ iv _=>64 - (intOf iv).toNat)
  case atStart=>exact ⟨0,by omega,rfl,World.ownsRow_nil _ _ _ _,Ext.refl _⟩
  case round =>
    obtain ⟨i,hi,rfl,ho,hx⟩:=hrel.out
    clear hrel
    have HX:=Lib.hid hx
    have HO:=Lib.hid ho
    have hs:=hx.size
    by_cases hlt:i<64
    · obtain ⟨a0,cap0,rfl⟩:=owns_slice ho
      clear ho hx
      obtain ⟨p,hp,hp4,hst⟩:=(HKS i hlt).out
      have HST:=Lib.hid hst
      have hc:wr.cell? ⟨gp,i,none⟩=some (.int .u64 p):=by
        have h9:w1.cell? ⟨gp,i,none⟩=some (.int .u64 p):=HPC.out i _ (by rw [List.getElem?_map,hp];rfl)
        exact (HX.out.cell (lt_of_cell h9)).trans h9
      obtain ⟨q,hq⟩:∃ q,q=cubeN p % 4294967296:=⟨_,rfl⟩
      have HC:=Lib.hid (HCU p hp4 wr).out
      rw [←hq] at HST HC
      clear hst hp hq
      go_wp2_with fail
      refine HC.out.mono ?_
      rintro e w2 ⟨rfl,rfl⟩
      go_wp2_with (at_builtin;refine append_one elU32 w1.heap.size _ _ _ (HO.out.alloc _) w2.heap.size (.int .u32 q) (.tmp 32) (.tmp 34) rfl rfl rfl rfl ?c1 rfl (by omega) ?c2 ?_)
      case c1=>rw [cell_alloc_new rfl];rfl
      case c2=>simp;omega
      intro v' w3 hown3 hg3 _
      have HX3:=Lib.hid (ext_own (HX.out.alloc _) (Nat.le_refl _) (HO.out.alloc _) hg3)
      go_wp2_with fail
      go_roundw
      case rel=>exact ⟨i+1,by omega,by go_num,by rw [HST.out];exact hown3,HX3.out⟩
      case measure=>simp [intOf];omega
    · have e64:i=64:=by omega
      have ho64:wr.ownsRow w1.heap.size 40 1 u5 64 (kV 64):=e64▸ho
      obtain ⟨gk,capk,rfl,_,_,hgk,_,hkcell⟩:=owns_cell ho64 (by decide)
      have HKC:=Lib.hid hkcell
      have HI:=Lib.hid e64
      obtain ⟨wa,rfl⟩:∃ x,x=wr:=⟨_,rfl⟩
      have HXA:=Lib.hid (HX1.out.trans HX.out)
      have d64:decide ((i:Int)<64)=false:=by simp;omega
      clear ho hx ho64 hkcell e64 HO
      go_wp2_with fail
      go_loopw [4,8] (fun sv iv wr=>Hid (∃ i:Nat,i≤8∧iv=.int .i64 i∧wr.ownsRow wa.heap.size 40 1 sv i (sV i)∧Ext wa wr)) (fun _ iv _=>8 - (intOf iv).toNat)
      case atStart=>exact ⟨0,by omega,rfl,World.ownsRow_nil _ _ _ _,Ext.refl _⟩
      case round =>
        obtain ⟨i2,hi2,rfl,ho,hx⟩:=hrel.out
        clear hrel
        have HX2:=Lib.hid hx
        have HO:=Lib.hid ho
        have hs:=hx.size
        by_cases hlt2:i2<8
        · obtain ⟨a0,cap0,rfl⟩:=owns_slice ho
          clear ho hx
          obtain ⟨p,hp,hp4,hst⟩:=(HSS i2 hlt2).out
          have HST:=Lib.hid hst
          have hc:wr.cell? ⟨gp,i2,none⟩=some (.int .u64 p):=by
            have h9:w1.cell? ⟨gp,i2,none⟩=some (.int .u64 p):=HPC.out i2 _ (by rw [List.getElem?_map,hp];rfl)
            exact ((HX.out.trans HX2.out).cell (lt_of_cell h9)).trans h9
          obtain ⟨q,hq⟩:∃ q,q=squareN p % 4294967296:=⟨_,rfl⟩
          have HC:=Lib.hid (HSQ p hp4 wr).out
          rw [←hq] at HST HC
          clear hst hp hq
          go_wp2_with fail
          refine HC.out.mono ?_
          rintro e w2 ⟨rfl,rfl⟩
          go_wp2_with (at_builtin;refine append_one elU32 wa.heap.size _ _ _ (HO.out.alloc _) w2.heap.size (.int .u32 q) (.tmp 45) (.tmp 47) rfl rfl rfl rfl ?c1 rfl (by omega) ?c2 ?_)
          case c1=>rw [cell_alloc_new rfl];rfl
          case c2=>simp;omega
          intro v' w3 hown3 hg3 _
          have HX3:=Lib.hid (ext_own (HX2.out.alloc _) (Nat.le_refl _) (HO.out.alloc _) hg3)
          go_wp2_with fail
          go_roundw
          case rel=>exact ⟨i2+1,by omega,by go_num,by rw [HST.out];exact hown3,HX3.out⟩
          case measure=>simp [intOf];omega
        · have e8:i2=8:=by omega
          have ho8:wr.ownsRow wa.heap.size 40 1 u4 8 (sV 8):=e8▸ho
          obtain ⟨gs,caps,cur,rfl,hgs1,hgs2,hcap1,hcap2,hcs,htk⟩:∃ g cap cur,u4=.slice (some ⟨g,0,none⟩) 8 cap∧wa.heap.size≤g∧wr.heap[g]?=some (.cells cur 40 (0,0))∧8≤cap∧cap≤maxLen∧cur.size=cap*1∧cur.toList.take (8*1)=sV 8:=by
            rcases ho8.2 with ⟨_,h⟩ | h
            · omega
            · exact h
          obtain ⟨wb,rfl⟩:∃ x,x=wr:=⟨_,rfl⟩
          have d8:decide ((i2:Int)<8)=false:=by simp;omega
          have HGS:=Lib.hid hgs2
          have HTK:=Lib.hid (show cur.toList.take 8=(first8.list).map wv from htk)
          have HXB:=Lib.hid (HXA.out.trans HX2.out)
          have HKB:=Lib.hid (fun (j:Nat) u (h:(kV 64)[j]?=some u)=>show wb.cell? ⟨gk,j,none⟩=some u from (HX2.out.cell hgk).trans (HKC.out j u h))
          have HB1:=Lib.hid (((HX.out.trans HX2.out).block (ltB HB0.out)).trans HB0.out)
          have HE8:=Lib.hid e8
          clear ho hx ho8 hgs2 htk e8 HO
          go_wp2_with fail
          refine (HPA wb (bytesOff_any HV.out HXB.out HXB.out.size)).out.mono ?_
          rintro e wc ⟨qv,rfl,hqc,hxc⟩
          obtain ⟨W,hW⟩:∃ W,W=padded b:=⟨_,rfl⟩
          obtain ⟨hw1,hw2,hw3⟩:=padded_len b
          have hsha:shaL b=((digN W (W.length / 64)).list.map outB).flatten:=by rw [hW];rfl
          rw [←hW] at hqc hw1 hw2 hw3
          obtain ⟨nb,hnb⟩:∃ nb,nb=W.length / 64:=⟨_,rfl⟩
          have hWl:W.length=64*nb:=by omega
          obtain ⟨gq,capq,rfl,hq1,hq2,hgq,hqcell⟩:=hqc.some (64*nb) (by rw [List.length_map];exact hWl) (by omega)
          rw [←hnb] at hsha
          have HSHA:=Lib.hid hsha
          have hnb2:nb≤16386:=by omega
          have hnb1:0<nb:=by omega
          have HWL:=Lib.hid hWl
          have HWC:=Lib.hid hqcell
          have HSC:=Lib.hid ((hxc.block (ltB HGS.out)).trans HGS.out)
          have HXC:=Lib.hid (HXB.out.trans hxc)
          have hgsq:gq≠gs:=by
            intro e
            subst e
            obtain ⟨x,hx⟩:∃ x,W[0]?=some x:=⟨_,List.getElem?_eq_getElem (by omega)⟩
            have h1:=hqcell 0 (bv x) (by rw [List.getElem?_map,hx];rfl)
            have h2:=(cellB (k:=0) HSC.out).symm.trans h1
            have h3:=congrArg (fun l=>l[0]?) HTK.out
            rw [List.getElem?_take,if_pos (by decide),Array.getElem?_toList,h2] at h3
            cases h3
          have hgsk:gk≠gs:=by omega
          have HKC2:=Lib.hid (fun (j:Nat) u (h:(kV 64)[j]?=some u)=>show wc.cell? ⟨gk,j,none⟩=some u from (hxc.cell (lt_of_cell (HKB.out j u h))).trans (HKB.out j u h))
          have HB2:=Lib.hid ((hxc.block (ltB HB1.out)).trans HB1.out)
          obtain ⟨rest,hrest⟩:∃ r,r=cur.toList.drop 8:=⟨_,rfl⟩
          have HS0:=Lib.hid (show wc.heap[gs]?=some (.cells (stR (digN W 0).list rest) 40 (0,0)) from by rw [HSC.out,hrest];exact congrArg (fun a=>some (Obj.cells a 40 (0,0))) (stR_of HTK.out))
          have hgs0:gs≠w.heap.size:=by
            have:=ltB HB0.out;have:=HX.out.size;omega
          clear hsha hW hnb hqc hqcell hxc hrest HSC HTK HGS HKB HB1 hw1 hw2 hw3 hWl
          go_wp2_with fail
          go_loopw [11] (fun iv wr=>Hid (∃ j:Nat,j≤nb∧iv=.int .i64 (64*j:Nat)∧Touch gs wc wr∧wr.heap[gs]?=some (.cells (stR (digN W j).list rest) 40 (0,0)))) (fun iv _=>64*nb - (intOf iv).toNat)
          case atStart=>exact ⟨0,by omega,rfl,Touch.of (Ext.refl _),HS0.out⟩
          case round =>
            obtain ⟨j,hj,rfl,ht,hst⟩:=hrel.out
            clear hrel HS0
            have HT:=Lib.hid ht
            have HST:=Lib.hid hst
            clear ht hst
            by_cases hltj:j<nb
            · have HWR:=fun r o cap h1 h2=>Lib.hid (rwords_any r gq o cap wr h1 h2)
              have hrl:((W.drop (64*j)).take 64).length=64:=by rw [List.length_take,List.length_drop,HWL.out];omega
              have HW1:=Lib.hid (HWR ((W.drop (64*j)).take 64) (64*j) (capq - 64*j) hrl (fun k x hk=>by
                have h64:k<64:=by have:=(List.getElem?_eq_some_iff.1 hk).1;omega
                rw [List.getElem?_take,if_pos h64,List.getElem?_drop] at hk
                have h1:=HWC.out (64*j+k) (bv x) (by rw [List.getElem?_map,hk];rfl)
                exact (cellT HT.out hgsq (lt_of_cell h1)).trans h1)).out
              have hsl1:(0:Int)≤64*(j:Int):=by omega
              have hsl2:64*(j:Int)≤64*(j:Int)+64:=by omega
              have hsl3:64*(j:Int)+64≤capq:=by omega
              clear HWR
              obtain ⟨r,hr⟩:∃ r,r=(W.drop (64*j)).take 64:=⟨_,rfl⟩
              have HD:=Lib.hid (show comp (digN W j) r=digN W (j+1) from by rw [hr];rfl)
              rw [←hr] at HW1
              obtain ⟨s,hs⟩:∃ s,s=digN W j:=⟨_,rfl⟩
              rw [←hs] at HD HST
              clear hr hrl hs
              go_wp2_with fail
              refine HW1.out.mono ?_
              rintro e wd ⟨wvv,rfl,hwc,hxd⟩
              obtain ⟨gw,capw,rfl,_,_,hgw,hwcell⟩:=hwc.some 64 (by rw [List.length_map,wordsL_len]) (by decide)
              have HWC2:=Lib.hid (fun (k:Nat) (h:k<64)=>show wd.cell? ⟨gw,k,none⟩=some (.int .u32 ((wordsL r 64).getD k 0).toNat) from hwcell k _ (by
                rw [List.getElem?_map,List.getD_eq_getElem?_getD,wordsL_at r 64 k h];rfl))
              have HKD:=Lib.hid (fun (k:Nat) (h:k<64)=>show wd.cell? ⟨gk,k,none⟩=some (.int .u32 (kAt k).toNat) from by
                have h1:=HKC2.out k _ (kV_at k h)
                have h2:=(cellT HT.out hgsk (lt_of_cell h1)).trans h1
                exact (hxd.cell (lt_of_cell h2)).trans h2)
              have HTD:=Lib.hid (HT.out.trans (Touch.of hxd))
              have HSD:=Lib.hid ((hxd.block (ltB HST.out)).trans HST.out)
              have hgsd:gs<wd.heap.size:=ltB HSD.out
              clear hwc hxd hwcell HT HST HW1
              go_wp2_with fail
              go_loopw [14] (fun iv wr=>Hid (∃ i:Nat,i≤8∧iv=.int .i64 i∧Ext wd wr∧wr.heap[wd.heap.size]?=some (.cells (vPart s i) 292 (0,0)))) (fun iv _=>8 - (intOf iv).toNat)
              case atStart=>exact ⟨0,by omega,rfl,(Ext.refl wd).alloc _,heap_alloc_new _ _⟩
              case round =>
                obtain ⟨i4,hi4,rfl,hx4,hv4⟩:=hrel.out
                clear hrel
                have HX4:=Lib.hid hx4
                have HV4:=Lib.hid hv4
                have HS4:=Lib.hid ((hx4.block (ltB HSD.out)).trans HSD.out)
                by_cases hlt4:i4<8
                · obtain ⟨x,hx⟩:∃ x,s.list[i4]?=some x:=⟨_,List.getElem?_eq_getElem (by show i4<8;exact hlt4)⟩
                  have cs4:wr.cell? ⟨gs,i4,none⟩=some (.int .u32 x.toNat):=(cellB HS4.out).trans (stR_word _ _ i4 x hx)
                  have cv4:wr.cell? ⟨wd.heap.size,i4,none⟩=(vPart s i4)[i4]?:=cellB hv4
                  obtain ⟨old,hold⟩:∃ o,(vPart s i4)[i4]?=some o:=⟨_,Array.getElem?_eq_getElem (by rw [vPart_size _ _ hi4];exact hlt4)⟩
                  rw [hold] at cv4
                  have cf4:wr.frozen? ⟨wd.heap.size,i4,none⟩=false:=frozenB hv4
                  have HSET:=Lib.hid (vPart_set s i4 x hx)
                  clear hx hold hx4 hv4
                  go_wp2_with fail
                  refine ⟨⟨i4+1,by omega,by go_num,HX4.out.setCell (Nat.le_refl _) _,?_⟩,by simp [intOf];omega⟩
                  rw [setCellB HV4.out];exact congrArg (fun a=>some (Obj.cells a 292 (0,0))) HSET.out
                · have e8:i4=8:=by omega
                  have HVE:=Lib.hid (show wr.heap[wd.heap.size]?=some (vObj s) from by rw [HV4.out,e8];rfl)
                  have d8':decide ((i4:Int)<8)=false:=by simp;omega
                  clear e8 hx4 hv4 HV4
                  obtain ⟨we,rfl⟩:∃ x,x=wr:=⟨_,rfl⟩
                  go_wp2_with fail
                  go_loopw [15] (fun iv wr=>Hid (∃ t:Nat,t≤64∧iv=.int .i64 t∧Ext wd wr∧wr.heap[wd.heap.size]?=some (vObj (rounds s (wordsL r 64) t)))) (fun iv _=>64 - (intOf iv).toNat)
                  case atStart=>exact ⟨0,by omega,rfl,HX4.out,HVE.out⟩
                  case round =>
                    obtain ⟨t,ht5,rfl,hx5,hv5⟩:=hrel.out
                    clear hrel HX4 HVE
                    have HX5:=Lib.hid hx5
                    have HV5:=Lib.hid hv5
                    by_cases hlt5:t<64
                    · obtain ⟨V,gV⟩:∃ V,V=rounds s (wordsL r 64) t:=⟨_,rfl⟩
                      obtain ⟨kk,gk'⟩:∃ x,x=kAt t:=⟨_,rfl⟩
                      obtain ⟨ww,gw'⟩:∃ x,x=(wordsL r 64).getD t 0:=⟨_,rfl⟩
                      rw [←gV] at hv5 HV5
                      have HR:=Lib.hid (show rnd V kk ww=rounds s (wordsL r 64) (t+1) from by rw [gV,gk',gw'];rfl)
                      have ck:∀ v:After wr,v.v.cell? ⟨gk,t,none⟩=some (.int .u32 kk.toNat):=fun v=>by
                        have h1:=HKD.out t hlt5
                        rw [←gk'] at h1
                        exact After.cell ((hx5.cell (lt_of_cell h1)).trans h1) v
                      have cw:∀ v:After wr,v.v.cell? ⟨gw,t,none⟩=some (.int .u32 ww.toNat):=fun v=>by
                        have h1:=HWC2.out t hlt5
                        rw [←gw'] at h1
                        exact After.cell ((hx5.cell (lt_of_cell h1)).trans h1) v
                      clear gV gk' gw'
                      have c0:∀ v:After wr,v.v.cell? ⟨wd.heap.size,0,none⟩=some (.int .u32 V.a.toNat):=After.at hv5
                      have c1:∀ v:After wr,v.v.cell? ⟨wd.heap.size,1,none⟩=some (.int .u32 V.b.toNat):=After.at hv5
                      have c2:∀ v:After wr,v.v.cell? ⟨wd.heap.size,2,none⟩=some (.int .u32 V.c.toNat):=After.at hv5
                      have c4:∀ v:After wr,v.v.cell? ⟨wd.heap.size,4,none⟩=some (.int .u32 V.e.toNat):=After.at hv5
                      have c5:∀ v:After wr,v.v.cell? ⟨wd.heap.size,5,none⟩=some (.int .u32 V.f.toNat):=After.at hv5
                      have c6:∀ v:After wr,v.v.cell? ⟨wd.heap.size,6,none⟩=some (.int .u32 V.g.toNat):=After.at hv5
                      have c7:∀ v:After wr,v.v.cell? ⟨wd.heap.size,7,none⟩=some (.int .u32 V.h.toNat):=After.at hv5
                      clear hv5 hx5
                      go_wp2_with fail
                      refine wp_region_after (by kernel_rfl) (by kernel_rfl) ?_
                      repeat (go_big_quiet_step ((go_at_call 281;exact After.same (rturned_ok _ _ _ rfl))))
                      refine wpQuiet_nil ?_;rintro _ ⟨y,rfl⟩
                      go_wp2_with fail
                      refine wp_region_after0 y (by kernel_rfl) (by kernel_rfl) ?_
                      repeat (go_big_quiet_step ((go_at_call 281;exact After.same (rturned_ok _ _ _ rfl))))
                      refine wpQuiet_nil ?_;rintro _ ⟨y2,rfl⟩
                      go_wp2_with fail
                      rw [xq_eq,yr_eq]
                      obtain ⟨X,gX⟩:∃ X,X=V.h+big1 V.e+chw V.e V.f V.g+kk+ww:=⟨_,rfl⟩
                      obtain ⟨Y,gY⟩:∃ Y,Y=big0 V.a+mjw V.a V.b V.c:=⟨_,rfl⟩
                      rw [←gX,←gY]
                      have HQ:=Lib.hid (show (⟨X+Y,V.a,V.b,V.c,V.d+X,V.e,V.f,V.g⟩:V8)=rounds s (wordsL r 64) (t+1) from by rw [←HR.out,gX,gY];rfl)
                      have HX6:=Lib.hid (HX5.out.trans y2.x)
                      have HV6:=Lib.hid ((y2.x.block (ltB HV5.out)).trans HV5.out)
                      have d64t:decide ((t:Int)<64)=true:=by simp;omega
                      clear gX gY c0 c1 c2 c4 c5 c6 c7 ck cw
                      obtain ⟨y2v,y2x⟩:=y2
                      go_loopw [18] (fun iv wr=>Hid (∃ k:Nat,k≤7∧iv=.int .i64 k∧Ext wd wr∧wr.heap[wd.heap.size]?=some (.cells (vShift V k) 292 (0,0)))) (fun iv _=>(intOf iv).toNat)
                      case atStart=>exact ⟨7,by omega,rfl,HX6.out,HV6.out⟩
                      case round =>
                        obtain ⟨k,hk,rfl,hx7,hv7⟩:=hrel.out
                        clear hrel HX6 HV6
                        have HX7:=Lib.hid hx7
                        have HV7:=Lib.hid hv7
                        match k,hk,hv7,HV7 with
                        | 0,_,hv7,HV7 =>
                          have c4:wr.cell? ⟨wd.heap.size,4,none⟩=some (.int .u32 V.d.toNat):=cellB hv7
                          have c0:wr.cell? ⟨wd.heap.size,0,none⟩=some (.int .u32 V.a.toNat):=cellB hv7
                          have f4:wr.frozen? ⟨wd.heap.size,4,none⟩=false:=frozenB hv7
                          have f0:wr.frozen? ⟨wd.heap.size,0,none⟩=false:=frozenB hv7
                          clear hx7 hv7
                          obtain ⟨wf,rfl⟩:∃ x,x=wr:=⟨_,rfl⟩
                          go_wp2_with fail
                          refine ⟨⟨t+1,by omega,by go_num,(HX7.out.setCell (Nat.le_refl _) _).setCell (Nat.le_refl _) _,?_⟩,by simp [intOf];omega⟩
                          rw [setCellB (setCellB HV7.out),←HQ.out,wd_add,wd_add];rfl
                        | c+1,hk,hv7,HV7 =>
                          obtain ⟨x,hxv,hxc,hset⟩:=vShift_set V c (by omega)
                          have c1:wr.cell? ⟨wd.heap.size,c,none⟩=some (.int .u32 x.toNat):=(cellB hv7).trans hxc
                          have hold:∃ o,(vShift V (c+1))[c+1]?=some o:=by
                            have:c=0∨c=1∨c=2∨c=3∨c=4∨c=5∨c=6:=by omega
                            rcases this with rfl | rfl | rfl | rfl | rfl | rfl | rfl <;> exact ⟨_,rfl⟩
                          obtain ⟨old,hold⟩:=hold
                          have c2:wr.cell? ⟨wd.heap.size,c+1,none⟩=some old:=(cellB hv7).trans hold
                          have cf:wr.frozen? ⟨wd.heap.size,c+1,none⟩=false:=frozenB hv7
                          have HSET:=Lib.hid hset
                          clear hxv hxc hset hold hx7 hv7
                          go_wp2_with fail
                          refine ⟨⟨c,by omega,by go_num,HX7.out.setCell (Nat.le_refl _) _,?_⟩,by simp [intOf]⟩
                          rw [setCellB HV7.out];exact congrArg (fun a=>some (Obj.cells a 292 (0,0))) HSET.out
                    · have e64:t=64:=by omega
                      have HV64:=Lib.hid (e64▸HV5.out)
                      have d64t:decide ((t:Int)<64)=false:=by simp;omega
                      obtain ⟨wg,rfl⟩:∃ x,x=wr:=⟨_,rfl⟩
                      obtain ⟨V,gV⟩:∃ V,V=rounds s (wordsL r 64) 64:=⟨_,rfl⟩
                      have HVG:=Lib.hid (show wg.heap[wd.heap.size]?=some (vObj V) from by rw [gV];exact HV64.out)
                      have HFIN:=Lib.hid (show s.add V=digN W (j+1) from by rw [gV,←HD.out];rfl)
                      have HSG:=Lib.hid ((hx5.block (ltB HSD.out)).trans HSD.out)
                      have HTG:=Lib.hid (HTD.out.trans (Touch.of hx5))
                      have hne:wd.heap.size≠gs:=by omega
                      clear gV HV64 HV5 hv5 hx5 e64 HX5 HD HKD HWC2
                      go_wp2_with fail
                      go_loopw [19] (fun iv wr=>Hid (∃ k:Nat,k≤8∧iv=.int .i64 k∧Touch gs wg wr∧wr.heap[gs]?=some (.cells (stR (mixL (s.add V).list s.list k) rest) 40 (0,0)))) (fun iv _=>8 - (intOf iv).toNat)
                      case atStart=>exact ⟨0,by omega,rfl,Touch.of (Ext.refl wg),HSG.out⟩
                      case round =>
                        obtain ⟨k3,hk3,rfl,ht3,hs3⟩:=hrel.out
                        clear hrel
                        have HT3:=Lib.hid ht3
                        have HS3:=Lib.hid hs3
                        have hv3:wr.heap[wd.heap.size]?=some (vObj V):=(ht3.block _ (ltB HVG.out) (fun e=>hne (Option.some.inj e))).trans HVG.out
                        by_cases hlt3:k3<8
                        · obtain ⟨x,hx⟩:∃ x,s.list[k3]?=some x:=⟨_,List.getElem?_eq_getElem (by show k3<8;exact hlt3)⟩
                          obtain ⟨y,hy⟩:∃ x,V.list[k3]?=some x:=⟨_,List.getElem?_eq_getElem (by show k3<8;exact hlt3)⟩
                          have hxy:(s.add V).list[k3]?=some (x+y):=by
                            rw [show (s.add V).list=List.zipWith (·+·) s.list V.list from rfl,List.getElem?_zipWith,hx,hy]
                          have c1:∀ v:After wr,v.v.cell? ⟨gs,k3,none⟩=some (.int .u32 x.toNat):=fun v=>(After.at hs3 v).trans (stR_word _ _ k3 x (by rw [mixL_at _ _ _ rfl hlt3];exact hx))
                          have c2:∀ v:After wr,v.v.cell? ⟨wd.heap.size,k3,none⟩=some (.int .u32 y.toNat):=fun v=>(After.at hv3 v).trans (by rw [show V.get=(V.list.map wv).toArray from rfl,List.getElem?_toArray,List.getElem?_map,hy];rfl)
                          have cf:∀ v:After wr,v.v.frozen? ⟨gs,k3,none⟩=false:=fun v=>After.free hs3 v
                          obtain ⟨z,gz⟩:∃ z,z=x+y:=⟨_,rfl⟩
                          have HA:=Lib.hid (wd_add x y)
                          rw [←gz] at HA hxy
                          have HM:=Lib.hid (mixL_set (s.add V).list s.list k3 z rfl rfl hlt3 hxy)
                          have HL:=Lib.hid (mixL_len (s.add V).list s.list k3 rfl rfl hk3)
                          clear gz hx hy hxy hs3 hv3 ht3
                          go_wp2_with fail
                          refine wp_region_after_tail 11 (by kernel_rfl) (by kernel_rfl) ?_;simp only [List.take_succ_cons,List.take_zero,List.drop_succ_cons,List.drop_zero]
                          repeat (go_big_quiet_step (fail))
                          refine wpQuiet_nil ?_;rintro _ ⟨y3,rfl⟩
                          rw [HA.out]
                          have HY:=Lib.hid y3.x
                          go_wp2_with fail
                          go_roundw
                          case rel=>exact ⟨k3+1,by omega,by go_num,(HT3.out.trans (Touch.of HY.out)).setCell _,by rw [setCellB ((HY.out.block (ltB HS3.out)).trans HS3.out),←HM.out,←stR_obj _ _ _ _ (by rw [HL.out];exact hlt3)];rfl⟩
                          case measure=>simp [intOf];omega
                        · have e8:k3=8:=by omega
                          have HS8:=Lib.hid (show wr.heap[gs]?=some (.cells (stR (digN W (j+1)).list rest) 40 (0,0)) from by rw [hs3,e8,←HFIN.out];rfl)
                          clear e8 hs3 ht3 hv3
                          go_wp2_with fail
                          refine ⟨⟨j+1,by omega,by go_num,HTG.out.trans HT3.out,HS8.out⟩,by simp [intOf];omega⟩
            · have ej:j=nb:=by omega
              have HSZ:=Lib.hid (show wr.heap[gs]?=some (.cells (stR (digN W nb).list rest) 40 (0,0)) from by rw [HST.out,ej])
              have HBZ:=Lib.hid ((HT.out.block _ (ltB HB2.out) (fun e=>hgs0 (Option.some.inj e).symm)).trans HB2.out)
              have HXZ:=Lib.hid (HT.out.fresh HXC.out (by have:=HXA.out.size;omega))
              have hout:=sha_word (digN W nb)
              have hol:((digN W nb).list.map outB).flatten.length=32:=by simp [V8.list,outB]
              obtain ⟨out,hO⟩:∃ o,o=((digN W nb).list.map outB).flatten:=⟨_,rfl⟩
              rw [←hO] at HSHA hout hol
              obtain ⟨S,hS⟩:∃ S,S=digN W nb:=⟨_,rfl⟩
              rw [←hS] at HSZ hout
              have HOUT:=Lib.hid hout
              have HOL:=Lib.hid hol
              have dlt:decide (64*(j:Int)<64*(nb:Int))=false:=by simp;omega
              clear hO hS hout hol ej HST
              obtain ⟨wz,rfl⟩:∃ x,x=wr:=⟨_,rfl⟩
              go_wp2_with fail
              go_loopw [21] (fun iv wr=>Hid (∃ i:Nat,i≤32∧iv=.int .i64 i∧Ext wz wr∧wr.heap[wz.heap.size]?=some (hObj out i))) (fun iv _=>32 - (intOf iv).toNat)
              case atStart=>exact ⟨0,by omega,rfl,(Ext.refl wz).alloc _,heap_alloc_new _ _⟩
              case round =>
                obtain ⟨i8,hi8,rfl,hx8,hh8⟩:=hrel.out
                clear hrel
                have HX8:=Lib.hid hx8
                have HH8:=Lib.hid hh8
                by_cases hlt8:i8<32
                · obtain ⟨q,hq⟩:∃ q,q=i8 / 4:=⟨_,rfl⟩
                  obtain ⟨k,hk⟩:∃ k,k=i8 % 4:=⟨_,rfl⟩
                  have hik:i8=4*q+k:=by omega
                  have hk4:k<4:=by omega
                  have hq8:q<8:=by omega
                  obtain ⟨x,hx⟩:∃ x,S.list[q]?=some x:=⟨_,List.getElem?_eq_getElem (by show q<8;exact hq8)⟩
                  have hb:=HOUT.out q k x hx hk4
                  rw [←hik] at hb
                  obtain ⟨b,hbb⟩:∃ b,b=byteOf (x.toNat / 2 ^ (24 - 8*k)):=⟨_,rfl⟩
                  rw [←hbb] at hb
                  have HBV:=Lib.hid (show (x.toNat:Int) / 2 ^ (24 - 8*k) % 256=(b.toNat:Int) from by
                    rw [hbb]
                    unfold byteOf
                    rw [UInt8.toNat_ofNat',show (2:Int) ^ (24 - 8*k)=((2 ^ (24 - 8*k):Nat):Int) from (Int.natCast_pow 2 _).symm]
                    generalize 2 ^ (24 - 8*k)=d
                    rw [←Int.natCast_ediv]
                    omega)
                  have cs8:wr.cell? ⟨gs,q,none⟩=some (.int .u32 x.toNat):=(cellB ((hx8.block (ltB HSZ.out)).trans HSZ.out)).trans (stR_word _ _ q x hx)
                  obtain ⟨old,hold⟩:=hArr_at out i8 i8 HOL.out (by omega) hlt8
                  have ch8:wr.cell? ⟨wz.heap.size,i8,none⟩=some old:=(cellB hh8).trans hold
                  have cf8:wr.frozen? ⟨wz.heap.size,i8,none⟩=false:=frozenB hh8
                  have d1:(i8:Int) / 4=(q:Int):=by omega
                  have d2:(i8:Int) % 4=(k:Int):=by omega
                  have HSET:=Lib.hid (fun val hv=>hObj_set out i8 b val hb HOL.out hv)
                  clear hq hk hik hx hb hbb hold hx8 hh8
                  go_wp2_with fail
                  refine ⟨⟨i8+1,by omega,by go_num,HX8.out.setCell (Nat.le_refl _) _,?_⟩,by simp [intOf];omega⟩
                  rw [setCellB HH8.out];exact congrArg some (HSET.out _ HBV.out)
                · have e32:i8=32:=by omega
                  have HHE:=Lib.hid (show wr.heap[wz.heap.size]?=some (.cells (hArr out 32) 54 (0,0)) from by rw [hh8,e32];rfl)
                  have HBE:=Lib.hid ((hx8.block (ltB HBZ.out)).trans HBZ.out)
                  have HXE:=Lib.hid (HXZ.out.trans hx8)
                  have HSS:=Lib.hid (hArr_size out 32 HOL.out (by omega))
                  have HONE:=Lib.hid (hArr_one out 32)
                  obtain ⟨H,hH⟩:∃ H,H=hArr out 32:=⟨_,rfl⟩
                  have HFIN:=Lib.hid (show hashV (shaL b)=.agg H from by rw [HSHA.out,hH];rfl)
                  rw [←hH] at HHE HSS HONE
                  have d32:decide ((i8:Int)<32)=false:=by simp;omega
                  clear hH e32 hx8 hh8
                  obtain ⟨wy,rfl⟩:∃ x,x=wr:=⟨_,rfl⟩
                  go_wp2_with (first
                    | (refine wpList_load_row rfl _ _ rfl wz.heap.size rfl 54 H (0,0) _ HHE.out Tryz.underlying54 rfl (by rw [HSS.out];kernel_rfl) ?_;go_frame)
                    | (refine wpList_storeT rfl _ _ _ rfl w.heap.size H rfl rfl 54 _ HBE.out (by rw [HSS.out];kernel_rfl) (by rw [HSS.out];rfl) HONE.out ?_;intro w6 hb6 ht6;have HB6:=Lib.hid hb6;have HT6:=Lib.hid ht6;clear hb6 ht6;go_frame))
                  refine bodyPost_ret (results_cell_row rfl _ _ w.heap.size 54 _ (0,0) _ rfl HB6.out Tryz.underlying54 rfl (by rw [HSS.out];kernel_rfl)) rfl ⟨by rw [HFIN.out],HT6.out.fresh HXE.out (Nat.le_refl _)⟩
end Go.Proofs.YtodickpibbbiiaaGreatDoor

namespace Go.Proofs.YtodickpibbbiiaaGreatDoor
open Go.RowKit

set_option maxRecDepth 100000 in
set_option maxHeartbeats 2000000 in
theorem rsize05_any (n:Int) (w:World) (hlo:-9223372036854775808≤n) (hhi:n≤9223372036854775807) :
    Calls Tryz.prog 156 #[.int .i64 n] w fun e w'=>e=.returned (.int .i64 (sizeZ n))∧Ext w w':=by
  have HS:=Lib.hid (show sizeZ n=if n<0∨4096<n then (0:Int) else ((sizeN n.toNat:Nat):Int) from rfl)
  generalize sizeZ n=S at *
  by_cases h1:n<0
  · have d1:decide (n<0)=true:=decide_eq_true h1
    have HR:=Lib.hid (HS.out.trans (if_pos (.inl h1)))
    go_enter Tryz.func156,Tryz.ntmps156
    go_wp2_with fail
    go_ret
    exact ⟨ret_int HR.out.symm,Ext.refl w⟩
  · have d1:decide (n<0)=false:=decide_eq_false h1
    by_cases h2:4096<n
    · have d2:decide (4096<n)=true:=decide_eq_true h2
      have HR:=Lib.hid (HS.out.trans (if_pos (.inr h2)))
      go_enter Tryz.func156,Tryz.ntmps156
      go_wp2_with fail
      go_ret
      exact ⟨ret_int HR.out.symm,Ext.refl w⟩
    · have d2:decide (4096<n)=false:=decide_eq_false h2
      have HR:=Lib.hid (HS.out.trans (if_neg (by omega)))
      obtain ⟨m,rfl⟩:∃ m:Nat,n=(m:Int):=⟨n.toNat,by omega⟩
      have hm:m≤4096:=by omega
      have hsp:=Lib.hid (sizeN_spec m)
      have HR2:=Lib.hid (show S=(sizeN m:Nat) from by rw [HR.out];simp)
      generalize sizeN m=z at *
      clear HR HS h1 h2 hlo hhi
      have HB:=Lib.hid (block_alloc_new w (.cells #[.int .i64 16,.int .i64 32,.int .i64 64,.int .i64 128,.int .i64 256] 3 (0,0)))
      have X1:=Lib.hid ((Ext.refl w).alloc (.cells #[.int .i64 16,.int .i64 32,.int .i64 64,.int .i64 128,.int .i64 256] 3 (0,0)))
      go_enter Tryz.func156,Tryz.ntmps156
      go_wp2_with fail
      generalize w.alloc (.cells #[.int .i64 16,.int .i64 32,.int .i64 64,.int .i64 128,.int .i64 256] 3 (0,0))=w1 at *
      go_loopw [4] (fun iv wr=>Hid (∃ i:Nat,i≤3∧iv=.int .i64 i∧wr=w1∧(1≤i→512<m)∧(2≤i→1024<m)∧(3≤i→2048<m))) (fun iv _=>5 - (intOf iv).toNat)
      case atStart=>exact ⟨0,by omega,rfl,rfl,by omega,by omega,by omega⟩
      case round =>
        obtain ⟨i,hi,rfl,rfl,k1,k2,k3⟩:=hrel.out
        clear hrel
        have b0:wr.cell? ⟨w.heap.size,0,none⟩=some (.int .i64 16):=cellB HB.out
        have b1:wr.cell? ⟨w.heap.size,1,none⟩=some (.int .i64 32):=cellB HB.out
        have b2:wr.cell? ⟨w.heap.size,2,none⟩=some (.int .i64 64):=cellB HB.out
        have b3:wr.cell? ⟨w.heap.size,3,none⟩=some (.int .i64 128):=cellB HB.out
        obtain rfl | rfl | rfl | rfl:i=0∨i=1∨i=2∨i=3:=by omega
        · by_cases hle:m≤512
          · have g1:decide ((m:Int)≤512)=true:=by rw [decide_eq_true_eq];omega
            have HE:=Lib.hid (show S=16 from by have:=hsp.out;rw [HR2.out];omega)
            go_wp2_with fail
            go_ret
            exact ⟨ret_int HE.out.symm,X1.out⟩
          · have g1:decide ((m:Int)≤512)=false:=by rw [decide_eq_false_iff_not];omega
            go_wp2_with fail
            go_roundw
            case rel=>exact ⟨1,by omega,by go_num,trivial,by omega,by omega,by omega⟩
            case measure=>simp [intOf]
        · by_cases hle:m≤1024
          · have g1:decide ((m:Int)≤1024)=true:=by rw [decide_eq_true_eq];omega
            have HE:=Lib.hid (show S=32 from by have:=hsp.out;rw [HR2.out];omega)
            go_wp2_with fail
            go_ret
            exact ⟨ret_int HE.out.symm,X1.out⟩
          · have g1:decide ((m:Int)≤1024)=false:=by rw [decide_eq_false_iff_not];omega
            go_wp2_with fail
            go_roundw
            case rel=>exact ⟨2,by omega,by go_num,trivial,by omega,by omega,by omega⟩
            case measure=>simp [intOf]
        · by_cases hle:m≤2048
          · have g1:decide ((m:Int)≤2048)=true:=by rw [decide_eq_true_eq];omega
            have HE:=Lib.hid (show S=64 from by have:=hsp.out;rw [HR2.out];omega)
            go_wp2_with fail
            go_ret
            exact ⟨ret_int HE.out.symm,X1.out⟩
          · have g1:decide ((m:Int)≤2048)=false:=by rw [decide_eq_false_iff_not];omega
            go_wp2_with fail
            go_roundw
            case rel=>exact ⟨3,by omega,by go_num,trivial,by omega,by omega,by omega⟩
            case measure=>simp [intOf]
        · have g1:decide ((m:Int)≤4096)=true:=by rw [decide_eq_true_eq];omega
          have HE:=Lib.hid (show S=128 from by have:=hsp.out;rw [HR2.out];omega)
          go_wp2_with fail
          go_ret
          exact ⟨ret_int HE.out.symm,X1.out⟩

theorem elBlk:ElemK Tryz.prog 306 52 (.slice none 0 0) 1 24:=⟨by kernel_rfl,by kernel_rfl,rfl,by decide,by decide⟩
def BlkB (w:World) (o:Option Nat) (x:Value) (l:List UInt8):Prop :=
  ∃ g cap,x=.slice (some ⟨g,0,none⟩) l.length cap∧l.length≤cap∧cap≤maxLen∧g<w.heap.size∧o≠some g∧∀ (j:Nat) y,l[j]?=some y→w.cell? ⟨g,j,none⟩=some (bv y)
theorem BlkB.ext {w w':World} {o:Option Nat} {x:Value} {l:List UInt8} (h:BlkB w o x l) (k:Ext w w'):BlkB w' o x l:=by
  obtain ⟨g,cap,h1,h2,h3,h4,h5,h6⟩:=h
  exact ⟨g,cap,h1,h2,h3,Nat.lt_of_lt_of_le h4 k.size,h5,fun j y hy=>(k.cell h4).trans (h6 j y hy)⟩
theorem BlkB.grown {w w':World} {o o':Option Nat} {x:Value} {l:List UInt8} (h:BlkB w o x l) (k:w.grownBy w' o) (ho:o'=o∨o'=some w.heap.size):BlkB w' o' x l:=by
  obtain ⟨g,cap,h1,h2,h3,h4,h5,h6⟩:=h
  refine ⟨g,cap,h1,h2,h3,Nat.lt_of_lt_of_le h4 k.size,?_,fun j y hy=>?_⟩
  · rcases ho with rfl | rfl
    · exact h5
    · exact fun e=>by have:=Option.some.inj e;omega
  · exact (World.cell?_of_block (k.block g h4 fun e=>h5 e.symm)).trans (h6 j y hy)
theorem BlkB.off {w:World} {o:Option Nat} {x:Value} {l:List UInt8} (h:BlkB w o x l):BytesOff w.heap.size w x l:=by
  obtain ⟨g,cap,h1,h2,h3,h4,h5,h6⟩:=h
  exact ⟨_,cap,h1,h2,h3,fun _=>⟨g,0,rfl,by omega,h4,fun j y hy=>by rw [Nat.zero_add];exact h6 j y hy⟩⟩
theorem BlkB.some {w:World} {o:Option Nat} {x:Value} {l:List UInt8} (h:BlkB w o x l):∀ cap,x=.slice none 0 cap→cap=0:=by
  obtain ⟨g,cap,h1,_⟩:=h
  intro c e
  rw [h1] at e
  cases e
def BksAt (w0:World) (l:List UInt8) (k:Nat) (v:Value) (wr:World):Prop :=
  ∃ vs:List Value,vs.length=k∧wr.ownsRow w0.heap.size 52 1 v k vs∧Ext w0 wr∧∀ (i:Nat) x,vs[i]?=some x→BlkB wr v.ownBlock x (partL l i)

set_option maxRecDepth 100000 in
set_option maxHeartbeats 2000000 in
theorem rblocks05_any (l:List UInt8) (v:Value) (w:World) (hv:BytesOff w.heap.size w v l) (hl:l.length≤4096) :
    Calls Tryz.prog 223 #[v] w fun e w'=>∃ u,e=.returned u∧Hid (BksAt w l (countN l.length) u w'):=by
  have HC:=Lib.hid (rsize05_any (l.length:Int) w (by omega) (by omega))
  rw [show sizeZ (l.length:Int)=(sizeN l.length:Nat) from by unfold sizeZ;rw [if_neg (by omega)];simp] at HC
  have HPL:=Lib.hid (fun i=>part_len l i)
  have HP:=Lib.hid (fun i=>show partL l i=(l.drop (i*sizeN l.length)).take (sizeN l.length) from rfl)
  have HSP:=Lib.hid (sizeN_spec l.length)
  have HCS:=Lib.hid (fun i=>count_spec l.length i)
  have hc32:=count_le hl
  obtain ⟨a,cap,rfl,h1,h2,h3⟩:=hv
  unfold maxLen at h2
  have HV:=Lib.hid h3
  obtain ⟨n,hn⟩:∃ n,n=l.length:=⟨_,rfl⟩
  have HN:=Lib.hid hn
  rw [←hn] at HC h1 hl HPL HP HSP HCS HV hc32 ⊢
  clear hn h3
  generalize countN n=c at *
  generalize sizeN n=z at *
  have hz:0<z:=by have:=HSP.out;omega
  have hz2:z≤128:=by have:=HSP.out;omega
  have d0:decide (0<(z:Int))=true:=decide_eq_true (by omega)
  go_enter Tryz.func223,Tryz.ntmps223
  go_wp2_with fail
  refine HC.out.mono ?_
  rintro e w1 ⟨rfl,x1⟩
  have X1:=Lib.hid x1
  clear x1 HC
  go_wp2_with fail
  go_loopw [4,5] (fun lv iv wr=>Hid (∃ k:Nat,k≤c∧iv=.int .i64 (k*z:Nat)∧BksAt w l k lv wr)) (fun _ iv _=>n+z - (intOf iv).toNat)
  case atStart=>exact ⟨0,Nat.zero_le _,by simp,[],rfl,World.ownsRow_nil _ _ _ _,X1.out,fun i x h=>by simp at h⟩
  case round =>
    obtain ⟨k,hk,rfl,vs,hvs,ho,hx,hbs⟩:=hrel.out
    clear hrel
    have HX:=Lib.hid hx
    have HO:=Lib.hid ho
    have HBS:=Lib.hid hbs
    have HVS:=Lib.hid hvs
    obtain ⟨oa,ocap,rfl⟩:=rowk_shape ho
    have hks:=HCS.out k
    have hmul:(k+1)*z=k*z+z:=by rw [Nat.add_mul,Nat.one_mul]
    have HMU:=Lib.hid hmul
    have HPk:=Lib.hid (HPL.out k)
    have HPd:=Lib.hid (HP.out k)
    clear ho hx hbs hvs hmul
    by_cases hlt:k<c
    · have hlo:=hks.1 hlt
      obtain ⟨lo,hlo'⟩:∃ lo,lo=k*z:=⟨_,rfl⟩
      rw [←hlo'] at hlo HMU HPk HPd ⊢
      have HLO:=Lib.hid hlo'
      clear hlo' hks
      obtain ⟨m,hm⟩:∃ m,m=min z (n - lo):=⟨_,rfl⟩
      have hm1:lo+m≤n∧m≤z∧(m=z∨lo+m=n)∧0<m:=by omega
      obtain ⟨g,o,rfl,hg,hgl,hcell⟩:=HV.out (by omega)
      have HPm:=Lib.hid (show (partL l k).length=m from by rw [HPk.out,hm])
      have HCE:=Lib.hid (show ∀ (j:Nat) u,((partL l k).map bv)[j]?=some u→wr.cell? ⟨g,o+lo+j,none⟩=some u from fun j u hj=>by
        rw [List.getElem?_map,Option.map_eq_some_iff] at hj
        obtain ⟨x,hx,rfl⟩:=hj
        have hjm:j<m:=by have:=(List.getElem?_eq_some_iff.1 hx).1;have:=HPm.out;omega
        rw [HPd.out,List.getElem?_take,if_pos (by omega),List.getElem?_drop] at hx
        rw [Nat.add_assoc]
        exact (HX.out.cell hgl).trans (hcell _ _ hx))
      have q1:decide ((lo:Int)<(n:Int))=true:=decide_eq_true (by omega)
      have q2:IntKind.i64.wrap ((lo:Int)+(z:Int))=((lo+z:Nat):Int):=(IntWalk.i64_in _ (by omega)).trans (by omega)
      have q4:min ((lo+z:Nat):Int) (n:Int)=((lo+m:Nat):Int):=by omega
      have q5:(lo:Int)≤((lo+m:Nat):Int):=by omega
      have q6:((lo+m:Nat):Int)≤(cap:Int):=by omega
      have q7:lo+m - lo=m:=by omega
      have q8:¬ cap=lo:=by omega
      have q9:0≤(lo:Int):=by omega
      have hmz:m≤128:=by omega
      obtain ⟨_,_,hm3,hm0⟩:=hm1
      have HM3:=Lib.hid hm3
      have HLN:=Lib.hid hlo
      generalize hLM:lo+m=lm at *
      generalize hZE:lo+z=ze at *
      have HZE:=Lib.hid hZE
      have hcl:cap - lo≤9223372036854775807:=by omega
      have hmc:m≤cap - lo:=by omega
      clear hm hm3 hcell hlo hg hgl hLM hZE HV
      go_wp2_with (at_builtin;refine append_lots elU8 wr.heap.size _ _ _ (World.ownsRow_nil wr wr.heap.size 5 1) (some ⟨g,o+lo,none⟩) m (cap - lo) ((partL l k).map bv) (.tmp 21) (.tmp 30) rfl rfl rfl rfl (by rw [List.length_map];exact HPm.out) (fun e=>by cases e) (fun _=>⟨g,o+lo,rfl,HCE.out⟩) (by intro u hu;obtain ⟨x,_,rfl⟩:=List.mem_map.1 hu;rfl) (by omega) (Nat.le_refl _) ?_)
      intro v1 w2 hown1 hg1
      have X2:=Lib.hid (ext_own (Ext.refl wr) (Nat.le_refl _) (World.ownsRow_nil wr wr.heap.size 5 1) hg1)
      have HO1:=Lib.hid (show w2.ownsRow wr.heap.size 5 1 v1 m ((partL l k).map bv) from by simpa using hown1)
      clear hown1 hg1
      obtain ⟨g1,cap1,rfl,e1,e2,e3,e4,e5⟩:=owns_cell HO1.out hm0
      have HE1:=Lib.hid (And.intro e1 (And.intro e2 (And.intro e3 (And.intro e4 e5))))
      clear e1 e2 e3 e4 e5
      have hs2:=X2.out.size
      have hsx:=HX.out.size
      have HO2:=Lib.hid (owns_ext HO.out (X2.out.alloc (.cells #[.slice (some ⟨g1,0,none⟩) m cap1] 52 (0,0))))
      go_wp2_with (at_builtin;refine append_kw elBlk w.heap.size _ _ _ HO2.out w2.heap.size [.slice (some ⟨g1,0,none⟩) m cap1] rfl (.tmp 32) (.tmp 34) rfl rfl rfl rfl (fun j u hj=>(cellB (block_alloc_new w2 _)).trans (by simpa using hj)) (by simp [Value.oneCell']) (by omega) (by simp only [size_alloc];omega) ?_)
      intro v2 w3 ho3 hg3 hir3 hv3
      have hv3:v2.ownBlock=(Value.slice oa k ocap).ownBlock∨v2.ownBlock=some (w2.alloc (.cells #[.slice (some ⟨g1,0,none⟩) m cap1] 52 (0,0))).heap.size:=by rw [size_alloc];exact hv3
      have HF:=Lib.hid (show BksAt w l (k+1) v2 w3 from by
        refine ⟨vs++[.slice (some ⟨g1,0,none⟩) m cap1],by simp [HVS.out],ho3,grown_extB ((HX.out.trans X2.out).alloc _) (Nat.le_refl _) HO2.out hg3,fun i x hi=>?_⟩
        rcases Nat.lt_or_ge i vs.length with hil | hil
        · rw [List.getElem?_append_left hil] at hi
          exact (((HBS.out i x hi).ext X2.out).ext ((Ext.refl w2).alloc _)).grown hg3 hv3
        · have:i=vs.length:=by have:=(List.getElem?_eq_some_iff.1 hi).1;simp at this;omega
          subst this
          rw [List.getElem?_append_right (Nat.le_refl _),Nat.sub_self] at hi
          have hi:Value.slice (some ⟨g1,0,none⟩) m cap1=x:=Option.some.inj hi
          subst hi
          obtain ⟨e1,e2,e3,e4,e5⟩:=HE1.out
          have hb:BlkB w2 (Value.slice oa k ocap).ownBlock (.slice (some ⟨g1,0,none⟩) m cap1) (partL l k):=by
            refine ⟨g1,cap1,by rw [HPm.out],by rw [HPm.out];omega,e2,e3,fun e=>?_,fun j y hy=>e5 j _ (by rw [List.getElem?_map,hy];rfl)⟩
            have:=(HO.out.lt _ e).2
            omega
          rw [HVS.out]
          exact (hb.ext ((Ext.refl w2).alloc _)).grown hg3 hv3)
      clear ho3 hg3 hir3 hv3
      go_wp2_with fail
      go_roundw
      case rel=>exact ⟨k+1,by omega,by rw [HMU.out],HF.out⟩
      case measure =>
        have:=HZE.out
        have:=HLN.out
        simp [intOf] <;> omega
    · obtain rfl:k=c:=by omega
      have hge:n≤k*z:=by have:=hks.2;omega
      have q1:decide (((k*z:Nat):Int)<(n:Int))=false:=decide_eq_false (by omega)
      obtain ⟨lo,hlo'⟩:∃ lo,lo=k*z:=⟨_,rfl⟩
      rw [←hlo'] at q1 hge ⊢
      have q1b:decide (lo<n)=false:=decide_eq_false (by omega)
      clear hlo' hks hge HMU HPk HPd HV HP HPL
      go_wp2_with fail
      go_ret
      exact ⟨_,rfl,vs,HVS.out,HO.out,HX.out,HBS.out⟩

set_option maxRecDepth 100000 in
set_option maxHeartbeats 2000000 in
theorem rlist05_any (l:List UInt8) (v:Value) (w:World) (hv:BytesOff w.heap.size w v l) (hl:l.length≤4096) :
    Calls Tryz.prog 155 #[v] w fun e w'=>∃ u,e=.returned (.tuple #[u,.int .i64 0])∧Hid (w'.ownsRow w.heap.size 54 32 u (countN l.length) (hrow (hashesL l))∧Ext w w'):=by
  have HBl:=Lib.hid (rblocks05_any l v w hv hl)
  have HPL:=Lib.hid (fun i=>part_len l i)
  have hsz:=sizeN_spec l.length
  have hc32:=count_le hl
  obtain ⟨a,cap,rfl,h1,h2,h3⟩:=hv
  unfold maxLen at h2
  have HH:=Lib.hid (show hashesL l=(List.range (countN l.length)).map fun i=>shaL (partL l i) from rfl)
  generalize hashesL l=hs at *
  obtain ⟨n,hn⟩:∃ n,n=l.length:=⟨_,rfl⟩
  rw [←hn] at HBl h1 hl hc32 HH HPL hsz ⊢
  generalize countN n=c at *
  have HSZ:=Lib.hid (show ∀ i,(partL l i).length≤4096 from fun i=>by rw [HPL.out i];omega)
  clear h3 hn hsz HPL
  have d0:decide (4096<(n:Int))=false:=decide_eq_false (by omega)
  have d1:decide (4096<n)=false:=decide_eq_false (by omega)
  go_enter Tryz.func155,Tryz.ntmps155
  go_wp2_with fail
  refine HBl.out.mono ?_
  rintro e w1 ⟨u,rfl,hb⟩
  obtain ⟨vs,hvs,hob,hxb,hbk⟩:=hb.out
  clear hb HBl
  obtain ⟨ba,bcap,rfl,b1,b2,b3,b4⟩:=row_cells hob
  have HBK:=Lib.hid hbk
  have HB4:=Lib.hid b4
  have HVS:=Lib.hid hvs
  have HXB:=Lib.hid hxb
  have hs1:=hxb.size
  clear hob hbk b4 b3 hvs hxb
  go_wp2_with fail
  go_loopw [5,6] (fun lv iv wr=>Hid (∃ k:Nat,k≤c∧iv=.int .i64 k∧wr.ownsRow w1.heap.size 54 32 lv k (hrow ((List.range k).map fun i=>shaL (partL l i)))∧Ext w1 wr)) (fun _ iv _=>c - (intOf iv).toNat)
  case atStart=>exact ⟨0,Nat.zero_le _,rfl,World.ownsRow_nil _ _ _ _,Ext.refl _⟩
  case round =>
    obtain ⟨k,hk,rfl,ho,hx⟩:=hrel.out
    clear hrel
    have HX:=Lib.hid hx
    have HO:=Lib.hid ho
    obtain ⟨oa,ocap,rfl⟩:=rowk_shape ho
    by_cases hlt:k<c
    · obtain ⟨x,hxk⟩:∃ x,vs[k]?=some x:=⟨_,List.getElem?_eq_getElem (by have:=HVS.out;omega)⟩
      obtain ⟨bg,hba,_,hbl,hbc⟩:=HB4.out k x hxk
      have hbx:=((HBK.out k x hxk).ext hx)
      have hbx2:=hbx
      obtain ⟨xg,xcap,rfl,_⟩:=hbx
      have HS:=Lib.hid (rsum_any (partL l k) _ wr hbx2.off hbx2.some (by have:=HSZ.out k;omega))
      subst hba
      have bc:wr.cell? ⟨bg,k,none⟩=some (.slice (some ⟨xg,0,none⟩) (partL l k).length xcap):=(hx.cell hbl).trans hbc
      clear ho hx hbx2 hxk hbl hbc
      have hsl:=shaL_len (partL l k)
      have HR:=Lib.hid (show hrow ((List.range (k+1)).map fun i=>shaL (partL l i))=hrow ((List.range k).map fun i=>shaL (partL l i))++(shaL (partL l k)).map bv from by simp [hrow,List.range_succ])
      obtain ⟨H,hH⟩:∃ H,H=shaL (partL l k):=⟨_,rfl⟩
      rw [←hH] at HS hsl HR
      unfold hashV at HS
      clear hH
      generalize (partL l k).length=pn at *
      obtain ⟨AH,hAH⟩:∃ A,A=hArr H 32:=⟨_,rfl⟩
      have HAH:=Lib.hid hAH
      rw [←hAH] at HS
      clear hAH
      go_wp2_with fail
      refine HS.out.mono ?_
      rintro e w3 ⟨rfl,x3⟩
      have HX3:=Lib.hid (HX.out.trans x3)
      have HO3:=Lib.hid (owns_ext HO.out x3)
      clear x3 HS HO HX bc
      have hAz:AH.size=32:=by rw [HAH.out];exact hArr_size _ _ hsl (by omega)
      have HBu:=Lib.hid (fold_hash hAz)
      have HAl:=Lib.hid (show AH.toList=H.map bv from by rw [HAH.out,hArr_list hsl])
      have HI1:=Lib.hid (show (Tryz.prog.info? 54).map (·.size)=some AH.size from by rw [hAz];kernel_rfl)
      have HI2:=Lib.hid (show 32=AH.size from hAz.symm)
      have HI3:=Lib.hid (show AH.all (·.oneCell')=true from by
        rw [HAH.out,hArr_list hsl]
        simp [bv,Value.oneCell'])
      go_wp2_with (first
        | (refine wpList_storeT rfl _ _ _ rfl w3.heap.size AH rfl rfl 54 _ (block_alloc_new w3 _) HI1.out HI2.out HI3.out ?_;intro w4 hb4 ht4;have HB4':=Lib.hid hb4;have X4:=Lib.hid (ht4.fresh ((Ext.refl w3).alloc _) (Nat.le_refl _));clear hb4 ht4;go_frame)
        | (refine wpList_load_row rfl 54 (.tmp 7) rfl w3.heap.size rfl _ AH (0,0) _ HB4'.out Tryz.underlying54 rfl HI1.out ?_;go_frame)
        | (at_builtin;refine append_k elHash w1.heap.size _ _ _ ((owns_ext HO3.out X4.out).alloc _) w4.heap.size (H.map bv) (by simp [hsl]) (.tmp 24) (.tmp 26) rfl rfl rfl rfl ?c1 ?c2 (by omega) ?c3 ?_))
      case c1 =>
        intro j y hj
        have hf:=HBu.out
        rw [show Array.replicate 32 (Value.int .u8 0)=#[Value.int .u8 0,Value.int .u8 0,Value.int .u8 0,Value.int .u8 0,Value.int .u8 0,Value.int .u8 0,Value.int .u8 0,Value.int .u8 0,Value.int .u8 0,Value.int .u8 0,Value.int .u8 0,Value.int .u8 0,Value.int .u8 0,Value.int .u8 0,Value.int .u8 0,Value.int .u8 0,Value.int .u8 0,Value.int .u8 0,Value.int .u8 0,Value.int .u8 0,Value.int .u8 0,Value.int .u8 0,Value.int .u8 0,Value.int .u8 0,Value.int .u8 0,Value.int .u8 0,Value.int .u8 0,Value.int .u8 0,Value.int .u8 0,Value.int .u8 0,Value.int .u8 0,Value.int .u8 0] from rfl] at hf
        rw [cell_alloc_new rfl,←hj,←HAl.out]
        rw [hAz] at hf
        simp [hf]
      case c2 =>
        intro y hy
        obtain ⟨z,_,rfl⟩:=List.mem_map.1 hy
        rfl
      case c3 =>
        have:=HX3.out.size
        have:=X4.out.size
        simp;omega
      intro v' w5 hown5 hg5 hrow5
      have HF:=Lib.hid (show w5.ownsRow w1.heap.size 54 32 v' (k+1) (hrow ((List.range (k+1)).map fun i=>shaL (partL l i)))∧Ext w1 w5 from ⟨by rw [HR.out];exact hown5,grown_extB ((HX3.out.trans X4.out).alloc _) (Nat.le_refl _) ((owns_ext HO3.out X4.out).alloc _) hg5⟩)
      clear hown5 hg5 hrow5
      go_wp2_with fail
      go_roundw
      case rel=>exact ⟨k+1,by omega,by go_num,HF.out⟩
      case measure=>simp [intOf] <;> omega
    · obtain rfl:k=c:=by omega
      have nlt:decide ((k:Int)<(k:Int))=false:=by simp
      clear ho hx
      go_wp2_with fail
      go_ret2
      refine ⟨_,rfl,?_⟩
      rw [HH.out]
      exact ⟨owns_down HO.out HXB.out.size,HXB.out.trans HX.out⟩
end Go.Proofs.YtodickpibbbiiaaGreatDoor

namespace Go.Proofs.YtodickpibbbiiaaGreatDoor
open Go.RowKit

end Go.Proofs.YtodickpibbbiiaaGreatDoor

namespace Go.Proofs.YtodickpibbbiiaaGreatDoor
open Go.RowKit

end Go.Proofs.YtodickpibbbiiaaGreatDoor

namespace Go.Proofs.YtodickpibbbiiaaGreatDoor

end Go.Proofs.YtodickpibbbiiaaGreatDoor

namespace Go.Proofs.YtodickpibbbiiaaGreatDoor
open Go.RowKit

end Go.Proofs.YtodickpibbbiiaaGreatDoor

namespace Go.Proofs.YtodickpibbbiiaaGreatDoor
open Go.RowKit

end Go.Proofs.YtodickpibbbiiaaGreatDoor

namespace Go.Proofs.YtodickpibbbiiaaGreatDoor
open Go.RowKit

end Go.Proofs.YtodickpibbbiiaaGreatDoor

namespace Go.Proofs.YtodickpibbbiiaaGreatDoor
open Go.RowKit

theorem inRoot_len (r:ByteArray) (l:Nodes) (k:Nat):(inRoot r (l.take k)).length≤k:=by
  unfold inRoot
  rw [List.length_map]
  exact Nat.le_trans (List.length_filter_le _ _) (List.length_take_le _ _)
set_option maxRecDepth 100000 in
set_option maxHeartbeats 4000000 in
theorem rnodes17_any {w:World} {r:Nat} {M I:List Nat} {D:Dk} (h:RkAt w r M I D) (hl:D.live.length≤1048576) (root:ByteArray) (hmr:mayB root=true) (hr:root.size≤160) (hp:∀ x∈D.live,x.1.size≤160) :
    Calls Tryz.prog 38 #[.pointer (some ⟨r,0,none⟩),.string root] w fun e w'=>∃ v,e=.returned v∧Hid (w'.ownsRow w.heap.size 86 5 v (inRoot root D.live).length (rows5 (inRoot root D.live))∧Ext w w'):=by
  obtain ⟨lt,ls,lv,sv,lg,h,-,-⟩:=h
  have c0:w.cell? ⟨r,0,none⟩=some (.pointer (some ⟨lt,0,none⟩)):=cellB h.blk
  have hrl:=ltB h.blk
  have hT:=h.live
  clear h
  generalize D.live=l at *
  obtain ⟨a,cap,rfl,h1,h2,h3⟩:=hT.shape
  have HC:=Lib.hid h3
  have HCR:=Lib.hid c0
  have ct0:w.cell? ⟨lt,0,none⟩=some (.slice a l.length cap):=cellB hT.blk
  have HCT:=Lib.hid ct0
  have htl:=ltB hT.blk
  have HPS:=Lib.hid hp
  obtain ⟨n,hn⟩:∃ n,n=l.length:=⟨_,rfl⟩
  have HN:=Lib.hid hn
  rw [←hn] at h1 hl HCT
  clear hT h3 hn c0 ct0 hp
  go_enter Tryz.func38,Tryz.ntmps38
  go_wp2_with fail
  go_loopw [5,6] (fun ov iv wr=>Hid (∃ k:Nat,k≤n∧iv=.int .i64 k∧wr.ownsRow w.heap.size 86 5 ov (inRoot root (l.take k)).length (rows5 (inRoot root (l.take k)))∧Ext w wr)) (fun _ iv _=>n - (intOf iv).toNat)
  case atStart=>exact ⟨0,Nat.zero_le _,rfl,World.ownsRow_nil _ _ _ _,Ext.refl _⟩
  case round =>
    obtain ⟨k,hk,rfl,ho,hx⟩:=hrel.out
    clear hrel
    have HX:=Lib.hid hx
    have HO:=Lib.hid ho
    have hsx:=hx.size
    have c0:wr.cell? ⟨r,0,none⟩=some (.pointer (some ⟨lt,0,none⟩)):=(hx.cell hrl).trans HCR.out
    have ct:wr.cell? ⟨lt,0,none⟩=some (.slice a n cap):=(hx.cell htl).trans HCT.out
    by_cases hlt:k<n
    · obtain ⟨x,hxk⟩:∃ x,l[k]?=some x:=⟨_,List.getElem?_eq_getElem (by have:=HN.out;omega)⟩
      obtain ⟨g,rfl,hgl,hc⟩:=HC.out k x hxk
      have HLD:=Lib.hid (range_ext hc hx hgl)
      have hps:=HPS.out x (List.mem_of_getElem? hxk)
      have HNX:=Lib.hid (inRoot_next (r:=root) hxk)
      have HQL:=inRoot_len root l k
      obtain ⟨xp,xk,xd,xt,xm⟩:=x
      simp only at hps HNX
      obtain ⟨oa,ocap,rfl,_⟩:=row5_shape ho
      clear ho hx hxk hc
      have HNB:=Lib.hid (block_alloc_new wr (.cells #[.string xp,.int .i64 xk,.string xd,.string xt,.int .i64 xm] 86 (0,0)))
      have XNB:=Lib.hid ((Ext.refl wr).alloc (.cells #[.string xp,.int .i64 xk,.string xd,.string xt,.int .i64 xm] 86 (0,0)))
      go_wp2_with (first
        | (refine wpList_load_at rfl 86 (.tmp 28) rfl g (k*5) rfl #[.string xp,.int .i64 xk,.string xd,.string xt,.int .i64 xm] _ HLD.out Tryz.underlying86 rfl (by kernel_rfl) ?_;go_frame))
      obtain ⟨wa,hwa⟩:∃ x,x=wr.alloc (.cells #[.string xp,.int .i64 xk,.string xd,.string xt,.int .i64 xm] 86 (0,0)):=⟨_,rfl⟩
      rw [←hwa] at HNB XNB ⊢
      clear hwa c0 ct
      have hs1:=XNB.out.size
      cases hw:withinB xp root with
      | false =>
        rw [hw] at HNX
        have HWi:=Lib.hid (refWithin_any xp root wa (by omega) (by omega))
        rw [hw] at HWi
        refine HWi.out.mono ?_
        rintro e w1 ⟨rfl,x1⟩
        have HR:=Lib.hid (show w1.ownsRow w.heap.size 86 5 (.slice oa (inRoot root (l.take k)).length ocap) (inRoot root (l.take (k+1))).length (rows5 (inRoot root (l.take (k+1))))∧Ext w w1 from by
          rw [HNX.out,if_neg (by simp),List.append_nil]
          exact ⟨owns_ext HO.out (XNB.out.trans x1),(HX.out.trans XNB.out).trans x1⟩)
        clear x1
        go_wp2_with fail
        go_roundw
        case rel=>exact ⟨k+1,by omega,by go_num,HR.out.1,HR.out.2⟩
        case measure=>simp [intOf] <;> omega
      | true =>
        rw [hw,if_pos rfl] at HNX
        have HWi:=Lib.hid (refWithin_any xp root wa (by omega) (by omega))
        rw [hw] at HWi
        have hsz:=within_more hmr hw
        refine HWi.out.mono ?_
        rintro e w1 ⟨rfl,x1⟩
        have HNB1:=Lib.hid ((x1.block (ltB HNB.out)).trans HNB.out)
        have XX:=Lib.hid ((HX.out.trans XNB.out).trans x1)
        have HO1:=Lib.hid (owns_ext HO.out (XNB.out.trans x1))
        have hlt1:=ltB HNB1.out
        have hsx1:=XX.out.size
        clear x1
        obtain ⟨q,hq⟩:∃ q,q=inRoot root (l.take k):=⟨_,rfl⟩
        rw [←hq] at HNX HQL HO HO1 ⊢
        clear hq hw
        obtain ⟨rp,hrp⟩:∃ rp,rp=relS root xp:=⟨_,rfl⟩
        have e1:xp.extract (root.size+1) xp.size=rp:=hrp.symm
        rw [←hrp] at HNX
        clear hrp
        have m1:(0:Int)≤(root.size:Int)+1:=by omega
        have m2:(root.size:Int)+1≤(xp.size:Int):=by omega
        have m3:((root.size:Int)+1).toNat=root.size+1:=by omega
        have e2:xp.extract (IntKind.i64.wrap ((root.size:Int)+1)).toNat xp.size=rp:=by rw [IntWalk.i64_in _ (by omega),m3,e1]
        have e3:xp.extract ((root.size:Int)+1).toNat xp.size=rp:=by rw [m3,e1]
        have m4:IntKind.i64.wrap ((root.size:Int)+1)=(root.size:Int)+1:=IntWalk.i64_in _ (by omega)
        have b0:w1.cell? ⟨wr.heap.size,0,none⟩=some (.string xp):=cellB HNB1.out
        have b1:w1.cell? ⟨wr.heap.size,1,none⟩=some (.int .i64 xk):=cellB HNB1.out
        have b2:w1.cell? ⟨wr.heap.size,2,none⟩=some (.string xd):=cellB HNB1.out
        have b3:w1.cell? ⟨wr.heap.size,3,none⟩=some (.string xt):=cellB HNB1.out
        have b4:w1.cell? ⟨wr.heap.size,4,none⟩=some (.int .i64 xm):=cellB HNB1.out
        have HB:=Lib.hid (show (w1.drew.alloc (.cells #[.string rp,.int .i64 xk,.string xd,.string xt,.int .i64 xm] 86)).heap[wr.heap.size]?=some (.cells #[.string xp,.int .i64 xk,.string xd,.string xt,.int .i64 xm] 86 (0,0)) from (((Ext.refl _).drew.alloc _).block hlt1).trans HNB1.out)
        go_wp2_with fail
        go_region_held_law (fun w'=>w'.cell? ⟨wr.heap.size,0,none⟩=some (.string xp)∧w'.cell? ⟨wr.heap.size,1,none⟩=some (.int .i64 xk)∧w'.cell? ⟨wr.heap.size,2,none⟩=some (.string xd)∧w'.cell? ⟨wr.heap.size,3,none⟩=some (.string xt)∧w'.cell? ⟨wr.heap.size,4,none⟩=some (.int .i64 xm)) (go_keep)
         ((refine step_append_k elAt w.heap.size (.slice oa q.length ocap) q.length (rows5 q) (owns_ext HO1.out ?_) w1.heap.size [.string rp,.int .i64 xk,.string xd,.string xt,.int .i64 xm] rfl (.tmp 34) (.tmp 44) rfl rfl ?_ ?_ ?_ ?_ ?_ ?_ ?_
           · repeat (first | exact Ext.refl _ | refine Ext.alloc ?_ _ | refine Ext.drew ?_)
           · simp [Act.eval]
           · simp [Act.eval]
           · intro j u hj
             exact (cellB (heap_new_drew rfl)).trans (by simpa using hj)
           · intro u hu
             simp only [List.mem_cons,List.not_mem_nil,or_false] at hu
             rcases hu with rfl | rfl | rfl | rfl | rfl <;> rfl
           · omega
           · simp;omega
           intro v' w3 hown3 hgr3 hrow3 hwh3
           obtain ⟨g3,cap3,rfl,_⟩:=hrow3
           have hb3:=(hgr3.block wr.heap.size (by simp;omega) (fun e=>by have:=(HO1.out.lt _ e.symm).1;have:=own_lt HO.out _ e.symm;omega)).trans HB.out
           have k0:w3.cell? ⟨wr.heap.size,0,none⟩=some (.string xp):=cellB hb3
           have k1:w3.cell? ⟨wr.heap.size,1,none⟩=some (.int .i64 xk):=cellB hb3
           have k2:w3.cell? ⟨wr.heap.size,2,none⟩=some (.string xd):=cellB hb3
           have k3:w3.cell? ⟨wr.heap.size,3,none⟩=some (.string xt):=cellB hb3
           have k4:w3.cell? ⟨wr.heap.size,4,none⟩=some (.int .i64 xm):=cellB hb3
           have HR:=Lib.hid (show w3.ownsRow w.heap.size 86 5 _ (inRoot root (l.take (k+1))).length (rows5 (inRoot root (l.take (k+1))))∧Ext w w3 from ⟨by rw [HNX.out,List.length_append,rows5_snoc];exact hown3,grown_extB ((XX.out.drew).alloc _) (Nat.le_refl _) (owns_ext HO1.out ((Ext.refl _).drew.alloc _)) hgr3⟩)
           clear hwh3 hown3 hgr3 hb3))
        all_goals
          go_wp2_with fail
          go_roundw
          case rel=>exact ⟨k+1,by omega,by go_num,HR.out.1,HR.out.2⟩
          case measure=>simp [intOf] <;> omega
    · obtain rfl:k=n:=by omega
      have nlt:decide ((k:Int)<(k:Int))=false:=by simp
      have HTK:=Lib.hid (show l.take k=l from by rw [HN.out,List.take_length])
      clear ho hx
      go_wp2_with fail
      go_ret
      have h1:=HO.out
      rw [HTK.out] at h1
      exact ⟨_,rfl,h1,HX.out⟩

end Go.Proofs.YtodickpibbbiiaaGreatDoor

namespace Go.Proofs.YtodickpibbbiiaaGreatDoor
open Go.RowKit

set_option maxRecDepth 100000 in
set_option maxHeartbeats 1000000 in
theorem rroot17_any {w:World} {r:Nat} {M I:List Nat} {D:Dk} (h:RkAt w r M I D) (O:DkOk D) (p:ByteArray) (hp:p.size<4294967200) :
    Calls Tryz.prog 37 #[.pointer (some ⟨r,0,none⟩),.string p] w fun e w'=>e=.returned (.int .i64 (rootE D.live p))∧Ext w w':=by
  have HM:=Lib.hid (refMay_any p w (by omega))
  have HL:=fun w' (x:Ext w w')=>Lib.hid (rlist_any (h.ext x) O p hp)
  have HR:=Lib.hid (show rootE D.live p=if mayB p then (listE D.live p).2 else 10 from rfl)
  clear h O
  generalize rootE D.live p=R at *
  generalize listE D.live p=L at *
  cases hm:mayB p with
  | false =>
    rw [hm] at HM HR
    have HR2:=Lib.hid (show R=10 from HR.out)
    clear HR
    go_enter Tryz.func37,Tryz.ntmps37
    go_wp2_with fail
    refine HM.out.mono ?_
    rintro e w1 ⟨rfl,x1⟩
    go_wp2_with fail
    go_ret
    exact ⟨by rw [HR2.out];rfl,x1⟩
  | true =>
    rw [hm] at HM HR
    have HR2:=Lib.hid (show R=L.2 from HR.out)
    clear HR
    obtain ⟨L1,L2⟩:=L
    go_enter Tryz.func37,Tryz.ntmps37
    go_wp2_with fail
    refine HM.out.mono ?_
    rintro e w1 ⟨rfl,x1⟩
    go_wp2_with fail
    refine (HL _ x1).out.mono ?_
    rintro e w2 ⟨v,rfl,_,x2⟩
    go_wp2_with fail
    go_ret
    exact ⟨by rw [HR2.out];rfl,x1.trans x2⟩

end Go.Proofs.YtodickpibbbiiaaGreatDoor

namespace Go.Proofs.YtodickpibbbiiaaGreatDoor
open Go.RowKit

set_option maxHeartbeats 1000000 in
theorem rlist05_long (l:List UInt8) (v:Value) (b:Nat) (w:World) (hv:BytesOff b w v l) (hl:4096<l.length) :
    Calls Tryz.prog 155 #[v] w fun e w'=>e=.returned (.tuple #[.slice none 0 0,.int .i64 3])∧w'=w:=by
  obtain ⟨a,cap,rfl,h1,h2,h3⟩:=hv
  unfold maxLen at h2
  generalize l.length=n at *
  clear h3
  have d0:decide (4096<(n:Int))=true:=decide_eq_true (by omega)
  go_enter Tryz.func155,Tryz.ntmps155
  go_wp2_with fail
  go_ret2
  exact ⟨rfl,rfl⟩

set_option maxRecDepth 100000 in
set_option maxHeartbeats 4000000 in
theorem ritem17_any (p:ByteArray) (n:Nd) (w:World) (hn:n.data.size≤1048576) :
    Calls Tryz.prog 86 #[.string p,nv n] w fun e w'=>∃ C x,e=.returned (.tuple #[.agg C,.int .i64 x])∧Hid (ItemIs w.heap.size w' p n C x∧Ext w w'):=by
  obtain ⟨nk,nd,nt,ntm⟩:=n
  unfold nv
  dsimp only
  have hn':nd.size≤1048576:=hn
  have HX2:=Lib.hid ((((Ext.refl w).alloc (.cells #[.int .i64 nk,.string nd,.string nt,.int .i64 ntm] 84 (0,0))).alloc (.cells rec0 45 (0,0))).alloc (.cells rec0 45 (0,0)))
  have HZ6:=Lib.hid (block_alloc_new ((w.alloc (.cells #[.int .i64 nk,.string nd,.string nt,.int .i64 ntm] 84 (0,0))).alloc (.cells rec0 45 (0,0))) (.cells rec0 45 (0,0)))
  have HZ4:=Lib.hid ((block_alloc_old (o:=.cells rec0 45 (0,0)) (by simp only [size_alloc];omega)).trans (block_alloc_new (w.alloc (.cells #[.int .i64 nk,.string nd,.string nt,.int .i64 ntm] 84 (0,0))) (.cells rec0 45 (0,0))))
  have HZ3:=Lib.hid ((block_alloc_old (o:=.cells rec0 45 (0,0)) (by simp only [size_alloc];omega)).trans ((block_alloc_old (o:=.cells rec0 45 (0,0)) (by simp only [size_alloc];omega)).trans (block_alloc_new w (.cells #[.int .i64 nk,.string nd,.string nt,.int .i64 ntm] 84 (0,0)))))
  simp only [size_alloc] at HZ6 HZ4
  rw [rec0_is] at HX2 HZ6 HZ4 HZ3
  have HW:=Lib.hid (show ∀ sz bs bl,itemC p ⟨nk,nd,nt,ntm⟩ sz bs bl=#[.string p,.int .i64 nk,.bool false,.int .i64 sz,.int .i64 ntm,.int .i64 0,.int .u32 0,.int .u32 0,.int .u32 0,.int .u32 0,.int .u32 0,.int .u32 0,.int .u32 0,.int .u32 0,.int .u32 0,.int .u32 0,.int .u32 0,.int .u32 0,.int .u32 0,.int .u32 0,.int .u32 0,.int .u32 0,.int .i64 bs,bl,.string nt,.int .i64 0,.int .i64 0] from fun _ _ _=>rfl)
  generalize hIC:itemC p ⟨nk,nd,nt,ntm⟩=IC at *
  have HA1:=Lib.hid (show ∀ sz bs bl,(Tryz.prog.info? 45).map (·.size)=some (IC sz bs bl).size from fun sz bs bl=>by rw [HW.out];kernel_rfl)
  have HA2:=Lib.hid (show ∀ sz bs bl,27=(IC sz bs bl).size from fun sz bs bl=>by rw [HW.out];rfl)
  have HA3:=Lib.hid (show ∀ sz bs a n c,(IC sz bs (.slice a n c)).all (·.oneCell')=true from fun sz bs a n c=>by rw [HW.out];simp [Value.oneCell'])
  by_cases hk:nk=1
  · subst hk
    have HLl:=Lib.hid (len_toList nd)
    by_cases h4:nd.size≤4096
    · go_enter Tryz.func86,Tryz.ntmps86
      go_wp2_with (first
        | (refine wpList_buildAs (IC 0 0 (.slice none 0 0)) rfl _ _ rfl (by rw [HW.out];kernel_rfl) ?_;go_frame)
        | (refine wpList_storeT rfl _ _ _ rfl (w.heap.size+2) (IC 0 0 (.slice none 0 0)) rfl rfl 45 _ HZ6.out (HA1.out _ _ _) (HA2.out _ _ _) (HA3.out _ _ _ _ _) ?_;intro w6 hb6 ht6;have HB6:=Lib.hid hb6;have X6:=Lib.hid (ht6.fresh HX2.out (by omega));have HN6:=(ht6.block w.heap.size (ltB HZ3.out) (by intro e;have:=Option.some.inj e;omega)).trans HZ3.out;have HR6:=Lib.hid ((ht6.block (w.heap.size+1) (ltB HZ4.out) (by intro e;have:=Option.some.inj e;omega)).trans HZ4.out);have n0:w6.cell? ⟨w.heap.size,0,none⟩=some (.int .i64 1):=cellB HN6;have n2:w6.cell? ⟨w.heap.size,2,none⟩=some (.string nt):=cellB HN6;have n3:w6.cell? ⟨w.heap.size,3,none⟩=some (.int .i64 ntm):=cellB HN6;have n1:w6.cell? ⟨w.heap.size,1,none⟩=some (.string nd):=cellB HN6;obtain ⟨cv,wc,hcv,hbo,xc⟩:=conv_bytes nd w6 hn';have HN:=Lib.hid HN6;have HXC:=Lib.hid xc;have HBO:=Lib.hid hbo;clear xc hbo;clear hb6 ht6 HN6 HZ6 HZ4 HZ3 HX2;go_frame))
      refine (rlist05_any nd.toList cv wc HBO.out (by rw [HLl.out];exact h4)).mono ?_
      rintro e w8 ⟨u,rfl,h8⟩
      rw [HLl.out] at h8
      have H8:=h8
      obtain ⟨ua,ucap,rfl⟩:=rowk_shape h8.out.1
      have X8:=Lib.hid ((X6.out.trans HXC.out).trans h8.out.2)
      have Y8:=Lib.hid (HXC.out.trans h8.out.2)
      clear h8 hcv
      have HN8:=Lib.hid ((Y8.out.block (ltB HN.out)).trans HN.out)
      have HB8:=Lib.hid ((Y8.out.block (ltB HB6.out)).trans HB6.out)
      have HR8:=Lib.hid ((Y8.out.block (ltB HR6.out)).trans HR6.out)
      clear HN HR6 n0 n1 n2 n3
      have n1:w8.cell? ⟨w.heap.size,1,none⟩=some (.string nd):=cellB HN8.out
      have HL8:=HB8.out
      rw [HW.out] at HL8
      have c3:w8.cell? ⟨w.heap.size+2,3,none⟩=some (.int .i64 0):=cellB HL8
      have c22:w8.cell? ⟨w.heap.size+2,22,none⟩=some (.int .i64 0):=cellB HL8
      have c23:w8.cell? ⟨w.heap.size+2,23,none⟩=some (.slice none 0 0):=cellB HL8
      have f8:∀ k,w8.frozen? ⟨w.heap.size+2,k,none⟩=false:=fun k=>frozenB HL8
      have HSz:=fun w'=>Lib.hid (rsize05_any (nd.size:Int) w' (by omega) (by omega))
      rw [show sizeZ (nd.size:Int)=(sizeN nd.size:Nat) from by unfold sizeZ;rw [if_neg (by omega)];simp] at HSz
      clear HL8 c3 c22 c23 f8
      obtain ⟨C1,hC1⟩:∃ C,C=(IC 0 0 (.slice none 0 0)).setIfInBounds 23 (.slice ua (countN nd.size) ucap):=⟨_,rfl⟩
      obtain ⟨C2,hC2⟩:∃ C,C=C1.setIfInBounds 3 (.int .i64 (nd.size:Nat)):=⟨_,rfl⟩
      have HC3:=Lib.hid (show C2.setIfInBounds 22 (.int .i64 (sizeN nd.size:Nat))=IC (nd.size:Nat) (sizeN nd.size:Nat) (.slice ua (countN nd.size) ucap) from by rw [hC2,hC1,HW.out,HW.out];rfl)
      have HS1:=Lib.hid (show 3<C1.size from by rw [hC1,Array.size_setIfInBounds,←HA2.out];decide)
      have HS2:=Lib.hid (show 22<C2.size from by rw [hC2,hC1,Array.size_setIfInBounds,Array.size_setIfInBounds,←HA2.out];decide)
      have HS0:=Lib.hid (show 23<(IC 0 0 (.slice none 0 0)).size from by rw [←HA2.out];decide)
      have HG3:=Lib.hid (show C2[3]?=some (.int .i64 (nd.size:Nat)) from by rw [hC2,Array.getElem?_setIfInBounds_self_of_lt HS1.out])
      go_wp2_with (first
        | (refine wpList_store1 rfl _ _ _ rfl (w.heap.size+2) 23 (.slice ua (countN nd.size) ucap) rfl rfl (by kernel_rfl) rfl _ 45 HB8.out HS0.out ?_;intro w9 hw9;have HB9:=Lib.hid (show w9.heap[w.heap.size+2]?=some (.cells C1 45 (0,0)) from by rw [hw9,hC1];exact setCellB HB8.out);have HT9:=Lib.hid (show Touch (w.heap.size+2) w8 w9 from hw9▸(Touch.of (Ext.refl w8)).setCell _);have n1:w9.cell? ⟨w.heap.size,1,none⟩=some (.string nd):=cellB ((HT9.out.block w.heap.size (ltB HN8.out) (by intro e;have:=Option.some.inj e;omega)).trans HN8.out);clear hw9;go_frame)
        | (refine wpList_store1 rfl _ _ _ rfl (w.heap.size+2) 3 (.int .i64 (nd.size:Nat)) rfl rfl (by kernel_rfl) rfl _ 45 HB9.out HS1.out ?_;intro w10 hw10;have HB10:=Lib.hid (show w10.heap[w.heap.size+2]?=some (.cells C2 45 (0,0)) from by rw [hw10,hC2];exact setCellB HB9.out);have HT10:=Lib.hid (show Touch (w.heap.size+2) w8 w10 from hw10▸HT9.out.setCell _);have m3:w10.cell? ⟨w.heap.size+2,3,none⟩=some (.int .i64 (nd.size:Nat)):=(cellB HB10.out).trans HG3.out;clear hw10;go_frame))
      refine (HSz _).out.mono ?_
      rintro e w11 ⟨rfl,x11⟩
      have HB11:=Lib.hid ((x11.block (ltB HB10.out)).trans HB10.out)
      have HT11:=Lib.hid (HT10.out.trans (Touch.of x11))
      clear x11
      have HAI:=Lib.hid (HA1.out (nd.size:Nat) (sizeN nd.size:Nat) (.slice ua (countN nd.size) ucap))
      go_wp2_with (first
        | (refine wpList_store1 rfl _ _ _ rfl (w.heap.size+2) 22 (.int .i64 (sizeN nd.size:Nat)) rfl rfl (by kernel_rfl) rfl _ 45 HB11.out HS2.out ?_;intro W9 hW9;have HBf:=Lib.hid (show W9.heap[w.heap.size+2]?=some (.cells (IC (nd.size:Nat) (sizeN nd.size:Nat) (.slice ua (countN nd.size) ucap)) 45 (0,0)) from by rw [←HC3.out,hW9];exact setCellB HB11.out);have HTf:=Lib.hid (show Touch (w.heap.size+2) w8 W9 from hW9▸HT11.out.setCell _);have HR9:=Lib.hid ((HTf.out.block (w.heap.size+1) (ltB HR8.out) (by intro e;have:=Option.some.inj e;omega)).trans HR8.out);have X9:=Lib.hid (HTf.out.fresh X8.out (by omega));clear hW9;go_frame)
        | (refine wpList_load_row rfl 45 (.tmp 6) rfl (w.heap.size+2) rfl 45 (IC (nd.size:Nat) (sizeN nd.size:Nat) (.slice ua (countN nd.size) ucap)) (0,0) _ HBf.out Tryz.underlying45 rfl HAI.out ?_;go_frame)
        | (refine wpList_storeT rfl _ _ _ rfl (w.heap.size+1) (IC (nd.size:Nat) (sizeN nd.size:Nat) (.slice ua (countN nd.size) ucap)) rfl rfl 45 _ HR9.out HAI.out (HA2.out _ _ _) (HA3.out _ _ _ _ _) ?_;intro w7 hb7 ht7;have HB7:=Lib.hid hb7;have HT7:=Lib.hid ht7;clear hb7 ht7;go_frame))
      have HO9:=Lib.hid (show W9.ownsRow (w.heap.size+3) 54 32 (.slice ua (countN nd.size) ucap) (countN nd.size) (hrow (hashesL nd.toList)) from by
        have hlt:=ltB HB6.out
        have:=HXC.out.size
        exact owns_down (owns_touch2 H8.out.1 HTf.out (by omega)) (by omega))
      exact bodyPost_ret (results_row1 rfl _ _ (w.heap.size+1) 45 _ (0,0) _ rfl HB7.out Tryz.underlying45 rfl HAI.out) rfl ⟨_,_,rfl,⟨.inr (.inl ⟨rfl,h4,rfl,_,by rw [←hIC],owns_down (owns_touch2 HO9.out HT7.out (by omega)) (by omega)⟩),HT7.out.fresh X9.out (by omega)⟩⟩
    · have h5:4096<nd.size:=by omega
      go_enter Tryz.func86,Tryz.ntmps86
      go_wp2_with (first
        | (refine wpList_buildAs (IC 0 0 (.slice none 0 0)) rfl _ _ rfl (by rw [HW.out];kernel_rfl) ?_;go_frame)
        | (refine wpList_storeT rfl _ _ _ rfl (w.heap.size+2) (IC 0 0 (.slice none 0 0)) rfl rfl 45 _ HZ6.out (HA1.out _ _ _) (HA2.out _ _ _) (HA3.out _ _ _ _ _) ?_;intro w6 hb6 ht6;have HB6:=Lib.hid hb6;have X6:=Lib.hid (ht6.fresh HX2.out (by omega));have HN6:=(ht6.block w.heap.size (ltB HZ3.out) (by intro e;have:=Option.some.inj e;omega)).trans HZ3.out;have HR6:=Lib.hid ((ht6.block (w.heap.size+1) (ltB HZ4.out) (by intro e;have:=Option.some.inj e;omega)).trans HZ4.out);have n0:w6.cell? ⟨w.heap.size,0,none⟩=some (.int .i64 1):=cellB HN6;have n2:w6.cell? ⟨w.heap.size,2,none⟩=some (.string nt):=cellB HN6;have n3:w6.cell? ⟨w.heap.size,3,none⟩=some (.int .i64 ntm):=cellB HN6;have n1:w6.cell? ⟨w.heap.size,1,none⟩=some (.string nd):=cellB HN6;obtain ⟨cv,wc,hcv,hbo,xc⟩:=conv_bytes nd w6 hn';have HN:=Lib.hid HN6;have HXC:=Lib.hid xc;have HBO:=Lib.hid hbo;clear xc hbo;clear hb6 ht6 HN6 HZ6 HZ4 HZ3 HX2;go_frame))
      refine (rlist05_long nd.toList cv _ wc HBO.out (by rw [HLl.out];exact h5)).mono ?_
      rintro e w8 ⟨rfl,hw8⟩
      obtain rfl:=hw8.symm
      clear hw8 hcv
      have X8:=Lib.hid (X6.out.trans HXC.out)
      have HR8:=Lib.hid ((HXC.out.block (ltB HR6.out)).trans HR6.out)
      have HA02:=Lib.hid (show 27=rec0.size from rfl)
      have HA03:=Lib.hid (show rec0.all (·.oneCell')=true from by rw [rec0_is];simp [Value.oneCell'])
      have HA0:=Lib.hid (show (Tryz.prog.info? 45).map (·.size)=some rec0.size from by rw [rec0_is];kernel_rfl)
      go_wp2_with (first
        | (refine wpList_buildAs rec0 rfl _ _ rfl (by rw [rec0_is];kernel_rfl) ?_;go_frame)
        | (refine wpList_storeT rfl _ _ _ rfl (w.heap.size+1) rec0 rfl rfl 45 _ HR8.out HA0.out HA02.out HA03.out ?_;intro w7 hb7 ht7;have HB7:=Lib.hid hb7;have X7:=Lib.hid (ht7.fresh X8.out (by omega));clear hb7 ht7;go_frame))
      exact bodyPost_ret (results_row1 rfl _ _ (w.heap.size+1) 45 _ (0,0) _ rfl HB7.out Tryz.underlying45 rfl HA0.out) rfl ⟨_,_,rfl,⟨  .inr (.inr ⟨rfl,h5,rfl,rfl⟩),X7.out⟩⟩
  · have dk:decide (nk=1)=false:=decide_eq_false hk
    go_enter Tryz.func86,Tryz.ntmps86
    go_wp2_with (first
      | (refine wpList_buildAs (IC 0 0 (.slice none 0 0)) rfl _ _ rfl (by rw [HW.out];kernel_rfl) ?_;go_frame)
      | (refine wpList_storeT rfl _ _ _ rfl (w.heap.size+2) (IC 0 0 (.slice none 0 0)) rfl rfl 45 _ HZ6.out (HA1.out _ _ _) (HA2.out _ _ _) (HA3.out _ _ _ _ _) ?_;intro w6 hb6 ht6;have HB6:=Lib.hid hb6;have X6:=Lib.hid (ht6.fresh HX2.out (by omega));have HN6:=(ht6.block w.heap.size (ltB HZ3.out) (by intro e;have:=Option.some.inj e;omega)).trans HZ3.out;have HR6:=Lib.hid ((ht6.block (w.heap.size+1) (ltB HZ4.out) (by intro e;have:=Option.some.inj e;omega)).trans HZ4.out);have n0:w6.cell? ⟨w.heap.size,0,none⟩=some (.int .i64 nk):=cellB HN6;have n2:w6.cell? ⟨w.heap.size,2,none⟩=some (.string nt):=cellB HN6;have n3:w6.cell? ⟨w.heap.size,3,none⟩=some (.int .i64 ntm):=cellB HN6;clear hb6 ht6 HN6 HZ6 HZ4 HZ3 HX2;go_frame)
      | (refine wpList_load_row rfl 45 (.tmp 6) rfl (w.heap.size+2) rfl 45 (IC 0 0 (.slice none 0 0)) (0,0) _ HB6.out Tryz.underlying45 rfl (HA1.out _ _ _) ?_;go_frame)
      | (refine wpList_storeT rfl _ _ _ rfl (w.heap.size+1) (IC 0 0 (.slice none 0 0)) rfl rfl 45 _ HR6.out (HA1.out _ _ _) (HA2.out _ _ _) (HA3.out _ _ _ _ _) ?_;intro w7 hb7 ht7;have HB7:=Lib.hid hb7;have X7:=Lib.hid (ht7.fresh X6.out (by omega));clear hb7 ht7;go_frame))
    refine bodyPost_ret (results_row1 rfl _ _ (w.heap.size+1) 45 _ (0,0) _ rfl HB7.out Tryz.underlying45 rfl (HA1.out _ _ _)) rfl ⟨_,_,rfl,⟨.inl ⟨hk,?_,rfl⟩,X7.out⟩⟩
    rw [←hIC]
end Go.Proofs.YtodickpibbbiiaaGreatDoor

namespace Go.Proofs.YtodickpibbbiiaaGreatDoor
open Go.RowKit

set_option maxRecDepth 100000 in
set_option maxHeartbeats 4000000 in
theorem rone17_any {w:World} {d m:Nat} {M I:List Nat} {D:Dk} (h:RkAt w d M I D) (R:DkRun m D) (hl:D.live.length≤1048576) (root p:ByteArray) (hr:root.size≤100000) (hp:p.size≤100000) :
    Calls Tryz.prog 35 #[.pointer (some ⟨d,0,none⟩),.string root,.string p] w fun e w'=>∃ C x,e=.returned (.tuple #[.agg C,.int .i64 x])∧Hid (OneIs w.heap.size w' D.live root p C x∧Ext w w'):=by
  have HX:=Lib.hid ((Ext.refl w).alloc (.cells rec0 45 (0,0)))
  have HZ:=Lib.hid (block_alloc_new w (.cells rec0 45 (0,0)))
  have HA02:=Lib.hid (show 27=rec0.size from rfl)
  have HA03:=Lib.hid (show rec0.all (·.oneCell')=true from by rw [rec0_is];simp [Value.oneCell'])
  have HA0:=Lib.hid (show (Tryz.prog.info? 45).map (·.size)=some rec0.size from by rw [rec0_is];kernel_rfl)
  have HM1:=fun w' (x:Ext w w')=>Lib.hid (refMay_any root w' (by omega))
  have HM2:=fun w' (x:Ext w w')=>Lib.hid (refMay_any p w' (by omega))
  have hjs:(root++⟨#[47]⟩++p).size<4294967280:=by simp [ByteArray.size_append,size_mk];omega
  have HRd:=fun w' (x:Ext w w')=>Lib.hid (rread9_any (h.ext x) hl (root++⟨#[47]⟩++p) hjs)
  have hns:=nd_small R.ok.live R.ok.r2 (root++⟨#[47]⟩++p)
  unfold OneIs
  generalize hRE:readE D.live (root++⟨#[47]⟩++p)=RE at *
  obtain ⟨RN,RI⟩:=RE
  dsimp only at hns HRd ⊢
  have HIt:=fun w' (x:Ext w w')=>Lib.hid (ritem17_any p RN w' hns)
  have h1:root.size≤100000:=hr
  have h2:p.size≤100000:=hp
  clear h R hl hns hjs
  rw [rec0_is] at HX HZ
  cases hm1:mayB root with
  | false =>
    rw [hm1] at HM1
    go_enter Tryz.func35,Tryz.ntmps35
    go_wp2_with fail
    refine (HM1 _ HX.out).out.mono ?_
    rintro e w1 ⟨rfl,x1⟩
    have X1:=Lib.hid (HX.out.trans x1)
    have HZ1:=Lib.hid ((x1.block (ltB HZ.out)).trans HZ.out)
    go_wp2_with (first
      | (refine wpList_buildAs rec0 rfl _ _ rfl (by rw [rec0_is];kernel_rfl) ?_;go_frame)
      | (refine wpList_storeT rfl _ _ _ rfl w.heap.size rec0 rfl rfl 45 _ HZ1.out HA0.out HA02.out HA03.out ?_;intro w7 hb7 ht7;have HB7:=Lib.hid hb7;have X7:=Lib.hid (ht7.fresh X1.out (Nat.le_refl _));clear hb7 ht7;go_frame))
    exact bodyPost_ret (results_row1 rfl _ _ w.heap.size 45 _ (0,0) _ rfl HB7.out Tryz.underlying45 rfl HA0.out) rfl ⟨_,_,rfl,⟨(.inl ⟨rfl,rfl,rfl⟩),X7.out⟩⟩
  | true =>
    rw [hm1] at HM1
    cases hm2:mayB p with
    | false =>
      rw [hm2] at HM2
      go_enter Tryz.func35,Tryz.ntmps35
      go_wp2_with fail
      refine (HM1 _ HX.out).out.mono ?_
      rintro e w1 ⟨rfl,x1⟩
      go_wp2_with fail
      refine (HM2 _ (HX.out.trans x1)).out.mono ?_
      rintro e w2 ⟨rfl,x2⟩
      have X1:=Lib.hid ((HX.out.trans x1).trans x2)
      have HZ1:=Lib.hid (((x1.trans x2).block (ltB HZ.out)).trans HZ.out)
      go_wp2_with (first
        | (refine wpList_buildAs rec0 rfl _ _ rfl (by rw [rec0_is];kernel_rfl) ?_;go_frame)
        | (refine wpList_storeT rfl _ _ _ rfl w.heap.size rec0 rfl rfl 45 _ HZ1.out HA0.out HA02.out HA03.out ?_;intro w7 hb7 ht7;have HB7:=Lib.hid hb7;have X7:=Lib.hid (ht7.fresh X1.out (Nat.le_refl _));clear hb7 ht7;go_frame))
      exact bodyPost_ret (results_row1 rfl _ _ w.heap.size 45 _ (0,0) _ rfl HB7.out Tryz.underlying45 rfl HA0.out) rfl ⟨_,_,rfl,⟨(.inl ⟨rfl,rfl,rfl⟩),X7.out⟩⟩
    | true =>
      rw [hm2] at HM2
      go_enter Tryz.func35,Tryz.ntmps35
      go_wp2_with fail
      refine (HM1 _ HX.out).out.mono ?_
      rintro e w1 ⟨rfl,x1⟩
      go_wp2_with fail
      refine (HM2 _ (HX.out.trans x1)).out.mono ?_
      rintro e w2 ⟨rfl,x2⟩
      have X2:=Lib.hid ((HX.out.trans x1).trans x2)
      have HZ2:=Lib.hid (((x1.trans x2).block (ltB HZ.out)).trans HZ.out)
      by_cases hI0:RI=0
      · subst hI0
        obtain ⟨nk,ndt,nt,ntm⟩:=RN
        have HIu:=HIt
        unfold ndV at HRd
        unfold nv at HIt
        dsimp only at HRd HIt
        go_wp2_with fail
        refine (HRd _ X2.out).out.mono ?_
        rintro e w3 ⟨rfl,x3⟩
        have X4:=Lib.hid ((X2.out.trans x3).alloc (.cells #[.int .i64 nk,.string ndt,.string nt,.int .i64 ntm] 84 (0,0)))
        have HZ4:=Lib.hid (((x3.alloc (.cells #[.int .i64 nk,.string ndt,.string nt,.int .i64 ntm] 84 (0,0))).block (ltB HZ2.out)).trans HZ2.out)
        go_wp2_with fail
        refine (HIt _ X4.out).out.mono ?_
        rintro e w5 ⟨C,y,rfl,h5⟩
        have X5:=Lib.hid (X4.out.trans h5.out.2)
        have HZ5:=Lib.hid ((h5.out.2.block (ltB HZ4.out)).trans HZ4.out)
        obtain ⟨hs1,hs2⟩:=item_shape h5.out.1
        have HC1:=Lib.hid (show (Tryz.prog.info? 45).map (·.size)=some C.size from by rw [hs1];kernel_rfl)
        have HC2:=Lib.hid (show 27=C.size from hs1.symm)
        have HC3:=Lib.hid hs2
        clear hs1 hs2
        go_wp2_with (refine wpList_storeT rfl _ _ _ rfl w.heap.size C rfl rfl 45 _ HZ5.out HC1.out HC2.out HC3.out ?_;intro w7 hb7 ht7;have HB7:=Lib.hid hb7;have HT7:=Lib.hid ht7;clear hb7 ht7;go_frame)
        have hsz:w.heap.size<w3.heap.size:=by
          have h1:=ltB HZ2.out
          have h2:=x3.size
          omega
        have hI7:=Lib.hid (item_down (base':=w.heap.size) (item_keep h5.out.1 HT7.out (by rw [size_alloc];omega)) (by rw [size_alloc];omega))
        exact bodyPost_ret (results_row1 rfl _ _ w.heap.size 45 _ (0,0) _ rfl HB7.out Tryz.underlying45 rfl HC1.out) rfl ⟨_,_,rfl,⟨by first | exact hI7.out | exact .inr (.inr ⟨rfl,rfl,hI7.out⟩),HT7.out.fresh X5.out (Nat.le_refl _)⟩⟩
      · have d0:decide (RI=0)=false:=decide_eq_false hI0
        obtain ⟨nk,ndt,nt,ntm⟩:=RN
        unfold ndV at HRd
        dsimp only at HRd
        go_wp2_with fail
        refine (HRd _ X2.out).out.mono ?_
        rintro e w3 ⟨rfl,x3⟩
        have X4:=Lib.hid ((X2.out.trans x3).alloc (.cells #[.int .i64 nk,.string ndt,.string nt,.int .i64 ntm] 84 (0,0)))
        have HZ4:=Lib.hid (((x3.alloc (.cells #[.int .i64 nk,.string ndt,.string nt,.int .i64 ntm] 84 (0,0))).block (ltB HZ2.out)).trans HZ2.out)
        go_wp2_with (first
          | (refine wpList_buildAs rec0 rfl _ _ rfl (by rw [rec0_is];kernel_rfl) ?_;go_frame)
          | (refine wpList_storeT rfl _ _ _ rfl w.heap.size rec0 rfl rfl 45 _ HZ4.out HA0.out HA02.out HA03.out ?_;intro w7 hb7 ht7;have HB7:=Lib.hid hb7;have X7:=Lib.hid (ht7.fresh X4.out (Nat.le_refl _));clear hb7 ht7;go_frame))
        exact bodyPost_ret (results_row1 rfl _ _ w.heap.size 45 _ (0,0) _ rfl HB7.out Tryz.underlying45 rfl HA0.out) rfl ⟨_,_,rfl,⟨.inr (.inl ⟨rfl,hI0,rfl,rfl⟩),X7.out⟩⟩
end Go.Proofs.YtodickpibbbiiaaGreatDoor

namespace Go.Proofs.YtodickpibbbiiaaGreatDoor
open Go.RowKit

def HsCells (w:World) (a:Option Addr) (n:Nat) (f:Nat→Int):Prop:=∀ j,j<n*32→∃ g,a=some ⟨g,0,none⟩∧g<w.heap.size∧w.cell? ⟨g,j,none⟩=some (.int .u8 (f j))
theorem HsCells.ext {w w':World} {a:Option Addr} {n:Nat} {f:Nat→Int} (h:HsCells w a n f) (x:Ext w w'):HsCells w' a n f:=fun j hj=>by
  obtain ⟨g,h1,h2,h3⟩:=h j hj
  exact ⟨g,h1,Nat.lt_of_lt_of_le h2 x.size,(x.cell h2).trans h3⟩

set_option maxRecDepth 100000 in
set_option maxHeartbeats 2000000 in
theorem rhashes06_same (a b:Option Addr) (n c1 c2:Nat) (f:Nat→Int) (w:World) (hn:n≤64) (h1:n≤c1) (h2:n≤c2) (hA:HsCells w a n f) (hB:HsCells w b n f) :
    Calls Tryz.prog 282 #[.slice a n c1,.slice b n c2] w fun e w'=>e=.returned (.int .i64 0)∧Ext w w':=by
  have HA:=Lib.hid hA
  have HB:=Lib.hid hB
  clear hA hB
  go_enter Tryz.func282,Tryz.ntmps282
  go_wp2_with fail
  go_loopw [5] (fun iv wr=>Hid (∃ i:Nat,i≤n∧iv=.int .i64 i∧Ext w wr)) (fun iv _=>n - (intOf iv).toNat)
  case atStart=>exact ⟨0,Nat.zero_le _,rfl,Ext.refl _⟩
  case round =>
    obtain ⟨i,hi,rfl,hx⟩:=hrel.out
    clear hrel
    have HX:=Lib.hid hx
    clear hx
    by_cases hlt:i<n
    · obtain ⟨wa,rfl⟩:∃ x,x=wr:=⟨_,rfl⟩
      go_wp2_with fail
      go_loopw [6] (fun kv wq=>Hid (∃ k:Nat,k≤32∧kv=.int .i64 k∧Ext wa wq)) (fun kv _=>32 - (intOf kv).toNat)
      case atStart=>exact ⟨0,Nat.zero_le _,rfl,Ext.refl _⟩
      case round =>
        obtain ⟨k,hk,rfl,hxq⟩:=hrel.out
        clear hrel
        have HXq:=Lib.hid hxq
        clear hxq
        by_cases hklt:k<32
        · obtain ⟨g,rfl,_,hc⟩:=HA.out (i*32+k) (by omega)
          obtain ⟨g',rfl,_,hd⟩:=HB.out (i*32+k) (by omega)
          have X:=Lib.hid (HX.out.trans HXq.out)
          have b0:∀ z:After wr,z.v.cell? ⟨g,i*32+k,none⟩=some (.int .u8 (f (i*32+k))):=fun z=>((X.out.trans z.x).cell (lt_of_cell hc)).trans hc
          have d0:∀ z:After wr,z.v.cell? ⟨g',i*32+k,none⟩=some (.int .u8 (f (i*32+k))):=fun z=>((X.out.trans z.x).cell (lt_of_cell hd)).trans hd
          clear hc hd
          generalize f (i*32+k)=y at *
          go_wp2_with fail
          refine wp_region_after (by kernel_rfl) (by kernel_rfl) ?_
          repeat (go_big_quiet_step (fail))
          refine wpQuiet_nil ?_
          rintro _ ⟨z,rfl⟩
          have HZx:=Lib.hid z.x
          clear b0 d0
          go_wp2_with fail
          go_roundw
          case rel=>exact ⟨k+1,by omega,by go_num,HXq.out.trans HZx.out⟩
          case measure=>simp [intOf] <;> omega
        · obtain rfl:k=32:=by omega
          go_wp2_with fail
          go_roundw
          case rel=>exact ⟨i+1,by omega,by go_num,HX.out.trans HXq.out⟩
          case measure=>simp [intOf] <;> omega
    · obtain rfl:i=n:=by omega
      have nlt:decide ((i:Int)<(i:Int))=false:=by simp
      go_wp2_with fail
      go_ret
      exact ⟨rfl,HX.out⟩

set_option maxRecDepth 100000 in
set_option maxHeartbeats 1000000 in
theorem rblocks06_same (a b:Option Addr) (n c1 c2:Nat) (f:Nat→Int) (w:World) (hn:n≤64) (h1:n≤c1) (h2:n≤c2) (hA:HsCells w a n f) (hB:HsCells w b n f) :
    Calls Tryz.prog 225 #[.slice a n c1,.slice b n c2] w fun e w'=>e=.returned (.bool true)∧Ext w w':=by
  have H:=Lib.hid (rhashes06_same a b n c1 c2 f w hn h1 h2 hA hB)
  clear hA hB
  go_enter Tryz.func225,Tryz.ntmps225
  go_wp2_with fail
  refine H.out.mono ?_
  rintro e w1 ⟨rfl,x1⟩
  go_wp2_with fail
  go_ret
  exact ⟨rfl,x1⟩

set_option maxRecDepth 100000 in
set_option maxHeartbeats 2000000 in
theorem rcontent06_same (p:ByteArray) (n:Nd) (sz bs:Int) (a b:Option Addr) (m c1 c2:Nat) (f:Nat→Int) (w:World) (hm:m≤64) (h1:m≤c1) (h2:m≤c2) (hA:HsCells w a m f) (hB:HsCells w b m f) :
    Calls Tryz.prog 161 #[.agg (itemC p n sz bs (.slice a m c1)),.agg (itemC p n sz bs (.slice b m c2))] w fun e w'=>e=.returned (.bool true)∧Ext w w':=by
  have H:=Lib.hid (fun w' (x:Ext w w')=>rblocks06_same a b m c1 c2 f w' hm h1 h2 (hA.ext x) (hB.ext x))
  clear hA hB
  obtain ⟨nk,nd,nt,nm⟩:=n
  unfold itemC
  dsimp only
  go_enter Tryz.func161,Tryz.ntmps161
  go_wp2_with fail
  refine (H.out _ (((Ext.refl w).alloc _).alloc _)).mono ?_
  rintro e w1 ⟨rfl,x1⟩
  have X1:=Lib.hid ((((Ext.refl w).alloc _).alloc _).trans x1)
  clear x1
  go_wp2_with fail
  go_ret
  exact ⟨rfl,X1.out⟩
theorem eq_vec0 (w:World):(Go.Op.equalIn 10000 42 (.agg #[.int .u32 0,.int .u32 0,.int .u32 0,.int .u32 0,.int .u32 0,.int .u32 0,.int .u32 0,.int .u32 0,.int .u32 0,.int .u32 0,.int .u32 0,.int .u32 0,.int .u32 0,.int .u32 0,.int .u32 0,.int .u32 0]) (.agg #[.int .u32 0,.int .u32 0,.int .u32 0,.int .u32 0,.int .u32 0,.int .u32 0,.int .u32 0,.int .u32 0,.int .u32 0,.int .u32 0,.int .u32 0,.int .u32 0,.int .u32 0,.int .u32 0,.int .u32 0,.int .u32 0])).run Tryz.prog w=.ok true w:=by kernel_rfl
theorem wpList_box2 {P:Program} {ops:Array Oper} {rest:List Oper} {o1 o2:Oper} {a:Act} {w:World} {Q:Exit→Act→World→Prop} (g1:o1.guard=none) (g2:o2.guard=none) (ty:TypeId) (x y:Operand) (h1:o1.op=.box ty x) (h2:o2.op=.box ty y)
    (C1 C2:Array Value) (hx:a.eval x=.agg C1) (hy:(a.put o1.dst (.pointer (some ⟨w.heap.size,0,none⟩))).eval y=.agg C2) (W:World) (hW:W=(w.alloc (.cells C1 ty (0,0))).alloc (.cells C2 ty (0,0)))
    (h:wpList P ops Q rest ((a.put o1.dst (.pointer (some ⟨w.heap.size,0,none⟩))).put o2.dst (.pointer (some ⟨w.heap.size+1,0,none⟩))) W):wpList P ops Q (o1::o2::rest) a w:=by
  refine wpList_plain g1 fun K hK=>?_
  unfold Oper.wp
  rw [run_boxOp ty x h1 w C1 (by rw [hx];rfl)]
  refine hK _ _ (wpList_plain g2 fun K2 hK2=>?_)
  unfold Oper.wp
  rw [run_boxOp ty y h2 _ C2 (by rw [hy];rfl),size_alloc]
  refine hK2 _ _ ?_
  rw [hW] at h
  exact h
theorem wpList_load_row_g {P:Program} {ops:Array Oper} {rest:List Oper} {op:Oper} {a:Act} {w:World} {Q:Exit→Act→World→Prop} (hw:Region.wanted op (yielded ops a.tmps)=true) (ty:TypeId) (x:Operand) (ho:op.op=.load ty x)
    (g:Nat) (hx:a.eval x=.pointer (some ⟨g,0,none⟩)) (t:TypeId) (cs:Array Value) (fr:Nat×Nat) (d:TypeDesc) (hg:w.heap[g]?=some (.cells cs t fr))
    (hu:P.underlying ty=some d) (hd:(match d with | .struct _ | .array _ _=>true | _=>false)=true) (hi:(P.info? ty).map (·.size)=some cs.size)
    (h:wpList P ops Q rest (a.put op.dst (.agg cs)) w):wpList P ops Q (op::rest) a w :=
  BigFrame.wpList_want hw fun K hK=>by
    have h2:=hK _ _ h
    unfold Oper.wp execOp
    simp only [ho,hx,Instr.loadAt,Instr.sureAddr,Sem.run_bind,Sem.run_pure,Result.andThen_ok,run_loadVar_row w g t ty cs fr d hg hu hd hi]
    exact h2
theorem wpList_load_at_g {P:Program} {ops:Array Oper} {rest:List Oper} {op:Oper} {a:Act} {w:World} {Q:Exit→Act→World→Prop} (hw:Region.wanted op (yielded ops a.tmps)=true) (ty:TypeId) (x:Operand) (ho:op.op=.load ty x)
    (b o:Nat) (hx:a.eval x=.pointer (some ⟨b,o,none⟩)) (cs:Array Value) (d:TypeDesc) (hc:w.rangeAt b o cs.toList)
    (hu:P.underlying ty=some d) (hd:d.isRow=true) (hi:(P.info? ty).map (·.size)=some cs.size)
    (h:wpList P ops Q rest (a.put op.dst (.agg cs)) w):wpList P ops Q (op::rest) a w :=
  BigFrame.wpList_want hw fun K hK=>by
    have h2:=hK _ _ h
    unfold Oper.wp execOp
    simp only [ho,hx,Instr.loadAt,Instr.sureAddr,Sem.run_bind,Sem.run_pure,Result.andThen_ok,run_loadVar_mid w b o ty cs.toList d hc hu hd (by rw [hi];simp)]
    exact h2
set_option maxRecDepth 100000 in
set_option maxHeartbeats 2000000 in
theorem rsame06_same (p:ByteArray) (n:Nd) (sz bs:Int) (a b:Option Addr) (m c1 c2:Nat) (f:Nat→Int) (w:World) (hm:m≤64) (h1:m≤c1) (h2:m≤c2) (hA:HsCells w a m f) (hB:HsCells w b m f) :
    Calls Tryz.prog 90 #[.agg (itemC p n sz bs (.slice a m c1)),.agg (itemC p n sz bs (.slice b m c2))] w fun e w'=>e=.returned (.bool true)∧Ext w w':=by
  have H:=Lib.hid (fun w' (x:Ext w w')=>rcontent06_same p n sz bs a b m c1 c2 f w' hm h1 h2 (hA.ext x) (hB.ext x))
  clear hA hB
  obtain ⟨nk,nd,nt,nm⟩:=n
  have HS1:=Lib.hid (show (Tryz.prog.info? 45).map (·.size)=some (itemC p ⟨nk,nd,nt,nm⟩ sz bs (.slice a m c1)).size from by kernel_rfl)
  have HS2:=Lib.hid (show (Tryz.prog.info? 45).map (·.size)=some (itemC p ⟨nk,nd,nt,nm⟩ sz bs (.slice b m c2)).size from by kernel_rfl)
  generalize hC1:itemC p ⟨nk,nd,nt,nm⟩ sz bs (.slice a m c1)=C1 at *
  generalize hC2:itemC p ⟨nk,nd,nt,nm⟩ sz bs (.slice b m c2)=C2 at *
  obtain ⟨W,hW⟩:∃ W,W=(w.alloc (.cells C1 45 (0,0))).alloc (.cells C2 45 (0,0)):=⟨_,rfl⟩
  have XW:=Lib.hid (show Ext w W from hW▸((Ext.refl w).alloc _).alloc _)
  have HB1:=Lib.hid (show W.heap[w.heap.size]?=some (.cells C1 45 (0,0)) from by rw [hW];exact (block_alloc_old (by simp only [size_alloc];omega)).trans (block_alloc_new _ _))
  have HB2:=Lib.hid (show W.heap[w.heap.size+1]?=some (.cells C2 45 (0,0)) from by rw [hW];have:=block_alloc_new (w.alloc (.cells C1 45 (0,0))) (.cells C2 45 (0,0));rwa [size_alloc] at this)
  have a0:W.cell? ⟨w.heap.size,0,none⟩=some (.string p):=(cellB HB1.out).trans (by rw [←hC1];rfl)
  have b0:W.cell? ⟨w.heap.size+1,0,none⟩=some (.string p):=(cellB HB2.out).trans (by rw [←hC2];rfl)
  have a4:W.cell? ⟨w.heap.size,4,none⟩=some (.int .i64 nm):=(cellB HB1.out).trans (by rw [←hC1];rfl)
  have b4:W.cell? ⟨w.heap.size+1,4,none⟩=some (.int .i64 nm):=(cellB HB2.out).trans (by rw [←hC2];rfl)
  have a5:W.cell? ⟨w.heap.size,5,none⟩=some (.int .i64 0):=(cellB HB1.out).trans (by rw [←hC1];rfl)
  have b5:W.cell? ⟨w.heap.size+1,5,none⟩=some (.int .i64 0):=(cellB HB2.out).trans (by rw [←hC2];rfl)
  have a22:W.cell? ⟨w.heap.size,22,none⟩=some (.int .i64 bs):=(cellB HB1.out).trans (by rw [←hC1];rfl)
  have b22:W.cell? ⟨w.heap.size+1,22,none⟩=some (.int .i64 bs):=(cellB HB2.out).trans (by rw [←hC2];rfl)
  have a26:W.cell? ⟨w.heap.size,26,none⟩=some (.int .i64 0):=(cellB HB1.out).trans (by rw [←hC1];rfl)
  have b26:W.cell? ⟨w.heap.size+1,26,none⟩=some (.int .i64 0):=(cellB HB2.out).trans (by rw [←hC2];rfl)
  have HV1:=Lib.hid (show W.rangeAt w.heap.size 6 (#[.int .u32 0,.int .u32 0,.int .u32 0,.int .u32 0,.int .u32 0,.int .u32 0,.int .u32 0,.int .u32 0,.int .u32 0,.int .u32 0,.int .u32 0,.int .u32 0,.int .u32 0,.int .u32 0,.int .u32 0,.int .u32 0]:Array Value).toList from fun j z hz=>by
    refine (cellB HB1.out).trans ?_
    rw [←hC1]
    have hj:j<16:=(List.getElem?_eq_some_iff.1 hz).1
    obtain rfl | rfl | rfl | rfl | rfl | rfl | rfl | rfl | rfl | rfl | rfl | rfl | rfl | rfl | rfl | rfl:j=0∨j=1∨j=2∨j=3∨j=4∨j=5∨j=6∨j=7∨j=8∨j=9∨j=10∨j=11∨j=12∨j=13∨j=14∨j=15:=by omega
    all_goals exact hz)
  have HV2:=Lib.hid (show W.rangeAt (w.heap.size+1) 6 (#[.int .u32 0,.int .u32 0,.int .u32 0,.int .u32 0,.int .u32 0,.int .u32 0,.int .u32 0,.int .u32 0,.int .u32 0,.int .u32 0,.int .u32 0,.int .u32 0,.int .u32 0,.int .u32 0,.int .u32 0,.int .u32 0]:Array Value).toList from fun j z hz=>by
    refine (cellB HB2.out).trans ?_
    rw [←hC2]
    have hj:j<16:=(List.getElem?_eq_some_iff.1 hz).1
    obtain rfl | rfl | rfl | rfl | rfl | rfl | rfl | rfl | rfl | rfl | rfl | rfl | rfl | rfl | rfl | rfl:j=0∨j=1∨j=2∨j=3∨j=4∨j=5∨j=6∨j=7∨j=8∨j=9∨j=10∨j=11∨j=12∨j=13∨j=14∨j=15:=by omega
    all_goals exact hz)
  have HWW:=Lib.hid hW
  clear hC1 hC2 hW
  have HEV:=eq_vec0 W
  go_enter Tryz.func90,Tryz.ntmps90
  go_wp2_with (first
    | (refine wpList_box2 rfl rfl 45 (.tmp 0) (.tmp 1) rfl rfl C1 C2 rfl rfl W HWW.out ?_;go_frame)
    | (refine wpList_load_at_g ?_ 42 (.tmp 25) rfl (w.heap.size) 6 rfl #[.int .u32 0,.int .u32 0,.int .u32 0,.int .u32 0,.int .u32 0,.int .u32 0,.int .u32 0,.int .u32 0,.int .u32 0,.int .u32 0,.int .u32 0,.int .u32 0,.int .u32 0,.int .u32 0,.int .u32 0,.int .u32 0] _ HV1.out Tryz.underlying42 rfl (by kernel_rfl) ?_;(focus (simp [Region.wanted,yielded];done));go_frame)
    | (refine wpList_load_at_g ?_ 42 (.tmp 27) rfl (w.heap.size+1) 6 rfl #[.int .u32 0,.int .u32 0,.int .u32 0,.int .u32 0,.int .u32 0,.int .u32 0,.int .u32 0,.int .u32 0,.int .u32 0,.int .u32 0,.int .u32 0,.int .u32 0,.int .u32 0,.int .u32 0,.int .u32 0,.int .u32 0] _ HV2.out Tryz.underlying42 rfl (by kernel_rfl) ?_;(focus (simp [Region.wanted,yielded];done));go_frame)
    | (refine wpList_load_row_g ?_ 45 (.tmp 2) rfl w.heap.size rfl 45 C1 (0,0) _ HB1.out Tryz.underlying45 rfl HS1.out ?_;(focus (simp [Region.wanted,yielded];done));go_frame)
    | (refine wpList_load_row_g ?_ 45 (.tmp 3) rfl (w.heap.size+1) rfl 45 C2 (0,0) _ HB2.out Tryz.underlying45 rfl HS2.out ?_;(focus (simp [Region.wanted,yielded];done));go_frame)
)
  refine (H.out _ XW.out).mono ?_
  rintro e w1 ⟨rfl,x1⟩
  have X1:=Lib.hid (XW.out.trans x1)
  clear x1
  go_wp2_with fail
  go_ret
  exact ⟨rfl,X1.out⟩
set_option maxRecDepth 100000 in
set_option maxHeartbeats 2000000 in
theorem rwhole06_same (p:ByteArray) (n:Nd) (sz bs:Int) (a b:Option Addr) (m c1 c2:Nat) (f:Nat→Int) (w:World) (hm:m≤64) (h1:m≤c1) (h2:m≤c2) (hA:HsCells w a m f) (hB:HsCells w b m f) :
    Calls Tryz.prog 36 #[.agg (itemC p n sz bs (.slice a m c1)),.agg (itemC p n sz bs (.slice b m c2))] w fun e w'=>e=.returned (.bool true)∧Ext w w':=by
  have H:=Lib.hid (fun w' (x:Ext w w')=>rsame06_same p n sz bs a b m c1 c2 f w' hm h1 h2 (hA.ext x) (hB.ext x))
  clear hA hB
  obtain ⟨nk,nd,nt,nm⟩:=n
  have HS1:=Lib.hid (show (Tryz.prog.info? 45).map (·.size)=some (itemC p ⟨nk,nd,nt,nm⟩ sz bs (.slice a m c1)).size from by kernel_rfl)
  have HS2:=Lib.hid (show (Tryz.prog.info? 45).map (·.size)=some (itemC p ⟨nk,nd,nt,nm⟩ sz bs (.slice b m c2)).size from by kernel_rfl)
  generalize hC1:itemC p ⟨nk,nd,nt,nm⟩ sz bs (.slice a m c1)=C1 at *
  generalize hC2:itemC p ⟨nk,nd,nt,nm⟩ sz bs (.slice b m c2)=C2 at *
  obtain ⟨W,hW⟩:∃ W,W=(w.alloc (.cells C1 45 (0,0))).alloc (.cells C2 45 (0,0)):=⟨_,rfl⟩
  have XW:=Lib.hid (show Ext w W from hW▸((Ext.refl w).alloc _).alloc _)
  have HB1:=Lib.hid (show W.heap[w.heap.size]?=some (.cells C1 45 (0,0)) from by rw [hW];exact (block_alloc_old (by simp only [size_alloc];omega)).trans (block_alloc_new _ _))
  have HB2:=Lib.hid (show W.heap[w.heap.size+1]?=some (.cells C2 45 (0,0)) from by rw [hW];have:=block_alloc_new (w.alloc (.cells C1 45 (0,0))) (.cells C2 45 (0,0));rwa [size_alloc] at this)
  have a25:W.cell? ⟨w.heap.size,25,none⟩=some (.int .i64 0):=(cellB HB1.out).trans (by rw [←hC1];rfl)
  have b25:W.cell? ⟨w.heap.size+1,25,none⟩=some (.int .i64 0):=(cellB HB2.out).trans (by rw [←hC2];rfl)
  have HWW:=Lib.hid hW
  clear hC1 hC2 hW
  go_enter Tryz.func36,Tryz.ntmps36
  go_wp2_with (first
    | (refine wpList_box2 rfl rfl 45 (.tmp 0) (.tmp 1) rfl rfl C1 C2 rfl rfl W HWW.out ?_;go_frame)
    | (refine wpList_load_row_g ?_ 45 (.tmp 2) rfl w.heap.size rfl 45 C1 (0,0) _ HB1.out Tryz.underlying45 rfl HS1.out ?_;(focus (simp [Region.wanted,yielded];done));go_frame)
    | (refine wpList_load_row_g ?_ 45 (.tmp 3) rfl (w.heap.size+1) rfl 45 C2 (0,0) _ HB2.out Tryz.underlying45 rfl HS2.out ?_;(focus (simp [Region.wanted,yielded];done));go_frame)
)
  refine (H.out _ XW.out).mono ?_
  rintro e w1 ⟨rfl,x1⟩
  have X1:=Lib.hid (XW.out.trans x1)
  clear x1
  go_wp2_with fail
  go_ret
  exact ⟨rfl,X1.out⟩
end Go.Proofs.YtodickpibbbiiaaGreatDoor

namespace Go.Proofs.YtodickpibbbiiaaGreatDoor
open Go.RowKit

theorem hrow_flat (hs:List (List UInt8)):hrow hs=hs.flatten.map bv:=by
  unfold hrow
  induction hs with
  | nil=>rfl
  | cons h t ih=>simp only [List.flatMap_cons,List.flatten_cons,List.map_append,ih]
theorem hs_cells {w:World} {base:Nat} {u:Value} {n:Nat} {hs:List (List UInt8)} (h:w.ownsRow base 54 32 u n (hrow hs)):∃ a c,u=.slice a n c∧n≤c∧HsCells w a n fun j=>((hs.flatten.getD j 0).toNat:Nat):=by
  obtain ⟨a,c,e,h1,_,_,h2⟩:=row_cells h
  refine ⟨a,c,e,h1,fun j hj=>?_⟩
  have hl:(hrow hs).length=n*32:=h.1
  have hj2:j<hs.flatten.length:=by rw [hrow_flat,List.length_map] at hl;omega
  obtain ⟨g,e1,_,e2,e3⟩:=h2 j (bv hs.flatten[j]) (by rw [hrow_flat,List.getElem?_map,List.getElem?_eq_getElem hj2];rfl)
  exact ⟨g,e1,e2,by rw [e3];show _=some (Value.int .u8 ((hs.flatten.getD j 0).toNat:Nat));rw [List.getD_eq_getElem?_getD,List.getElem?_eq_getElem hj2];rfl⟩
end Go.Proofs.YtodickpibbbiiaaGreatDoor

namespace Go.Proofs.YtodickpibbbiiaaGreatDoor
open Go.RowKit

theorem one_shape {base:Nat} {w':World} {l:Nodes} {r p:ByteArray} {C:Array Value} {e:Int} (h:OneIs base w' l r p C e):C.size=27∧C.all (·.oneCell')=true:=by
  rcases h with ⟨_,rfl,_⟩ | ⟨_,_,rfl,_⟩ | ⟨_,_,h⟩
  · exact ⟨rfl,by rw [rec0_is];simp [Value.oneCell']⟩
  · exact ⟨rfl,by rw [rec0_is];simp [Value.oneCell']⟩
  · exact item_shape h
def SameC (w w':World) (C C':Array Value):Prop :=
  ∃ q n sz bs a m c1 b c2 f,C=itemC q n sz bs (.slice a m c1)∧C'=itemC q n sz bs (.slice b m c2)∧m≤c1∧m≤c2∧m≤64∧HsCells w a m f∧HsCells w' b m f
theorem SameC.rec0 (w w':World):SameC w w' rec0 rec0:=⟨⟨#[]⟩,⟨0,⟨#[]⟩,⟨#[]⟩,0⟩,0,0,none,0,0,none,0,fun _=>0,rfl,rfl,Nat.le_refl _,Nat.le_refl _,by decide,fun j hj=>by omega,fun j hj=>by omega⟩
theorem item_pair {b b':Nat} {w w':World} {p:ByteArray} {n:Nd} {C C':Array Value} {e e':Int} (h:ItemIs b w p n C e) (k:ItemIs b' w' p n C' e'):e=e'∧SameC w w' C C':=by
  rcases h with ⟨h1,rfl,rfl⟩ | ⟨h1,h2,rfl,u,rfl,hu⟩ | ⟨h1,h2,rfl,rfl⟩
  · rcases k with ⟨_,rfl,rfl⟩ | ⟨k1,_⟩ | ⟨k1,_⟩
    · exact ⟨rfl,p,n,0,0,none,0,0,none,0,fun _=>0,rfl,rfl,Nat.le_refl _,Nat.le_refl _,by decide,fun j hj=>by omega,fun j hj=>by omega⟩
    · exact absurd k1 h1
    · exact absurd k1 h1
  · rcases k with ⟨k1,_⟩ | ⟨_,_,rfl,v,rfl,hv⟩ | ⟨_,k2,_⟩
    · exact absurd h1 k1
    · obtain ⟨a,c1,rfl,q1,f1⟩:=hs_cells hu
      obtain ⟨a',c2,rfl,q2,f2⟩:=hs_cells hv
      exact ⟨rfl,p,n,_,_,a,_,c1,a',c2,_,rfl,rfl,q1,q2,Nat.le_trans (count_le h2) (by decide),f1,f2⟩
    · omega
  · rcases k with ⟨k1,_⟩ | ⟨_,k2,_⟩ | ⟨_,_,rfl,rfl⟩
    · exact absurd h1 k1
    · omega
    · exact ⟨rfl,SameC.rec0 _ _⟩
theorem one_pair {b b':Nat} {w w':World} {l:Nodes} {r p:ByteArray} {C C':Array Value} {e e':Int} (h:OneIs b w l r p C e) (k:OneIs b' w' l r p C' e'):e=e'∧SameC w w' C C':=by
  rcases h with ⟨h1,rfl,rfl⟩ | ⟨h1,h2,rfl,rfl⟩ | ⟨h1,h2,h3⟩
  · rcases k with ⟨_,rfl,rfl⟩ | ⟨k1,_⟩ | ⟨k1,_⟩
    · exact ⟨rfl,SameC.rec0 _ _⟩
    · rw [h1] at k1;cases k1
    · rw [h1] at k1;cases k1
  · rcases k with ⟨k1,_⟩ | ⟨_,_,rfl,rfl⟩ | ⟨_,k2,_⟩
    · rw [h1] at k1;cases k1
    · exact ⟨rfl,SameC.rec0 _ _⟩
    · exact absurd k2 h2
  · rcases k with ⟨k1,_⟩ | ⟨_,k2,_⟩ | ⟨_,_,k3⟩
    · rw [h1] at k1;cases k1
    · exact absurd h2 k2
    · exact item_pair h3 k3
theorem whole_same {w:World} {C C':Array Value} (h:SameC w w C C'):Calls Tryz.prog 36 #[.agg C,.agg C'] w fun e w'=>e=.returned (.bool true)∧Ext w w':=by
  obtain ⟨q,n,sz,bs,a,m,c1,b,c2,f,rfl,rfl,h1,h2,h3,h4,h5⟩:=h
  exact rwhole06_same q n sz bs a b m c1 c2 f w h3 h1 h2 h4 h5
theorem SameC.ext {w1 w2 w:World} {C C':Array Value} (h:SameC w1 w2 C C') (x1:Ext w1 w) (x2:Ext w2 w):SameC w w C C':=by
  obtain ⟨q,n,sz,bs,a,m,c1,b,c2,f,e1,e2,h1,h2,h3,h4,h5⟩:=h
  exact ⟨q,n,sz,bs,a,m,c1,b,c2,f,e1,e2,h1,h2,h3,h4.ext x1,h5.ext x2⟩
end Go.Proofs.YtodickpibbbiiaaGreatDoor
