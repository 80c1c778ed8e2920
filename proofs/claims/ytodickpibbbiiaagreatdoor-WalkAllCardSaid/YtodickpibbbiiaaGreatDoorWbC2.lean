/- Contract of caravan/glob's Match, Negated, Deletable, Text. Contracts of caravanref07's class and element. Printed by gen_refc.py. Contracts of caravanref07's element and Parse. Printed by gen_refd.py. Contract of caravanref07's holds. Printed by gen_refe.py. Contract of caravanref07's whole. Printed by gen_refw.py. Contract of caravanref07's Match. Printed by gen_refx.py. -/
import Derived.Test.YtodickpibbbiiaaGreatDoorWbC1
import Derived.Outline
namespace Go.Proofs.YtodickpibbbiiaaGreatDoor
open Go.RowKit

theorem elementsL_ge:∀ {n:Nat} {acc es:List GE} {s:List UInt8},elementsL n acc s=some es→acc.length≤es.length∧(s≠[]→acc.length<es.length)
  | 0,_,_,_,h=>by cases h
  | n+1,acc,es,s,h=>by
    unfold elementsL at h
    split at h
    · rename_i hs;cases h;exact ⟨Nat.le_refl _,fun q=>absurd (List.isEmpty_iff.1 hs) q⟩
    · split at h
      · cases h
      · have:=(elementsL_ge h).1
        simp at this
        exact ⟨by omega,fun _=>by omega⟩
theorem patL_ne {s:List UInt8} {p:Pat} (h:patL s=.ok p):p.es≠[]:=by
  unfold patL at h
  split at h
  · cases h
  · split at h
    · cases h
    · split at h
      · cases h
      · rename_i hne
        split at h
        · cases h
        · rename_i he
          cases h
          have:=(elementsL_ge he).2 (fun q=>hne (by rw [q];rfl))
          intro q
          simp only at q
          rw [q] at this
          simp at this

theorem startL_pos (r:Bool) (s:ByteArray) (a:Nat) (c:UInt8) (h:0<a) (hc:s.toList[a - 1]?=some c):startL r s.toList a=(!r&&c==47):=by
  unfold startL
  rw [hc,show (a==0)=false from beq_eq_false_iff_ne.2 (by omega)]
  simp
theorem endL_last (s:ByteArray):endL s.toList s.size=true:=by unfold endL;rw [len_toList];simp
theorem endL_at (s:ByteArray) (b:Nat) (c:UInt8) (h:b<s.size) (hc:s.toList[b]?=some c):endL s.toList b=(c==47):=by
  unfold endL
  rw [hc,len_toList,show (b==s.size)=false from beq_eq_false_iff_ne.2 (by omega)]
  simp

set_option maxHeartbeats 4000000 in
set_option maxRecDepth 100000 in
theorem gmatch_any (bp:Nat) (t s:ByteArray) (p:Pat) (Far:Nat→Prop) (w:World) (hs:s.size≤maxLen) (hp:PatAt w Far bp t p) (hne:p.es≠[]) :
    Calls Tryz.prog 133 #[.pointer (some ⟨bp,0,none⟩),.string s] w fun e w'=>e=.returned (.bool (matchL p s.toList))∧Ext w w':=by
  obtain ⟨v,l,hb,he,hl⟩:=hp.blk
  obtain ⟨va,cap,rfl,h1,h2,h3⟩:=he.row
  unfold maxLen at h2 hs
  have hll:0<l.length:=by
    rw [←hl] at hne
    cases l with
    | nil=>exact absurd rfl hne
    | cons a b=>simp
  have c5:w.cell? ⟨bp,5,none⟩=some (.slice va l.length cap):=cell_of_block hb
  have C4:=Lib.hid (show w.cell? ⟨bp,4,none⟩=some (.bool p.rooted) from cell_of_block hb)
  have hlt:=lt_of_block hb
  have HP:=Lib.hid hp
  have HM:=Lib.hid (matchL_rows p s.toList)
  clear he hl h3 hb hne hp
  generalize matchL p s.toList=M at *
  have nl:((l.length:Int)==0)=false:=beq_eq_false_iff_ne.2 (by omega)
  by_cases h160:160<s.size
  · have HF:=Lib.hid (show M=false from by rw [HM.out,len_toList];simp;omega)
    clear HM
    go_enter Tryz.func133,Tryz.ntmps133
    go_wp2_with fail
    go_ret
    exact ⟨ret_bool HF.out.symm,Ext.refl _⟩
  · have hs2:s.size≤160:=by omega
    have HM2:=Lib.hid (show M=(List.range (s.size+1)).any (rowL p s.toList) from by rw [HM.out,len_toList];simp [hs2])
    clear HM
    have HE:=fun a (wr:World) (ha:a≤s.size) (hx:Ext w wr)=>Lib.hid (ends_any bp t s p a Far wr (by omega) ha (HP.out.ext hx))
    go_enter Tryz.func133,Tryz.ntmps133
    go_wp2_with fail
    go_loopw [5] (fun fv wr=>Hid (∃ a:Nat,a≤s.size+1∧fv=.int .i64 a∧NoneOf a (rowL p s.toList)∧Ext w wr)) (fun fv _=>s.size+1 - (intOf fv).toNat)
    case atStart=>exact ⟨0,by omega,rfl,NoneOf.zero _,Ext.refl _⟩
    case round =>
      obtain ⟨a,ha,rfl,hN,hX⟩:=hrel.out
      clear hrel
      have HN:=Lib.hid hN
      have HX:=Lib.hid hX
      have c4:wr.cell? ⟨bp,4,none⟩=some (.bool p.rooted):=(hX.cell hlt).trans C4.out
      clear hN hX
      by_cases has:a≤s.size
      · have key:(startL p.rooted s.toList a=true∧(a=0∨∃ (j:Nat) (hj:j<s.size),a=j+1∧p.rooted=false∧s[j]=47))∨(startL p.rooted s.toList a=false∧0<a∧(p.rooted=true∨∃ (j:Nat) (hj:j<s.size),a=j+1∧p.rooted=false∧s[j]≠47)):=by
          rcases Nat.eq_zero_or_pos a with h0 | h0
          · subst h0;exact .inl ⟨rfl,.inl rfl⟩
          · have hc:=startL_pos p.rooted s a (s[a - 1]'(by omega)) h0 (getElem_toList s (a - 1) (by omega))
            cases hr:p.rooted with
            | true=>rw [hr] at hc;exact .inr ⟨hc,h0,.inl rfl⟩
            | false =>
              rw [hr] at hc
              by_cases h47:s[a - 1]'(by omega)=47
              · exact .inl ⟨by rw [hc,h47];rfl,.inr ⟨a - 1,by omega,by omega,rfl,h47⟩⟩
              · exact .inr ⟨by rw [hc];simp [h47],h0,.inr ⟨a - 1,by omega,by omega,rfl,h47⟩⟩
        rcases key with ⟨hst,hcase⟩ | ⟨hst,h0,hcase⟩
        · have HST:=Lib.hid hst
          rcases hcase with rfl | ⟨j,hj,rfl,hr,h47⟩
          · clear hst
            go_wp2_with fail
            refine ((HE 0 _ (by omega) HX.out).out).mono ?_
            rintro e w1 ⟨v,rfl,⟨g,rfl,hg⟩,x1⟩
            have HG:=Lib.hid hg
            have HX1:=Lib.hid (HX.out.trans x1)
            clear hg x1 c4
            obtain ⟨wo,rfl⟩:∃ wo:World,wo=wr:=⟨_,rfl⟩
            go_wp2_with fail
            go_loopw [49] (fun iv wr=>Hid (∃ b:Nat,b≤s.size+1∧iv=.int .i64 b∧NoneOf b (fun b=>endsL p.marks.fold p.es s.toList (0) b&&endL s.toList b)∧Ext w1 wr)) (fun iv _=>s.size+1 - (intOf iv).toNat)
            case atStart=>exact ⟨0,by omega,rfl,NoneOf.zero _,Ext.refl _⟩
            case round =>
              obtain ⟨b,hb,rfl,hN,hY⟩:=hrel.out
              clear hrel
              have HN2:=Lib.hid hN
              have HY:=Lib.hid hY
              by_cases hbs:b<s.size+1
              · have c1:wr.cell? ⟨g,b,none⟩=some (.bool (endsL p.marks.fold p.es s.toList (0) b)):=(cell_of_block ((hY.block (lt_of_block HG.out)).trans HG.out)).trans (blA_at _ _ _ _ hbs hbs)
                clear hN hY
                cases hb1:endsL p.marks.fold p.es s.toList (0) b with
                | false =>
                  rw [hb1] at c1
                  have HNN:=Lib.hid (HN2.out.succ (show (endsL p.marks.fold p.es s.toList (0) b&&endL s.toList b)=false from by rw [hb1];rfl))
                  clear hb1
                  go_wp2_with fail
                  go_roundw
                  case rel=>exact ⟨b+1,by omega,by go_num,HNN.out,HY.out⟩
                  case measure=>simp [intOf] <;> omega
                | true =>
                  rw [hb1] at c1
                  have hit:endL s.toList b=true→M=true:=fun q=>by
                    rw [HM2.out]
                    refine any_of (i:=0) (by omega) ?_
                    unfold rowL
                    rw [HST.out,Bool.true_and,len_toList]
                    exact any_of hbs (by rw [hb1,q];rfl)
                  have HH:=Lib.hid hit
                  clear hit
                  by_cases hbe:b=s.size
                  · have HF:=Lib.hid (HH.out (by rw [hbe];exact endL_last s))
                    have e0:((b:Int)==s.size)=true:=by rw [hbe];simp
                    clear hb1 HH hbe
                    go_wp2_with fail
                    go_ret
                    exact ⟨ret_bool HF.out.symm,HX1.out.trans HY.out⟩
                  · have e0:((b:Int)==s.size)=false:=beq_eq_false_iff_ne.2 (by omega)
                    have hb2:b<s.size:=by omega
                    have hel:=endL_at s b s[b] hb2 (getElem_toList s b hb2)
                    by_cases h47:s[b]=47
                    · have HF:=Lib.hid (HH.out (by rw [hel,h47];rfl))
                      have e1:((s[b].toNat:Int)==47)=true:=by rw [h47];rfl
                      clear hb1 HH hel h47 hbe
                      go_wp2_with fail
                      go_ret
                      exact ⟨ret_bool HF.out.symm,HX1.out.trans HY.out⟩
                    · have HNN:=Lib.hid (HN2.out.succ (show (endsL p.marks.fold p.es s.toList (0) b&&endL s.toList b)=false from by rw [hel];simp [h47]))
                      have e1:=toNat_ne47 h47
                      clear hb1 HH hel h47 hbe
                      go_wp2_with fail
                      go_roundw
                      case rel=>exact ⟨b+1,by omega,by go_num,HNN.out,HY.out⟩
                      case measure=>simp [intOf] <;> omega
              · obtain rfl:b=s.size+1:=by omega
                have HNN:=Lib.hid (HN.out.succ (show rowL p s.toList (0)=false from by
                  unfold rowL
                  rw [HST.out,Bool.true_and,len_toList]
                  exact HN2.out.any))
                clear hN hY
                go_wp2_with fail
                go_roundw
                case rel=>exact ⟨0+1,by omega,by go_num,HNN.out,HX1.out.trans HY.out⟩
                case measure=>simp [intOf] <;> omega
          · rw [hr] at c4
            have e47:((s[j].toNat:Int) != 47)=false:=by rw [h47];rfl
            clear hst hr h47
            go_wp2_with fail
            refine ((HE (j+1) _ (by omega) HX.out).out).mono ?_
            rintro e w1 ⟨v,rfl,⟨g,rfl,hg⟩,x1⟩
            have HG:=Lib.hid hg
            have HX1:=Lib.hid (HX.out.trans x1)
            clear hg x1 c4
            obtain ⟨wo,rfl⟩:∃ wo:World,wo=wr:=⟨_,rfl⟩
            go_wp2_with fail
            go_loopw [49] (fun iv wr=>Hid (∃ b:Nat,b≤s.size+1∧iv=.int .i64 b∧NoneOf b (fun b=>endsL p.marks.fold p.es s.toList (j+1) b&&endL s.toList b)∧Ext w1 wr)) (fun iv _=>s.size+1 - (intOf iv).toNat)
            case atStart=>exact ⟨0,by omega,rfl,NoneOf.zero _,Ext.refl _⟩
            case round =>
              obtain ⟨b,hb,rfl,hN,hY⟩:=hrel.out
              clear hrel
              have HN2:=Lib.hid hN
              have HY:=Lib.hid hY
              by_cases hbs:b<s.size+1
              · have c1:wr.cell? ⟨g,b,none⟩=some (.bool (endsL p.marks.fold p.es s.toList (j+1) b)):=(cell_of_block ((hY.block (lt_of_block HG.out)).trans HG.out)).trans (blA_at _ _ _ _ hbs hbs)
                clear hN hY
                cases hb1:endsL p.marks.fold p.es s.toList (j+1) b with
                | false =>
                  rw [hb1] at c1
                  have HNN:=Lib.hid (HN2.out.succ (show (endsL p.marks.fold p.es s.toList (j+1) b&&endL s.toList b)=false from by rw [hb1];rfl))
                  clear hb1
                  go_wp2_with fail
                  go_roundw
                  case rel=>exact ⟨b+1,by omega,by go_num,HNN.out,HY.out⟩
                  case measure=>simp [intOf] <;> omega
                | true =>
                  rw [hb1] at c1
                  have hit:endL s.toList b=true→M=true:=fun q=>by
                    rw [HM2.out]
                    refine any_of (i:=j+1) (by omega) ?_
                    unfold rowL
                    rw [HST.out,Bool.true_and,len_toList]
                    exact any_of hbs (by rw [hb1,q];rfl)
                  have HH:=Lib.hid hit
                  clear hit
                  by_cases hbe:b=s.size
                  · have HF:=Lib.hid (HH.out (by rw [hbe];exact endL_last s))
                    have e0:((b:Int)==s.size)=true:=by rw [hbe];simp
                    clear hb1 HH hbe
                    go_wp2_with fail
                    go_ret
                    exact ⟨ret_bool HF.out.symm,HX1.out.trans HY.out⟩
                  · have e0:((b:Int)==s.size)=false:=beq_eq_false_iff_ne.2 (by omega)
                    have hb2:b<s.size:=by omega
                    have hel:=endL_at s b s[b] hb2 (getElem_toList s b hb2)
                    by_cases h47:s[b]=47
                    · have HF:=Lib.hid (HH.out (by rw [hel,h47];rfl))
                      have e1:((s[b].toNat:Int)==47)=true:=by rw [h47];rfl
                      clear hb1 HH hel h47 hbe
                      go_wp2_with fail
                      go_ret
                      exact ⟨ret_bool HF.out.symm,HX1.out.trans HY.out⟩
                    · have HNN:=Lib.hid (HN2.out.succ (show (endsL p.marks.fold p.es s.toList (j+1) b&&endL s.toList b)=false from by rw [hel];simp [h47]))
                      have e1:=toNat_ne47 h47
                      clear hb1 HH hel h47 hbe
                      go_wp2_with fail
                      go_roundw
                      case rel=>exact ⟨b+1,by omega,by go_num,HNN.out,HY.out⟩
                      case measure=>simp [intOf] <;> omega
              · obtain rfl:b=s.size+1:=by omega
                have HNN:=Lib.hid (HN.out.succ (show rowL p s.toList (j+1)=false from by
                  unfold rowL
                  rw [HST.out,Bool.true_and,len_toList]
                  exact HN2.out.any))
                clear hN hY
                go_wp2_with fail
                go_roundw
                case rel=>exact ⟨j+1+1,by omega,by go_num,HNN.out,HX1.out.trans HY.out⟩
                case measure=>simp [intOf] <;> omega
        · have HNN:=Lib.hid (HN.out.succ (show rowL p s.toList a=false from by unfold rowL;rw [hst];rfl))
          rcases hcase with hr | ⟨j,hj,rfl,hr,h47⟩
          · rw [hr] at c4
            have d0:decide ((0:Int)<(a:Int))=true:=by rw [decide_eq_true_eq];omega
            clear hst hr HE
            go_wp2_with fail
            go_roundw
            case rel=>exact ⟨a+1,by omega,by go_num,HNN.out,HX.out⟩
            case measure=>simp [intOf] <;> omega
          · rw [hr] at c4
            have e47:((s[j].toNat:Int) != 47)=true:=by rw [bne,toNat_ne47 h47];rfl
            clear hst hr h47 HE
            go_wp2_with fail
            go_roundw
            case rel=>exact ⟨j+1+1,by omega,by go_num,HNN.out,HX.out⟩
            case measure=>simp [intOf] <;> omega
      · obtain rfl:a=s.size+1:=by omega
        have HF:=Lib.hid (show M=false from by rw [HM2.out];exact HN.out.any)
        clear HM2 HE
        go_wp2_with fail
        go_ret
        exact ⟨ret_bool HF.out.symm,HX.out⟩

theorem negated_any (bp:Nat) (t:ByteArray) (p:Pat) (Far:Nat→Prop) (w:World) (hp:PatAt w Far bp t p) :
    Calls Tryz.prog 134 #[.pointer (some ⟨bp,0,none⟩)] w fun e w'=>e=.returned (.bool p.marks.neg)∧w'=w:=by
  obtain ⟨v,l,hb,he,hl⟩:=hp.blk
  have c:w.cell? ⟨bp,1,none⟩=some (.bool p.marks.neg):=cell_of_block hb
  clear he hl hp hb
  go_enter Tryz.func134,Tryz.ntmps134
  go_wp2_with fail
  go_ret
  exact ⟨rfl,rfl⟩

theorem deletable_any (bp:Nat) (t:ByteArray) (p:Pat) (Far:Nat→Prop) (w:World) (hp:PatAt w Far bp t p) :
    Calls Tryz.prog 135 #[.pointer (some ⟨bp,0,none⟩)] w fun e w'=>e=.returned (.bool p.marks.del)∧w'=w:=by
  obtain ⟨v,l,hb,he,hl⟩:=hp.blk
  have c:w.cell? ⟨bp,2,none⟩=some (.bool p.marks.del):=cell_of_block hb
  clear he hl hp hb
  go_enter Tryz.func135,Tryz.ntmps135
  go_wp2_with fail
  go_ret
  exact ⟨rfl,rfl⟩

end Go.Proofs.YtodickpibbbiiaaGreatDoor

namespace Go.Proofs.YtodickpibbbiiaaGreatDoor
open Go.RowKit

def dashB (r:ByteArray):Prop:=∃ h:1<r.size,r[0]=45∧r[1]≠93

def RElt (w:World) (Far:Nat→Prop):GE→Array Value→Prop
  | .all,cs=>cs=#[.int .i64 1,.int .u8 0,.bool false,.slice none 0 0]
  | .some,cs=>cs=#[.int .i64 2,.int .u8 0,.bool false,.slice none 0 0]
  | .any,cs=>cs=#[.int .i64 3,.int .u8 0,.bool false,.slice none 0 0]
  | .set neg rs,cs=>∃ v,cs=#[.int .i64 4,.int .u8 0,.bool neg,v]∧RangesFrom w Far v rs
  | .byt c,cs=>cs=#[.int .i64 5,.int .u8 c.toNat,.bool false,.slice none 0 0]
def RShape (cs:Array Value):Prop:=∃ k b nn a n c,cs=#[.int .i64 k,.int .u8 b,.bool nn,.slice a n c]

theorem RangesFrom.ffar {w:World} {Far Far':Nat→Prop} {v:Value} {rs:List (UInt8×UInt8)} (h:RangesFrom w Far v rs) (k:∀ b,b<w.heap.size→Far b→Far' b):RangesFrom w Far' v rs :=
  ⟨h.at_,fun g n cap hv=>⟨k _ (h.far g n cap hv).2 (h.far g n cap hv).1,(h.far g n cap hv).2⟩⟩
theorem RElt.keeps {w w':World} {Far:Nat→Prop} {e:GE} {cs:Array Value} (h:RElt w Far e cs) (k:Keeps Far w w'):RElt w' Far e cs:=by
  cases e with
  | set neg rs=>obtain ⟨v,h1,h2⟩:=h;exact ⟨v,h1,h2.keeps k⟩
  | _=>exact h
theorem RElt.far {w:World} {Far Far':Nat→Prop} {e:GE} {cs:Array Value} (h:RElt w Far e cs) (k:∀ b,b<w.heap.size→Far b→Far' b):RElt w Far' e cs:=by
  cases e with
  | set neg rs=>obtain ⟨v,h1,h2⟩:=h;exact ⟨v,h1,h2.ffar k⟩
  | _=>exact h

def REltPost (w:World) (R:Option (GE×List UInt8)) (e:Ending) (w':World):Prop:=(∃ cs r ok,e=.returned (.tuple #[.agg cs,.string r,.bool ok])∧RShape cs ∧
      (match R with | none=>ok=false | some (x,r')=>ok=true∧r.toList=r'∧RElt w' (fun b=>w.heap.size≤b) x cs))∧Ext w w'
theorem REltPost.of_none {w w':World} {R:Option (GE×List UInt8)} {k b:Int} {nn:Bool} {a:Option Addr} {n c:Nat} {r:ByteArray} (h:R=none) (x:Ext w w') :
    REltPost w R (.returned (.tuple #[.agg #[.int .i64 k,.int .u8 b,.bool nn,.slice a n c],.string r,.bool false])) w':=⟨⟨_,_,_,rfl,⟨_,_,_,_,_,_,rfl⟩,by rw [h]⟩,x⟩
theorem REltPost.of_some {w w':World} {R:Option (GE×List UInt8)} {k b:Int} {nn:Bool} {a:Option Addr} {n c:Nat} {r:ByteArray} {x:GE} {r':List UInt8} (h:R=some (x,r')) (hr:r.toList=r')
    (he:RElt w' (fun b=>w.heap.size≤b) x #[.int .i64 k,.int .u8 b,.bool nn,.slice a n c]) (y:Ext w w') :
    REltPost w R (.returned (.tuple #[.agg #[.int .i64 k,.int .u8 b,.bool nn,.slice a n c],.string r,.bool true])) w':=⟨⟨_,_,_,rfl,⟨_,_,_,_,_,_,rfl⟩,by rw [h];exact ⟨rfl,hr,he⟩⟩,y⟩

structure RClsInv (w:World) (neg:Bool) (wr:World) (v:Value) (rs:List (UInt8×UInt8)):Prop where
  ext:Ext w wr
  res:wr.heap[w.heap.size]?=some (.cells #[.int .i64 0,.int .u8 0,.bool false,.slice none 0 0] 303 (0,0))
  x:wr.heap[w.heap.size+1]?=some (.cells #[.int .i64 4,.int .u8 0,.bool neg,v] 303 (0,0))
  own:wr.ownsRow (w.heap.size+2) 337 2 v rs.length (flatR rs)
theorem RClsInv.on {w wr w1:World} {neg:Bool} {v:Value} {rs:List (UInt8×UInt8)} (I:RClsInv w neg wr v rs) (x:Ext wr w1):RClsInv w neg w1 v rs :=
  ⟨I.ext.trans x,(x.block (lt_of_block I.res)).trans I.res,(x.block (lt_of_block I.x)).trans I.x,owns_ext I.own x⟩
theorem RClsInv.push {w wr w1:World} {neg:Bool} {v v':Value} {rs:List (UInt8×UInt8)} {r:UInt8×UInt8} {o:Obj} (I:RClsInv w neg wr v rs)
    (hown:w1.ownsRow (w.heap.size+2) 337 2 v' (rs.length+1) (flatR rs++[.int .u8 r.1.toNat,.int .u8 r.2.toNat])) (hg:(wr.alloc o).grownBy w1 v.ownBlock) :
    RClsInv w neg (w1.setCell ⟨w.heap.size+1,3,none⟩ v') v' (rs++[r]):=by
  have hge:=own_block_ge_k I.own
  have hsz:=lt_of_block I.x
  have hbl:∀ i,i<w.heap.size+2→w1.heap[i]?=wr.heap[i]?:=fun i hi=>by
    rw [hg.block i (by simp;omega) (fun e=>by have:=hge i e.symm;omega),((Ext.refl wr).alloc o).block (by omega)]
  refine ⟨?_,?_,?_,?_⟩
  · exact ((I.ext.alloc o).grown hg (by have:=I.ext.size;simp;omega) (fun k hk=>by have:=hge k hk;omega)).setCell (by simp) _
  · rw [heap_setCell_other _ _ _ _ (by simp),hbl _ (by omega)];exact I.res
  · exact heap_setCell_same _ _ _ _ _ _ ((hbl _ (by omega)).trans I.x)
  · rw [List.length_append,flatR_snoc]
    exact owns_setCell hown (by omega)
theorem RClsInv.elt {w wr:World} {neg:Bool} {v:Value} {rs:List (UInt8×UInt8)} (I:RClsInv w neg wr v rs):RElt wr (fun b=>w.heap.size+2≤b) (.set neg rs) #[.int .i64 4,.int .u8 0,.bool neg,v] :=
  ⟨v,rfl,RangesFrom.of_owns I.own fun _ hb=>hb⟩
end Go.Proofs.YtodickpibbbiiaaGreatDoor

namespace Go.Proofs.YtodickpibbbiiaaGreatDoor
open Go.RowKit

def flatC (l:List (GE×Array Value)):List Value:=l.flatMap fun x=>x.2.toList
theorem flatC_snoc (l:List (GE×Array Value)) (x:GE×Array Value):flatC (l++[x])=flatC l++x.2.toList:=by simp [flatC]
theorem flatC_at:∀ (l:List (GE×Array Value)),(∀ x∈l,RShape x.2)→∀ (j:Nat) (x:GE×Array Value),l[j]?=some x→∀ (i:Nat) u,x.2[i]?=some u→(flatC l)[4*j+i]?=some u
  | [],_,_,_,h=>by cases h
  | y::l,_,0,x,h=>by
    cases h
    intro i u hu
    show (y.2.toList++flatC l)[4*0+i]?=some u
    rw [Nat.mul_zero,Nat.zero_add,List.getElem?_append_left (by
      have:=(Array.getElem?_eq_some_iff.1 hu).1
      simpa using this)]
    simpa using hu
  | y::l,hs,j+1,x,h=>by
    intro i u hu
    have:=flatC_at l (fun z hz=>hs z (List.mem_cons_of_mem _ hz)) j x h i u hu
    obtain ⟨k,b,nn,a,n,c,hy⟩:=hs y List.mem_cons_self
    show (y.2.toList++flatC l)[4*(j+1)+i]?=some u
    rw [List.getElem?_append_right (by rw [hy];simp;omega),hy]
    rw [show 4*(j+1)+i - (List.length (Array.toList #[Value.int .i64 k,.int .u8 b,.bool nn,.slice a n c]))=4*j+i from by simp;omega]
    exact this

structure REltsAt (w:World) (Far:Nat→Prop) (v:Value) (l:List (GE×Array Value)):Prop where
  row:∃ a cap,v=.slice a l.length cap∧l.length≤cap∧cap≤maxLen∧∀ (j:Nat) x,l[j]?=some x→∃ g,a=some ⟨g,0,none⟩∧Far g∧∀ (i:Nat) u,x.2[i]?=some u→w.cell? ⟨g,4*j+i,none⟩=some u
  elts:∀ x∈l,RElt w Far x.1 x.2∧RShape x.2
theorem REltsAt.keeps {w w':World} {Far:Nat→Prop} {v:Value} {l:List (GE×Array Value)} (h:REltsAt w Far v l) (k:Keeps Far w w'):REltsAt w' Far v l:=by
  obtain ⟨a,cap,h1,h2,h3,h4⟩:=h.row
  refine ⟨⟨a,cap,h1,h2,h3,fun j x hj=>?_⟩,fun x hx=>⟨(h.elts x hx).1.keeps k,(h.elts x hx).2⟩⟩
  obtain ⟨g,h5,h6,h7⟩:=h4 j x hj
  exact ⟨g,h5,h6,fun i u hu=>k.at_ h6 (h7 i u hu)⟩
theorem REltsAt.ext {w w':World} {Far:Nat→Prop} {v:Value} {l:List (GE×Array Value)} (h:REltsAt w Far v l) (k:Ext w w'):REltsAt w' Far v l:=h.keeps (k.keeps Far)

theorem REltsAt.far {w:World} {Far Far':Nat→Prop} {v:Value} {l:List (GE×Array Value)} (h:REltsAt w Far v l) (k:∀ b,b<w.heap.size→Far b→Far' b):REltsAt w Far' v l:=by
  obtain ⟨a,cap,h1,h2,h3,h4⟩:=h.row
  refine ⟨⟨a,cap,h1,h2,h3,fun j x hj=>?_⟩,fun x hx=>⟨(h.elts x hx).1.far k,(h.elts x hx).2⟩⟩
  obtain ⟨g,h5,h6,h7⟩:=h4 j x hj
  obtain ⟨k1,b1,nn,a1,n1,c1,hy⟩:=(h.elts x (List.mem_of_getElem? hj)).2
  exact ⟨g,h5,k _ (lt_of_cell (h7 0 (.int .i64 k1) (by rw [hy];rfl))) h6,h7⟩

structure RParInv (w:World) (m:Marks) (r:Bool) (wr:World) (v:Value) (l:List (GE×Array Value)):Prop where
  ext:Ext w wr
  res:wr.heap[w.heap.size]?=some (.cells #[.bool false,.bool false,.bool false,.bool false,.slice none 0 0] 247 (0,0))
  p:wr.heap[w.heap.size+1]?=some (.cells #[.bool m.neg,.bool m.fold,.bool m.del,.bool r,v] 247 (0,0))
  own:wr.ownsRow (w.heap.size+2) 303 4 v l.length (flatC l)
  elts:∀ x∈l,RElt wr (fun b=>w.heap.size+2≤b∧some b≠v.ownBlock) x.1 x.2∧RShape x.2

theorem RParInv.push {w wr w1 w2:World} {m:Marks} {r:Bool} {v v':Value} {l:List (GE×Array Value)} {x:GE×Array Value} (I:RParInv w m r wr v l) (h1:Ext wr w1)
    (hx:RElt w1 (fun b=>wr.heap.size≤b) x.1 x.2) (hs:RShape x.2) (hown:w2.ownsRow (w.heap.size+2) 303 4 v' (l.length+1) (flatC l++x.2.toList)) (hg:w1.grownBy w2 v.ownBlock)
    (hw:v'.ownBlock=v.ownBlock∨v'.ownBlock=some w1.heap.size):RParInv w m r (w2.setCell ⟨w.heap.size+1,4,none⟩ v') v' (l++[x]):=by
  have hlt:=lt_of_block I.p
  have hge:=own_block_ge_k I.own
  have hlo:=fun k hk=>(I.own.lt k hk).2
  have hS:Stays (fun b=>w.heap.size+2≤b∧some b≠v.ownBlock) w1 (w2.setCell ⟨w.heap.size+1,4,none⟩ v') :=
    (Stays.grown hg (fun k hk hf=>hf.2 hk.symm)).trans (Stays.setCell _ (fun hf=>by have:=hf.1;omega) _)
  have hbl:∀ i,i<w.heap.size+2→w2.heap[i]?=wr.heap[i]?:=fun i hi=>by
    rw [hg.block i (by have:=h1.size;omega) (fun e=>by have:=hge i e.symm;omega),h1.block (by omega)]
  have farv:∀ b,b<w1.heap.size→(w.heap.size+2≤b∧some b≠v.ownBlock)→(w.heap.size+2≤b∧some b≠v'.ownBlock):=fun b hb hf=>by
    refine ⟨hf.1,fun e=>?_⟩
    rcases hw with h | h
    · exact hf.2 (e.trans h)
    · have:=Option.some.inj (e.trans h);omega
  refine ⟨?_,?_,?_,?_,?_⟩
  · exact ((I.ext.trans h1).grown hg (Nat.le_trans I.ext.size h1.size) (fun k hk=>by have:=hge k hk;omega)).setCell (by simp) _
  · rw [heap_setCell_other _ _ _ _ (by simp),hbl _ (by omega)];exact I.res
  · exact heap_setCell_same w2 _ 4 _ _ v' ((hbl _ (by omega)).trans I.p)
  · rw [List.length_append,flatC_snoc]
    exact owns_setCell hown (by omega)
  · intro y hy
    have key:RElt w1 (fun b=>w.heap.size+2≤b∧some b≠v.ownBlock) y.1 y.2∧RShape y.2:=by
      rcases List.mem_append.1 hy with h | h
      · exact ⟨(I.elts y h).1.keeps (h1.keeps _),(I.elts y h).2⟩
      · obtain rfl:=List.mem_singleton.1 h
        exact ⟨hx.far (fun b _ hb=>⟨by omega,fun e=>by have:=hlo b e.symm;omega⟩),hs⟩
    have key2:RElt w1 (fun b=>(w.heap.size+2≤b∧some b≠v.ownBlock)∧some b≠v'.ownBlock) y.1 y.2:=key.1.far fun b hb hf=>⟨hf,(farv b hb hf).2⟩
    exact ⟨(key2.keeps (hS.weaken fun b _ hf=>hf.1).keeps).far fun b _ hf=>⟨hf.1.1,hf.2⟩,key.2⟩

theorem RParInv.done {w wr:World} {m:Marks} {r:Bool} {v:Value} {l:List (GE×Array Value)} (I:RParInv w m r wr v l):REltsAt wr (fun b=>w.heap.size+2≤b) v l:=by
  refine ⟨?_,fun x hx=>⟨(I.elts x hx).1.far fun b _ hb=>hb.1,(I.elts x hx).2⟩⟩
  rcases I.own.2 with ⟨h1,h2⟩ | ⟨g,cap,cur,hv,hb,hh,hc,hm,hs,ht⟩
  · exact ⟨none,0,by rw [h1,h2],by omega,by unfold maxLen;omega,fun j x hj=>by rw [List.length_eq_zero_iff.1 h2] at hj;cases hj⟩
  · refine ⟨_,cap,hv,hc,hm,fun j x hj=>⟨g,rfl,hb,fun i u hu=>?_⟩⟩
    have own:=I.own
    rw [hv] at own
    have hj':j<l.length:=(List.getElem?_eq_some_iff.1 hj).1
    have hi:i<4:=by
      obtain ⟨k,b,nn,a,n,c,hy⟩:=(I.elts x (List.mem_of_getElem? hj)).2
      have:=(Array.getElem?_eq_some_iff.1 hu).1
      rw [hy] at this
      simpa using this
    rw [own.cellAt (4*j+i) (by omega)]
    exact flatC_at l (fun x hx=>(I.elts x hx).2) j x hj i u hu

def RParPost (w:World) (s:ByteArray) (e:Ending) (w':World):Prop:=(∃ (m:Marks) (r:Bool) (a:Option Addr) (n c:Nat) (k:Nat),e=.returned (.tuple #[.agg #[.bool m.neg,.bool m.fold,.bool m.del,.bool r,.slice a n c],.int .i64 k]) ∧
    (match patL s.toList with
    | .error k'=>k=k'∧k≠0
    | .ok p=>k=0∧p.marks=m∧p.rooted=r∧∃ l,l.map (·.1)=p.es∧REltsAt w' (fun b=>w.heap.size≤b) (.slice a n c) l))∧Ext w w'
theorem RParPost.err {w w':World} {s:ByteArray} {k:Nat} (h:patL s.toList=.error k) (hk:k≠0) (x:Ext w w') :
    RParPost w s (.returned (.tuple #[.agg #[.bool false,.bool false,.bool false,.bool false,.slice none 0 0],.int .i64 k])) w' :=
  ⟨⟨⟨false,false,false⟩,false,none,0,0,k,rfl,by rw [h];exact ⟨rfl,hk⟩⟩,x⟩
def patOf (m:Marks) (r:Bool):Option (List GE)→Except Nat Pat
  | none=>.error 4
  | some es=>.ok ⟨m,r,es⟩
structure RMkInv (w:World) (m:Marks) (wr:World):Prop where
  ext:Ext w wr
  res:wr.heap[w.heap.size]?=some (.cells #[.bool false,.bool false,.bool false,.bool false,.slice none 0 0] 247 (0,0))
  p:wr.heap[w.heap.size+1]?=some (.cells #[.bool m.neg,.bool m.fold,.bool m.del,.bool false,.slice none 0 0] 247 (0,0))
theorem RMkInv.start (w:World):RMkInv w ⟨false,false,false⟩ ((w.alloc (.cells #[.bool false,.bool false,.bool false,.bool false,.slice none 0 0] 247)).alloc (.cells #[.bool false,.bool false,.bool false,.bool false,.slice none 0 0] 247)):=by
  refine ⟨((Ext.refl w).alloc _).alloc _,?_,?_⟩
  · rw [((Ext.refl _).alloc _).block (by simp)];exact heap_alloc_new _ _
  · have:=heap_alloc_new (w.alloc (.cells #[.bool false,.bool false,.bool false,.bool false,.slice none 0 0] 247)) (.cells #[.bool false,.bool false,.bool false,.bool false,.slice none 0 0] 247)
    rwa [show (w.alloc (.cells #[.bool false,.bool false,.bool false,.bool false,.slice none 0 0] 247)).heap.size=w.heap.size+1 from by simp] at this
theorem RMkInv.set {w wr:World} {m m':Marks} (I:RMkInv w m wr) (o:Nat) (h:(#[.bool m.neg,.bool m.fold,.bool m.del,.bool false,.slice none 0 0]:Array Value).setIfInBounds o (.bool true)=#[.bool m'.neg,.bool m'.fold,.bool m'.del,.bool false,.slice none 0 0]) :
    RMkInv w m' (wr.setCell ⟨w.heap.size+1,o,none⟩ (.bool true)):=by
  refine ⟨I.ext.setCell (by simp) _,?_,?_⟩
  · rw [heap_setCell_other _ _ _ _ (by simp)];exact I.res
  · rw [←h];exact heap_setCell_same _ _ _ _ _ _ I.p
end Go.Proofs.YtodickpibbbiiaaGreatDoor

namespace Go.Proofs.YtodickpibbbiiaaGreatDoor
open Go.RowKit

def patV (m:Marks) (r:Bool) (v:Value):Value:=.agg #[.bool m.neg,.bool m.fold,.bool m.del,.bool r,v]

end Go.Proofs.YtodickpibbbiiaaGreatDoor

namespace Go.Proofs.YtodickpibbbiiaaGreatDoor
open Go.RowKit

def brA (n k:Nat) (f:Nat→Bool):Array Value:=blA n n fun i=>decide (k≤i)&&f i
theorem brA_get (n k:Nat) (f:Nat→Bool) (i:Nat) (hi:i<n):(brA n k f)[i]?=some (.bool (decide (k≤i)&&f i)):=blA_at n n _ i hi hi
theorem brA_made (n:Nat) (f:Nat→Bool):madeCells #[.bool false] n=brA n n f:=by
  rw [blA_made n f]
  refine blA_ext _ _ _ _ (blA_size _ _ _) fun i hi=>?_
  rw [blA_get _ _ _ _ hi]
  simp;omega
theorem brA_set (n k:Nat) (f:Nat→Bool) (hk:k<n) {b:Bool} (hb:f k=b):(brA n (k+1) f).setIfInBounds k (.bool b)=brA n k f:=by
  subst hb
  refine blA_ext _ _ _ _ (by rw [Array.size_setIfInBounds];exact blA_size _ _ _) fun i hi=>?_
  rw [Array.getElem?_setIfInBounds]
  by_cases e:k=i
  · subst e
    rw [if_pos rfl,if_pos (by rw [show (brA n (k+1) f).size=n from blA_size _ _ _];exact hk)];simp [hk]
  · rw [if_neg e,brA_get n (k+1) f i hi]
    rw [show decide (k+1≤i)=decide (k≤i) from by rw [decide_eq_decide];omega]
    simp [hi]

structure WhInv (w:World) (T n m q:Nat) (f:Nat→Nat→Bool) (wr:World):Prop where
  ext:Ext w wr
  tab:∃ A,wr.heap[T]?=some (.cells A 290 (0,0))∧A.size=n∧(q<n→∃ r,A[q]?=some (.slice (some ⟨r,0,none⟩) m m)∧T<r∧wr.heap[r]?=some (.cells (blA m m (f q)) 4 (0,0)))
  ge:w.heap.size≤T

structure WrInv (w:World) (T R n m q k:Nat) (f:Nat→Nat→Bool) (wr:World):Prop where
  ext:Ext w wr
  ge:w.heap.size≤T
  lt:T<R
  tab:∃ A,wr.heap[T]?=some (.cells A 290 (0,0))∧A.size=n∧A[q]?=some (.slice (some ⟨R,0,none⟩) m m)∧(q+1<n→∃ r,A[q+1]?=some (.slice (some ⟨r,0,none⟩) m m)∧T<r∧r≠R∧wr.heap[r]?=some (.cells (blA m m (f (q+1))) 4 (0,0)))
  row:wr.heap[R]?=some (.cells (brA m k (f q)) 4 (0,0))

theorem WhInv.row {w wr:World} {T n m q:Nat} {f:Nat→Nat→Bool} (I:WhInv w T n m (q+1) f wr) (hq:q<n) :
    WrInv w T wr.heap.size n m q m f ((wr.setCell ⟨T,q,none⟩ (.slice (some ⟨wr.heap.size,0,none⟩) m m)).alloc (.cells (madeCells #[.bool false] m) 4)):=by
  obtain ⟨A,h1,h2,h3⟩:=I.tab
  have hT:=lt_of_block h1
  have hz:(wr.setCell ⟨T,q,none⟩ (.slice (some ⟨wr.heap.size,0,none⟩) m m)).heap.size=wr.heap.size:=by simp
  refine ⟨(I.ext.setCell I.ge _).alloc _,I.ge,hT,⟨A.setIfInBounds q (.slice (some ⟨wr.heap.size,0,none⟩) m m),?_,by rw [Array.size_setIfInBounds,h2],?_,fun hn=>?_⟩,?_⟩
  · rw [((Ext.refl _).alloc _).block (by rw [hz];exact hT)];exact heap_setCell_same _ _ _ _ _ _ h1
  · rw [Array.getElem?_setIfInBounds,if_pos rfl,if_pos (by omega)]
  · obtain ⟨r,g1,g2,g3⟩:=h3 hn
    have hr:=lt_of_block g3
    refine ⟨r,?_,g2,by omega,?_⟩
    · rw [Array.getElem?_setIfInBounds,if_neg (by omega)];exact g1
    · rw [((Ext.refl _).alloc _).block (by rw [hz];exact hr),heap_setCell_other _ _ _ _ (by show r≠T;omega)];exact g3
  · have:=heap_alloc_new (wr.setCell ⟨T,q,none⟩ (.slice (some ⟨wr.heap.size,0,none⟩) m m)) (.cells (madeCells #[.bool false] m) 4)
    rw [hz] at this
    rw [this,brA_made m (f q)]
theorem WrInv.on {w wr w1:World} {T R n m q k:Nat} {f:Nat→Nat→Bool} (I:WrInv w T R n m q k f wr) (x:Ext wr w1):WrInv w T R n m q k f w1:=by
  obtain ⟨A,h1,h2,h3,h4⟩:=I.tab
  refine ⟨I.ext.trans x,I.ge,I.lt,⟨A,(x.block (lt_of_block h1)).trans h1,h2,h3,fun hn=>?_⟩,(x.block (lt_of_block I.row)).trans I.row⟩
  obtain ⟨r,g1,g2,g3,g4⟩:=h4 hn
  exact ⟨r,g1,g2,g3,(x.block (lt_of_block g4)).trans g4⟩
theorem WrInv.step {w wr:World} {T R n m q k:Nat} {f:Nat→Nat→Bool} (I:WrInv w T R n m q (k+1) f wr) (hk:k<m) {b:Bool} (hb:f q k=b) :
    WrInv w T R n m q k f (wr.setCell ⟨R,k,none⟩ (.bool b)):=by
  obtain ⟨A,h1,h2,h3,h4⟩:=I.tab
  have hl:=I.lt
  have hg:=I.ge
  refine ⟨I.ext.setCell (by show w.heap.size≤R;omega) _,hg,hl,⟨A,by rw [heap_setCell_other _ _ _ _ (by show T≠R;omega)];exact h1,h2,h3,fun hn=>?_⟩,?_⟩
  · obtain ⟨r,g1,g2,g3,g4⟩:=h4 hn
    exact ⟨r,g1,g2,g3,by rw [heap_setCell_other _ _ _ _ g3];exact g4⟩
  · rw [←brA_set m k (f q) hk hb]
    exact heap_setCell_same _ _ _ _ _ _ I.row
theorem WrInv.done {w wr:World} {T R n m q:Nat} {f:Nat→Nat→Bool} (I:WrInv w T R n m q 0 f wr):WhInv w T n m q f wr:=by
  obtain ⟨A,h1,h2,h3,h4⟩:=I.tab
  refine ⟨I.ext,⟨A,h1,h2,fun _=>⟨R,h3,I.lt,?_⟩⟩,I.ge⟩
  rw [I.row]
  unfold brA
  congr 3

def tabF (fold:Bool) (es:List GE) (s:List UInt8) (i k:Nat):Bool:=wholeL fold (es.drop i) (s.drop k)
theorem RElt.kind {w:World} {Far:Nat→Prop} {e:GE} {cs:Array Value} (h:RElt w Far e cs):∃ (K:Int) (B:Int) (N:Bool) (a:Option Addr) (n c:Nat),cs=#[.int .i64 K,.int .u8 B,.bool N,.slice a n c] ∧
    ((e.many=true∧K=1)∨(e.many=true∧K=2)∨(e.many=false∧(K==1)=false∧(K==2)=false)):=by
  cases e with
  | all=>obtain rfl:=h;exact ⟨_,_,_,_,_,_,rfl,.inl ⟨rfl,rfl⟩⟩
  | some=>obtain rfl:=h;exact ⟨_,_,_,_,_,_,rfl,.inr (.inl ⟨rfl,rfl⟩)⟩
  | any=>obtain rfl:=h;exact ⟨_,_,_,_,_,_,rfl,.inr (.inr ⟨rfl,rfl,rfl⟩)⟩
  | byt c=>obtain rfl:=h;exact ⟨_,_,_,_,_,_,rfl,.inr (.inr ⟨rfl,rfl,rfl⟩)⟩
  | set neg rs =>
    obtain ⟨v,rfl,hv⟩:=h
    obtain ⟨a,c,rfl,_⟩:=hv.at_
    exact ⟨_,_,_,_,_,_,rfl,.inr (.inr ⟨rfl,rfl,rfl⟩)⟩

theorem WhInv.start (w:World) (n m:Nat) (f:Nat→Nat→Bool):WhInv w w.heap.size n m n f (w.alloc (.cells (madeCells #[.slice none 0 0] n) 290)) :=
  ⟨(Ext.refl w).alloc _,⟨_,heap_alloc_new _ _,size_madeCells _ _,fun h=>absurd h (Nat.lt_irrefl _)⟩,Nat.le_refl _⟩

end Go.Proofs.YtodickpibbbiiaaGreatDoor

namespace Go.Proofs.YtodickpibbbiiaaGreatDoor
open Go.RowKit

end Go.Proofs.YtodickpibbbiiaaGreatDoor
