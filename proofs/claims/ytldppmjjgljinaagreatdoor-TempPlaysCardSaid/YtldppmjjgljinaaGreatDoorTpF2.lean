import Derived.Test.YtldppmjjgljinaaGreatDoorTpF1
open Go.Proofs.Tryz
namespace Go.Proofs.YtldppmjjgljinaaGreatDoor
open Go.RowKit Go.Shelf
attribute [local go_sem] Oper.semAt_some
theorem elPl:ElemK prog 209 126 (.agg #[.string ⟨#[]⟩,.int .i64 0]) 2 24:=⟨by kernel_rfl,by kernel_rfl,rfl,by decide,by decide⟩
def AddTo (w:World) (F bf bp q:Nat) (ff:ByteArray->Option (List UInt8)) (pl:List UInt8->List Pl) (M I:List Nat) (nm:ByteArray) (l:List UInt8) (w':World):Prop :=
 ∃ vf vp M' I',FinIn w' F bf bp (q+200) (addF nm l ff) vf (addTo nm (fun x=>restP nm (pl x)) (hashesL l) (countN l.length)) vp M' I'/\DkStep w M I w' M' I'
set_option maxRecDepth 100000 in
set_option maxHeartbeats 8000000 in
theorem fin_add {w:World} {F bf bp q:Nat} {ff:ByteArray->Option (List UInt8)} {vf:ByteArray->Value} {pl:List UInt8->List Pl} {vp:List UInt8->Value} {M I:List Nat} (h:FinIn w F bf bp q ff vf pl vp M I) (R:FinRel ff pl) (hq:q<=4000) (nm:ByteArray) (hnm:nm.size<=1000000) (T:ShaTabs w) (l:List UInt8) (v:Value) (hv:BytesOff w.heap.size w v l)
  (hvM:∀ a n c,v=.slice (some a) n c->0<n->a.block∉M) (hl:l.length<=4096) :
  Calls prog 109 #[.pointer (some ⟨F,0,none⟩),.string nm,v] w fun e w'=>e=.returned (.int .i64 0)/\AddTo w F bf bp q ff pl M I nm l w':=by
 have HF:=lh h;have HI:=lh (fun w' (X:Ext w w')=>fin_is (h.ext X));have HLs:=lh (fun w' (X:Ext w w')=>blist_any l v w' (T.ext X) (bytesOff_any hv X X.size) hl);have HFg:=lh (fun w' (X:Ext w w')=>fin_forgets (h.ext X) R (by omega) nm hnm (T.ext X))
 have HV:=lh (show ∀ w',Chg M w w'->BytesOff w'.heap.size w' v l from fun w' X=>by
  obtain ⟨a,cap,rfl,h1,h2,h3⟩:=hv;refine ⟨a,cap,rfl,h1,h2,fun hp=>?_⟩;obtain ⟨g,o,rfl,e2,e3,e4⟩:=h3 hp;have hb:=X.block g e3 (hvM _ _ _ rfl hp)
  exact ⟨g,o,rfl,by have:=X.size;omega,Nat.lt_of_lt_of_le e3 X.size,fun j x hj=>by rw [<-e4 j x hj];unfold World.cell?;rw [hb]⟩)
 have hcn:=count_le hl;have HHL:=lh (show (hashesL l).length=countN l.length from hashesL_len' l)
 have HH32:=lh (show ∀ x∈hashesL l,x.length=32 from fun x hx=>by
  simp only [hashesL,List.mem_map] at hx;obtain ⟨i,_,rfl⟩:=hx
  exact shaL_len _)
 unfold AddTo;obtain ⟨P,hP⟩:∃ P,P=fun x=>restP nm (pl x):=⟨_,rfl⟩;have HPl:=lh (show ∀ x,(P x).length<=q from fun x=>by rw [hP];exact Nat.le_trans (List.length_filter_le _ _) (h.len x));rw [<-hP] at HFg ⊢;generalize hashesL l=hs at *;generalize countN l.length=c at *;have HLL:=lh hl;clear h T hv hvM hP R hl;go_enter func109,ntmps109;go_wp2_with fail;refine (HI.out _ (Ext.refl w)).mono ?_;rintro e w1 ⟨rfl,x1⟩;have X1:=lh x1;clear x1;go_wp2_with fail;refine (HLs.out _ X1.out).mono ?_;rintro e w2 ⟨u,rfl,hu⟩;have X2:=lh (X1.out.trans hu.out.2);have HU:=lh hu.out.1;obtain ⟨ua,uc,rfl⟩:=rowk_shape hu.out.1;clear hu;go_wp2_with fail;refine (HFg.out _ X2.out).mono ?_;rintro e w3 ⟨fb,rfl,h3⟩;obtain ⟨⟨vp3,M3,hf3,hs3⟩,hc3⟩:=h3.out;have H3:=lh hf3;have HS3:=lh (show Sub w M M3 from fun b hb=>(hs3 b hb).imp id fun h1=>Nat.le_trans X2.out.size h1);have HS2:=lh hs3;have HC3:=lh ((X2.out.chg M).trans hc3 (fun x hx=>.inl hx));have HU3:=lh (owns_blocks HU.out fun b hb=>hc3.block b (own_lt HU.out b hb) (fun hm=>by have:=HF.out.lt b (.inl hm);have:=own_ge HU.out b hb;have:=X1.out.size;omega));have HV3:=lh (HV.out _ HC3.out);clear h3 hf3 hs3 hc3 HFg HLs;go_upto_region 7 with (fail)
 refine wp_region_head (S:=fun w'=>w'.heap[F]?=some (.cells #[.map (some bf),.map (some bp)] 213 (0,0))) (n:=8) (by kernel_rfl) (by kernel_rfl) ?_;have SD:(w3.drew).heap[F]?=some (.cells #[.map (some bf),.map (some bp)] 213 (0,0)):=H3.out.blk;have XD:=lh ((Ext.refl w3).drew);have HVd:=lh (bytesOff_any HV3.out XD.out XD.out.size);generalize w3.drew=wd at *;refine HeadAt.take (i:=0) (v:=.pointer (some ⟨F,0,none⟩)) rfl (by kernel_rfl) (by kernel_rfl) (by kernel_rfl) (by kernel_rfl) (by kernel_rfl) (by kernel_rfl) (by kernel_rfl) (fun _ _ _ h=>h) (Or.inl ⟨rfl,fun w' _=>by go_simp⟩) SD ?_;go_frame;refine HeadAt.take (i:=1) (v:=.pointer (some ⟨F,0,none⟩)) rfl (by kernel_rfl) (by kernel_rfl) (by kernel_rfl) (by kernel_rfl) (by kernel_rfl) (by kernel_rfl) (by kernel_rfl) (fun _ _ _ h=>h) (Or.inl ⟨rfl,fun w' _=>by go_simp⟩) SD ?_;go_frame;refine HeadAt.take (i:=2) (v:=.pointer (some ⟨F,0,none⟩)) rfl (by kernel_rfl) (by kernel_rfl) (by kernel_rfl) (by kernel_rfl) (by kernel_rfl) (by kernel_rfl) (by kernel_rfl) (fun _ _ _ h=>h) (Or.inl ⟨rfl,fun w' _=>by go_simp⟩) SD ?_;go_frame;refine HeadAt.take (i:=3) (v:=.map (some bf)) rfl (by kernel_rfl) (by kernel_rfl) (by kernel_rfl) (by kernel_rfl) (by kernel_rfl) (by kernel_rfl) (by kernel_rfl) (fun _ _ _ h=>h) (Or.inl ⟨rfl,fun w' h=>by have:=cellB (k:=0) h;simp at this;go_simp⟩) SD ?_;go_frame;refine HeadAt.take (i:=4) (v:=.string nm) rfl (by kernel_rfl) (by kernel_rfl) (by kernel_rfl) (by kernel_rfl) (by kernel_rfl) (by kernel_rfl) (by kernel_rfl) (fun _ _ _ h=>h) (Or.inl ⟨rfl,fun w' _=>by go_simp⟩) SD ?_;go_frame;refine HeadAt.take (i:=6) (v:=v) rfl (by kernel_rfl) (by kernel_rfl) (by kernel_rfl) (by kernel_rfl) (by kernel_rfl) (by kernel_rfl) (by kernel_rfl) (fun _ _ _ h=>h) (Or.inl ⟨rfl,fun w' _=>by go_simp⟩) SD ?_;go_frame;have xa:=(Ext.refl wd).alloc (.cells #[] 5 (0,0));have hown:=World.ownsRow_lit (base:=wd.heap.size) (e:=5) (size:=1) wd #[] 0 (Nat.le_refl _) (by decide) rfl;refine HeadAt.one (i:=5) (v:=.slice (some ⟨wd.heap.size,0,none⟩) 0 0) (w':=wd.alloc (.cells #[] 5)) (by kernel_rfl) (by kernel_rfl) rfl rfl (by kernel_rfl) ((xa.block (ltB SD)).trans SD) ?_;go_frame;obtain ⟨v7,w7,hr7,ho7,hg7⟩:=run_add_bytes (base:=wd.heap.size) (g:=wd.heap.size) (bytesOff_any HVd.out xa xa.size) (by have:=HLL.out;omega) hown xa.size 0;have hFlt:=H3.out.lt F (.inr H3.out.fi);have hbflt:=H3.out.lt bf (.inl H3.out.mf);have hbplt:=H3.out.lt bp (.inl H3.out.mb);have hds:=XD.out.size;have h7s:w3.heap.size<=w7.heap.size:=Nat.le_trans hds (Nat.le_trans xa.size hg7.size);have h37:∀ b,b<w3.heap.size->w7.heap[b]?=w3.heap[b]?:=fun b hb=>(hg7.block b (Nat.lt_of_lt_of_le hb (Nat.le_trans hds xa.size)) (fun e=>by have:=Option.some.inj e;omega)).trans ((xa.block (Nat.lt_of_lt_of_le hb hds)).trans (XD.out.block hb));refine HeadAt.one (i:=7) (v:=v7) (w':=w7) (by kernel_rfl) (by kernel_rfl) rfl rfl (run_addOp (T:=22) rfl rfl rfl hr7) ((h37 F hFlt).trans H3.out.blk) ?_;go_frame;obtain ⟨w8,hr8,hm8,hg8,hs8⟩:=(H3.out.files.kept (h37 bf hbflt)).store (t:=210) (e:=22) (by kernel_rfl) (by unfold maxLen;omega) nm (by unfold maxLen;omega) v7;have hr8':(Instr.mapUpdate 210 (.map (some bf)) (.string nm) v7).run prog w7=.ok () w8:=hr8;have ho8:w8.ownsRow wd.heap.size 5 1 v7 l.length (l.map bv):=owns_blocks ho7 fun b hb=>hg8.block b (own_lt ho7 b hb) (fun e=>by have:=Option.some.inj e;have:=own_ge ho7 b hb;omega);have h38:∀ b,b<w3.heap.size->b≠bf->w8.heap[b]?=w3.heap[b]?:=fun b hb hne=>(hg8.block b (Nat.lt_of_lt_of_le hb h7s) (fun e=>hne (Option.some.inj e))).trans (h37 b hb);have h8s:w3.heap.size<=w8.heap.size:=Nat.le_trans h7s hg8.size
 have hF8:=H3.out.setFile (w3:=w8) (q':=q+65) (ff':=addF nm l ff) (vf':=fun s=>if s=nm then v7 else vf s) (J:=rowB v7) h8s h38 (by omega) ((hm8.congr fun s _=>by
  unfold addF;by_cases e:s=nm
  ·rw [if_pos e,if_pos e,if_pos e];rfl
  ·rw [if_neg e,if_neg e,if_neg e,if_neg e]).le (by omega)) (fun b hb=>by
   have h1:=own_ge ho8 b (mem_rowB.1 hb);have h2:=own_lt ho8 b (mem_rowB.1 hb)
   omega) (fun s d hd=>by
   unfold addF at hd;by_cases e:s=nm
   ·rw [if_pos e] at hd
    cases hd
    right;rw [if_pos e];exact ⟨HLL.out,owns_low ho8 (Nat.zero_le _),fun b hb=>mem_rowB.2 hb⟩
   ·rw [if_neg e] at hd;left;rw [if_neg e,if_neg e]
    exact ⟨hd,rfl⟩)
 have HF8:=lh hF8;have HJ:=lh (show ∀ b∈rowB v7,w3.heap.size<=b from fun b hb=>by have:=own_ge ho8 b (mem_rowB.1 hb);omega);have HC8:=lh (show Chg M3 w3 w8 from ⟨hg8.os.trans (hg7.os.trans (xa.os.trans XD.out.os)),hg8.tape.trans (hg7.tape.trans (xa.tape.trans XD.out.tape)),hg8.output.trans (hg7.output.trans (xa.output.trans XD.out.output)),h8s,fun b hb hm=>h38 b hb (fun e=>hm (e▸H3.out.mf))⟩);have HU8:=lh (owns_blocks HU3.out fun b hb=>h38 b (own_lt HU3.out b hb) (fun e=>by have:=own_ge HU3.out b hb;have:=HF.out.lt bf (.inl HF.out.mf);have:=X1.out.size;omega))
 have HUM:=lh (show ∀ b,(Value.slice ua c uc).ownBlock=some b->b∉M3 from fun b hb hm=>by
  have h1:=own_ge HU.out b hb;have h2:=own_lt HU.out b hb;rcases HS2.out b hm with h3 | h3
  ·have:=HF.out.lt b (.inl h3);have:=X1.out.size;omega
  ·omega)
 have hw3s:=HC3.out.size;clear hr7 ho7 hg7 hr8 hm8 hg8 hs8 ho8 h38 h37 hF8 hown xa SD HVd XD HV3 HU3 h7s;refine HeadAt.done (by kernel_rfl) ?_;go_wp2_with fail;obtain ⟨I2,hI2⟩:∃ I2,I2=I++rowB v7:=⟨_,rfl⟩;obtain ⟨vf2,hvf2⟩:∃ vf2,vf2=fun s=>if s=nm then v7 else vf s:=⟨_,rfl⟩
 have HI2:=lh hI2;rw [<-hI2,<-hvf2] at HF8;clear hI2 hvf2 hr8';generalize hff2:addF nm l ff=ff2 at *;have HFF2:=lh hff2;clear hff2;go_loopw [35] (fun iv wr=>Hid (∃ (k:Nat) (vpK:List UInt8->Value) (MK:List Nat),k<=c/\iv=.int .i64 k/\FinIn wr F bf bp (q+65+k*2) ff2 vf2 (addTo nm P hs k) vpK MK I2/\Sub w8 M3 MK/\Chg M3 w8 wr)) (fun iv _=>c - (intOf iv).toNat)
 case atStart=>exact ⟨0,vp3,M3,Nat.zero_le _,rfl,by rw [show addTo nm P hs 0=P from funext fun x=>List.append_nil _];exact HF8.out,Sub.refl _ _,Chg.refl _ _⟩
 case round =>
  obtain ⟨k,vpK,MK,hk,rfl,hfk,hsub,hchg⟩:=hrel.out;clear hrel HF8;have HK:=lh hfk;have HSub:=lh hsub;have HChg:=lh hchg;clear hfk hsub hchg;have hws:=HChg.out.size;have HUr:=lh (owns_blocks HU8.out fun b hb=>HChg.out.block b (own_lt HU8.out b hb) (HUM.out b hb));by_cases hlt:k<c
  ·obtain ⟨y,hy⟩:∃ y,hs[k]?=some y:=⟨_,List.getElem?_eq_getElem (by have:=HHL.out;omega)⟩;have hy32:=HH32.out y (List.mem_of_getElem? hy);obtain ⟨ua',uc',eu,_,_,_,hcells⟩:=row_cells HUr.out
   cases eu
   have hrow:∀ j,j<32->(hrow hs)[k*32+j]?=(y.map bv)[j]?:=fun j hj=>hrow_get hs HH32.out k j y hy hj;obtain ⟨g0,rfl,_,hg0,_⟩:=hcells (k*32+0) (bv (y[0]'(by omega))) (by rw [hrow 0 (by omega),List.getElem?_map,List.getElem?_eq_getElem (by omega:0<y.length)];rfl)
   have HRk:=lh (show wr.rangeAt g0 (k*32) (hArr y 32).toList from fun j u hj=>by
    rw [hArr_list hy32] at hj;have hj32:j<32:=by have:=(List.getElem?_eq_some_iff.1 hj).1;simp at this;omega
    obtain ⟨g1,e1,_,_,hc⟩:=hcells (k*32+j) u (by rw [hrow j hj32];simpa using hj)
    cases e1
    exact hc)
   have HZk:=lh (show (prog.info? 45).map (·.size)=some (hArr y 32).size from by rw [hArr_size _ _ hy32 (by omega)];kernel_rfl);have HAk:=lh (show (hArr y 32).size=32 from hArr_size _ _ hy32 (by omega));have HTk:=lh (addTo_succ nm P hs hy);have HRow:=lh (HK.out.mapR y hy32);have hlen:=HK.out.len y;generalize hPK:addTo nm P hs k=PK at *;obtain ⟨v0,hv0⟩:∃ v0,v0=(if PK y=[] then Value.slice none 0 0 else vpK y):=⟨_,rfl⟩;rw [<-hv0] at HRow;have HV0:=lh hv0;clear hPK hcells hrow hy;go_upto_region 11 with (first | (refine wpList_load_at rfl 45 _ rfl g0 (k*32) rfl (hArr y 32) _ HRk.out underlying45 rfl HZk.out ?_;go_frame) | (refine wpList_storeT rfl _ _ _ rfl wr.heap.size (hArr y 32) rfl rfl 45 _ (heap_alloc_new wr _) HZk.out (by rw [HAk.out];rfl) (hArr_one _ _) ?_;intro w1 hb1 ht1;have HB1:=lh hb1;have X1:=lh (ht1.fresh ((Ext.refl wr).alloc _) (Nat.le_refl _));clear hb1 ht1;go_frame))
   obtain ⟨b10,h10⟩:∃ b,b=wr.heap.size:=⟨_,rfl⟩;have hF:=ltB HK.out.blk;have hbp:=HK.out.places.lt;have hb10:∀ b,b<wr.heap.size->b<b10:=fun b hb=>by omega
   rw [<-h10] at HB1 ⊢;clear h10 hv0;refine wp_region_head (S:=fun w'=>w'.heap[F]?=some (.cells #[.map (some bf),.map (some bp)] 213 (0,0))/\w'.heap[b10]?=some (.cells (hArr y 32) 45 (0,0))) (n:=13) (by kernel_rfl) (by kernel_rfl) ?_;have SD:(w1.drew).heap[F]?=some (.cells #[.map (some bf),.map (some bp)] 213 (0,0))/\(w1.drew).heap[b10]?=some (.cells (hArr y 32) 45 (0,0)):=⟨(X1.out.drew.block hF).trans HK.out.blk,HB1.out⟩;have XD:=lh X1.out.drew;generalize w1.drew=wd at *;refine HeadAt.take (i:=0) (v:=.pointer (some ⟨F,0,none⟩)) rfl (by kernel_rfl) (by kernel_rfl) (by kernel_rfl) (by kernel_rfl) (by kernel_rfl) (by kernel_rfl) (by kernel_rfl) (fun _ _ _ h=>h) (Or.inl ⟨rfl,fun w' _=>by go_simp⟩) SD ?_;go_frame;refine HeadAt.take (i:=1) (v:=.pointer (some ⟨F,0,none⟩)) rfl (by kernel_rfl) (by kernel_rfl) (by kernel_rfl) (by kernel_rfl) (by kernel_rfl) (by kernel_rfl) (by kernel_rfl) (fun _ _ _ h=>h) (Or.inl ⟨rfl,fun w' _=>by go_simp⟩) SD ?_;go_frame;refine HeadAt.take (i:=2) (v:=.pointer (some ⟨F,1,none⟩)) rfl (by kernel_rfl) (by kernel_rfl) (by kernel_rfl) (by kernel_rfl) (by kernel_rfl) (by kernel_rfl) (by kernel_rfl) (fun _ _ _ h=>h) (Or.inl ⟨rfl,fun w' _=>by go_simp⟩) SD ?_;go_frame;refine HeadAt.take (i:=3) (v:=.map (some bp)) rfl (by kernel_rfl) (by kernel_rfl) (by kernel_rfl) (by kernel_rfl) (by kernel_rfl) (by kernel_rfl) (by kernel_rfl) (fun _ _ _ h=>h) (Or.inl ⟨rfl,fun w' h=>by have:=cellB (k:=1) h.1;simp at this;go_simp⟩) SD ?_;go_frame;refine HeadAt.take (i:=4) (v:=.agg (hArr y 32)) rfl (by kernel_rfl) (by kernel_rfl) (by kernel_rfl) (by kernel_rfl) (by kernel_rfl) (by kernel_rfl) (by kernel_rfl) (fun _ _ _ h=>h) (yieldsIf_load_row rfl 45 _ rfl b10 rfl 45 _ (0,0) _ (fun w' h=>h.2) underlying45 rfl HZk.out) SD ?_;go_frame;refine HeadAt.take (i:=5) (v:=.string nm) rfl (by kernel_rfl) (by kernel_rfl) (by kernel_rfl) (by kernel_rfl) (by kernel_rfl) (by kernel_rfl) (by kernel_rfl) (fun _ _ _ h=>h) (Or.inl ⟨rfl,fun w' _=>by go_simp⟩) SD ?_;go_frame;refine HeadAt.take (i:=6) (v:=.int .i64 k) rfl (by kernel_rfl) (by kernel_rfl) (by kernel_rfl) (by kernel_rfl) (by kernel_rfl) (by kernel_rfl) (by kernel_rfl) (fun _ _ _ h=>h) (Or.inl ⟨rfl,fun w' _=>by go_simp⟩) SD ?_;go_frame;refine HeadAt.take (i:=7) (v:=.agg #[.string nm,.int .i64 k]) rfl (by kernel_rfl) (by kernel_rfl) (by kernel_rfl) (by kernel_rfl) (by kernel_rfl) (by kernel_rfl) (by kernel_rfl) (fun _ _ _ h=>h) (yieldsIf_build rfl _ _ rfl _ rfl) SD ?_;go_frame;have xb:=(Ext.refl wd).alloc (.cells #[.string nm,.int .i64 k] 126 (0,0));have hbq:=block_alloc_new wd (.cells #[.string nm,.int .i64 k] 126 (0,0));have Sq:(wd.alloc (.cells #[.string nm,.int .i64 k] 126)).heap[F]?=some (.cells #[.map (some bf),.map (some bp)] 213 (0,0))/\(wd.alloc (.cells #[.string nm,.int .i64 k] 126)).heap[b10]?=some (.cells (hArr y 32) 45 (0,0)):=⟨(xb.block (ltB SD.1)).trans SD.1,(xb.block (ltB SD.2)).trans SD.2⟩;refine HeadAt.one (i:=8) (by kernel_rfl) (by kernel_rfl) rfl rfl (run_buildOneOp elPl (by decide) (.tmp 48) rfl #[.string nm,.int .i64 k] rfl rfl) Sq ?_;go_frame;have XQ:=lh (XD.out.trans xb);obtain ⟨bq,hbqe⟩:∃ b,b=wd.heap.size:=⟨_,rfl⟩;have hbql:wr.heap.size<=bq:=by rw [hbqe];exact XD.out.size
   rw [<-hbqe] at hbq ⊢;clear hbqe;generalize wd.alloc (.cells #[.string nm,.int .i64 k] 126 (0,0))=wq at *;obtain ⟨st,w9,hr9,hg9,hs9,hst9⟩:=(HK.out.places.ext XQ.out).entry (t:=211) (e:=209) (by kernel_rfl) (z:=.slice none 0 0) (fun u=>by kernel_rfl) (by unfold maxLen;omega) y hy32;rw [show ((if PK y=[] then none else some (vpK y)):Option Value).getD (.slice none 0 0)=v0 from by rw [HV0.out];split <;> rfl] at hr9;have hF9:=(hg9.block F (ltB Sq.1) (fun e=>HK.out.dis bp HK.out.mb (Option.some.inj e▸HK.out.fi))).trans Sq.1;have h109:=(hg9.block b10 (ltB Sq.2) (fun e=>by have:=Option.some.inj e;have:=hb10 bp hbp;omega)).trans Sq.2;have hq9:=(hg9.block bq (ltB hbq) (fun e=>by have:=Option.some.inj e;omega)).trans hbq;have hr9':(Instr.mapEntry 211 (.map (some bp)) (.agg (hArr y 32))).run prog wq=.ok (.tuple #[v0,goInt st]) w9:=hr9;refine HeadAt.one (i:=9) (v:=.tuple #[v0,goInt st]) (w':=w9) (by kernel_rfl) (by kernel_rfl) rfl rfl (by go_simp) ⟨hF9,h109⟩ ?_;go_frame;refine HeadAt.take (i:=10) (v:=v0) rfl (by kernel_rfl) (by kernel_rfl) (by kernel_rfl) (by kernel_rfl) (by kernel_rfl) (by kernel_rfl) (by kernel_rfl) (fun _ _ _ h=>h) (Or.inl ⟨rfl,fun w' _=>by go_simp⟩) ⟨hF9,h109⟩ ?_;go_frame;refine HeadAt.take (i:=12) (v:=goInt st) rfl (by kernel_rfl) (by kernel_rfl) (by kernel_rfl) (by kernel_rfl) (by kernel_rfl) (by kernel_rfl) (by kernel_rfl) (fun _ _ _ h=>h) (Or.inl ⟨rfl,fun w' _=>by go_simp⟩) ⟨hF9,h109⟩ ?_;go_frame
   have hbpk:∀ b,v0.ownBlock=some b->b≠bp/\b<wr.heap.size/\b∈MK/\PK y≠[]/\(vpK y).ownBlock=some b:=fun b hb=>by
    rw [HV0.out] at hb;by_cases h0:PK y=[]
    ·rw [if_pos h0] at hb;cases hb
    ·rw [if_neg h0] at hb;obtain ⟨ep,cp,h1⟩:=HK.out.places.blk;obtain ⟨cur,h4⟩:=own_cells (HK.out.row y hy32 h0) hb;exact ⟨fun e=>(by rw [e,h1] at h4;cases h4),own_lt (HK.out.row y hy32 h0) b hb,HK.out.mp y b hy32 h0 hb,h0,hb⟩
   have hown9:w9.ownsRow 0 126 2 v0 (PK y).length (plsV (PK y)):=by
    rcases HRow.out with ⟨h1,h2⟩ | ⟨_,h2⟩
    ·rw [h1,h2];exact World.ownsRow_nil _ _ _ _
    ·refine owns_blocks (owns_ext h2 XQ.out) fun b hb=>hg9.block b (own_lt (owns_ext h2 XQ.out) b hb) (fun e=>(hbpk b hb).1 (Option.some.inj e))
   refine HeadAt.append (i:=11) (by kernel_rfl) (by kernel_rfl) rfl rfl elPl 0 v0 (PK y).length (plsV (PK y)) hown9 bq [.string nm,.int .i64 k] rfl (.tmp 45) (.tmp 49) rfl rfl rfl (fun j u hj=>(cellB hq9).trans (by simpa using hj)) (fun u hu=>by
    simp only [List.mem_cons,List.not_mem_nil,or_false] at hu
    rcases hu with rfl | rfl <;> rfl) (by omega) (Nat.zero_le _) ?_
   intro v10 w10 ho10 hg10 hv10;have hF10:=(hg10.block F (ltB hF9) (fun e=>HK.out.dis F (hbpk F e.symm).2.2.1 HK.out.fi)).trans hF9;have h1010:=(hg10.block b10 (ltB h109) (fun e=>by have:=hb10 _ (hbpk b10 e.symm).2.1;omega)).trans h109;refine ⟨⟨hF10,h1010⟩,?_⟩;go_frame;have hbp9:bp<w9.heap.size:=by rw [hs9];exact Nat.lt_of_lt_of_le hbp XQ.out.size
   obtain ⟨w11,hr11,hm11,hg11,hs11⟩:=hst9 v10 w10 (hg10.block bp hbp9 (fun e=>(hbpk bp e.symm).1 rfl));have hr11':(Instr.entryStore 211 (.map (some bp)) (.int .i64 st) v10).run prog w10=.ok () w11:=hr11;have hplk:(plsV (PK y)++[Value.string nm,.int .i64 (k:Int)])=plsV (PK y++[(nm,(k:Int))]):=by rw [plsV_app];rfl
   have hlk:(PK y).length+1=(PK y++[(nm,(k:Int))]).length:=by simp
   rw [hplk,hlk] at ho10;have hne:PK y++[(nm,(k:Int))]≠[]:=by simp
   have hqs:=XQ.out.size
   have hgb:∀ b,b<wr.heap.size->b≠bp->(PK y≠[]->(vpK y).ownBlock≠some b)->w11.heap[b]?=wr.heap[b]?:=fun b h1 h2 h3=>by
    have e1:=XQ.out.block h1;have h1q:=Nat.lt_of_lt_of_le h1 hqs;have e2:=hg9.block b h1q (fun e=>h2 (Option.some.inj e));have h19:=Nat.lt_of_lt_of_le h1q hg9.size;have e3:=hg10.block b h19 (fun e=>h3 (hbpk b e.symm).2.2.2.1 (hbpk b e.symm).2.2.2.2);have e4:=hg11.block b (Nat.lt_of_lt_of_le h19 hg10.size) (fun e=>h2 (Option.some.inj e));exact e4.trans (e3.trans (e2.trans e1))
   have hch:Chg MK wr w11:=((XQ.out.chg MK).trans (chg_grown hg9 fun b e=>by cases e;exact HK.out.mb) (fun x hx=>.inl hx)).trans ((chg_grown hg10 fun b e=>(hbpk b e).2.2.1).trans (chg_grown hg11 fun b e=>by cases e;exact HK.out.mb) (fun x hx=>.inl hx)) (fun x hx=>.inl hx);have h9s:wr.heap.size<=w9.heap.size:=by rw [hs9];exact hqs
   have hvb:∀ b,v10.ownBlock=some b->(PK y≠[]/\(vpK y).ownBlock=some b)\/wr.heap.size<=b:=fun b hb=>by
    rcases hv10 with e | e
    ·rw [e] at hb;exact .inl (hbpk b hb).2.2.2
    ·rw [e] at hb;cases hb;exact .inr h9s
   have hT:=HK.out.turn (q':=q+65+(k+1)*2) (l':=PK y++[(nm,(k:Int))]) (v':=v10) hy32 hch.size hgb (by omega) (by rw [<-hlk];omega) ((hm11.congr fun x hx=>by
    unfold updP;by_cases e:x=y
    ·rw [if_pos e,if_pos e,if_neg hne,if_pos e]
    ·rw [if_neg e,if_neg e,if_neg e]).le (by omega)) (fun _=>owns_blocks ho10 fun b hb=>hg11.block b (own_lt ho10 b hb) (fun e=>by
     have e2:b=bp:=Option.some.inj e;rcases hv10 with q1 | q1
     ·rw [q1] at hb;exact (hbpk b hb).1 e2
     ·rw [q1] at hb;cases hb;omega)) (fun b _ hb=>hvb b hb)
   rw [if_neg hne] at hT;have HT3:=lh hT
   have HS3':=lh (show Sub w8 M3 (MK++rowB v10) from fun b hb=>by
    rcases List.mem_append.1 hb with hb | hb
    ·exact HSub.out b hb
    ·rcases hv10 with e | e
     ·have:=mem_rowB.1 hb;rw [e] at this;exact HSub.out b (hbpk b this).2.2.1
     ·have:=mem_rowB.1 hb;rw [e] at this
      cases this
      exact .inr (Nat.le_trans hws h9s))
   have HCH:=lh hch;clear hT hch hgb hvb hv10 ho10 hg10 hr11 hm11 hg11 hs11 hst9 hg9 hr9 hF9 h109 hq9 hF10 h1010 hown9 hbpk Sq SD hbq xb hr9' hplk;refine HeadAt.done (by kernel_rfl) ?_;go_wp2_with fail;go_roundw
   case rel=>exact ⟨k+1,_,_,by omega,by go_num,by rw [HTk.out];exact HT3.out,HS3'.out,HChg.out.trans HCH.out (fun x hx=>HSub.out x hx)⟩
   case measure=>simp [intOf] <;> omega
  ·obtain rfl:k=c:=by omega
   go_wp2;go_ret;refine ⟨rfl,vf2,vpK,MK,I2,HK.out.congrF (fun s=>by rw [HFF2.out]) (by omega),(HC3.out.trans (HC8.out.trans HChg.out (fun x hx=>.inl hx)) (fun x hx=>HS3.out x hx)),fun b hb=>?_,fun b hb=>?_⟩
   ·rcases HSub.out b hb with h1 | h1
    ·exact HS3.out b h1
    ·exact .inr (Nat.le_trans (Nat.le_trans hw3s HC8.out.size) h1)
   ·rw [HI2.out] at hb;rcases List.mem_append.1 hb with h1 | h1
    ·exact .inl h1
    ·exact .inr (Nat.le_trans hw3s (HJ.out b h1))
end Go.Proofs.YtldppmjjgljinaaGreatDoor
