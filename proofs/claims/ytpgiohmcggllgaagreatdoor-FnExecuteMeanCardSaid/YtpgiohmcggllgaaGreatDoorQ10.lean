/- Walks. -/
import Derived.Test.YtpgiohmcggllgaaGreatDoorQ9
set_option linter.unusedVariables false
set_option linter.unusedSimpArgs false
set_option maxHeartbeats 4000000
set_option maxRecDepth 100000
open Bool renaming false_and->Su,true_and->QZ
open Go.Proofs.Tryz renaming func109->Qt,func140->RX,func22->R7,func35->TM,func39->TK,func41->TL,func68->Rq,func69->QJ,func70->TJ,ntmps109->Qi,ntmps140->RJ,ntmps22->RW,ntmps35->Td,ntmps39->Tb,ntmps41->Tc,ntmps68->Q_,ntmps69->Qu,ntmps70->Ta,prog->KD,results35->QK,results68->Pu
open Go.Value.slice renaming injEq->N_
open Go.World renaming cell?->GD,cell?_of_block->P7
open List renaming cons_append->Oe,drop_eq_getElem_cons->OP,drop_eq_nil_of_le->PX,eq_nil_of_length_eq_zero->Ox,getElem?_drop->Pd,getElem?_eq_getElem->O_,getElem?_eq_some_iff->N6,getElem?_take->Pc,getElem_drop->Ri,isEmpty_eq_false_iff->RG,length->Pj,length_append->NZ,length_cons->N5,length_drop->PZ,length_nil->OD,length_pos_iff->Pv,mem_of_getElem?->Oc,take_length->Oh,take_succ_cons->Pg
open List.cons renaming injEq->Od
open Nat renaming add_zero->Se,one_mul->PO,reduceAdd->Pa,reduceMul->PB,zero_le->Og
open Option.some renaming inj->Ob,injEq->N1
namespace Go.Proofs.YtpgiohmcggllgaaGreatDoor
open Go.RowKit
theorem show_deed (g:Nat) (k t:Bs) (w:World) (h:vF w g k t) :
 Calls KD 93 #[.pointer (some ⟨g,0,none⟩),str []] w (mz g t k t w):=by
 obtain ⟨c0,c1,f0,f1,hl⟩:=h.cells;have H:=mj h;clear h;go_enter Tryz.func93,Tryz.ntmps93;go_wp2_with fail
 go_ret2
 exact ⟨rfl,But.refl (· = g) w,H.out⟩
theorem typed_deed (g:Nat) (k t:Bs) (w:World) (h:vF w g k t) :
 Calls KD 94 #[.pointer (some ⟨g,0,none⟩),str []] w (mz g k k t w):=by
 obtain ⟨c0,c1,f0,f1,hl⟩:=h.cells;have H:=mj h;clear h;go_enter Tryz.func94,Tryz.ntmps94;go_wp2_with fail
 go_ret2
 exact ⟨rfl,But.refl (· = g) w,H.out⟩
theorem mean_deed (g:Nat) (k t s:Bs) (x:Ty×Bd) (w:World) (h:vF w g k t) (hg:yP w) (he:yW w) (hs:Lim s.length) (hq:j9 s=some x) :
 Calls KD 89 #[.pointer (some ⟨g,0,none⟩),str s] w (mz g [111,107] (zN x.1) (kI x.2) w):=by
 have oA:=(xC (k:=x.1) (b:=x.2) hq).2;have C0:=mj (bw s w he hs);have HG:=mj (fun (y:World) (hy:Below w.heap.size w y)=>hg.below hy);have HX:=mj (mu hq oA);have H:=mj h;clear h hg he hq oA hs;go_enter Tryz.func89,Tryz.ntmps89;go_wp2_with fail
 (with_reducible refine C0.out.mono ?_)
 rintro en w1 ⟨kv,bv,rfl,mi,nh,nf⟩;obtain ⟨rk,rb⟩:=nf _ HX.out.1;obtain ⟨bb,rfl⟩:=za rb;have CK:=mj (gj 15 x.1 HX.out.2.atoms (by omega) _ w1 kv rk);have CB:=mj (fun (y:World) (hy:Below w1.heap.size w1 y)=>text_any (zX x.2) x.2 (my _) (by have:=HX.out.2.size;omega) HX.out.2.lv _ y _ (HG.out y (zzT mi hy)) (Rep.below hy (fun _ h=>h) rb));have nE:=mj mi;clear mi nh nf rk rb C0;obtain ⟨K2,DQ⟩:=zzN (zN x.1);obtain ⟨T2,DA⟩:=zzN (kI x.2);rw [DQ] at CK;rw [DA] at CB;have JC:=mj (mu DQ DA);clear DQ DA;go_wp2_with fail
 (with_reducible refine CK.out.mono ?_)
 rintro en w2 ⟨rfl,me⟩;have CB3:=mj (CB.out w2 me);have nF:=mj (zzT nE.out me);clear me CK CB;go_wp2_with fail
 (with_reducible refine CB3.out.mono ?_)
 rintro en w3 ⟨rfl,nZ⟩;have sg:=mj (zzT nF.out nZ);have CBE:=mj (desk_become g k t K2 T2 w3 (H.out.below sg.out));clear nZ CB3;go_wp2_with fail
 (with_reducible refine CBE.out.mono ?_)
 rintro en w5 ⟨rfl,nR,h5⟩;have H5:=mj (mu ((But.ofBelow sg.out).trans nR) h5);clear nR h5 CBE;go_wp2_with fail
 go_ret2
 refine ⟨rfl,H5.out.1,?_⟩;rw [JC.out.1,JC.out.2];exact H5.out.2
theorem line_mean (g:Nat) (k t ans k' t':Bs) (l rest:Bs) (w:World) (h:vF w g k t) (hm:pO w) (hl:l.length<=1000000) (hc:Lib.cut l [32]=([109,101,97,110],rest,true))
 (C:∀ y,Below w.heap.size w y->Calls KD 89 #[.pointer (some ⟨g,0,none⟩),str rest] y (mz g ans k' t' y)) :
 Calls KD 22 #[.pointer (some ⟨g,0,none⟩),str l] w (LineQ g ans k' t' w):=by
 have CU:=mj (mG hl hc w hm);have CC:=mj C;have H:=mj h;clear C hc hm h hl;go_enter R7,RW;go_wp2_with fail
 (with_reducible refine CU.out.mono ?_)
 rintro en w1 ⟨rfl,mi⟩;have nE:=mj mi;clear mi CU;go_wp2_with fail
 refine (pP w1).mono ?_;rintro en w2 ⟨bm,rfl,me,_,_,Tmean,_,_,_,_⟩;have nF:=mj (zzT nE.out me);have Tmean:(Instr.lookup 125 (.map (some bm)) (str [109,101,97,110]) true).run KD w2=.ok (.tuple #[cmd2,.bool true]) w2:=Tmean;unfold cmd2 at Tmean;clear me;obtain ⟨W,hW,nV,hz,x0⟩:=box_N w2 (.cells #[.bool true,.func (.func 89) #[] #[]] 123);have iR:=mj (zzT nF.out nV);have HW:=mj hW;obtain ⟨c0,c1,_,_⟩:=cells_N x0;have C2:=mj (CC.out W iR.out);clear hW nV hz x0 CC;go_upto_region 3 with (fail)
 rw [HW.out];clear Tmean;go_wp2_with fail
 (with_reducible refine C2.out.mono ?_)
 rintro en w3 ⟨rfl,nZ,h3⟩;have HF:=mj (mu ((But.ofBelow iR.out).trans nZ) h3);clear nZ h3 C2 c0 c1;go_wp2_with fail
 go_ret;exact ⟨rfl,HF.out.1,HF.out.2⟩
theorem line_kind (g:Nat) (k t ans k' t':Bs) (l rest:Bs) (w:World) (h:vF w g k t) (hm:pO w) (hl:l.length<=1000000) (hc:Lib.cut l [32]=([107,105,110,100],rest,false))
 (C:∀ y,Below w.heap.size w y->Calls KD 94 #[.pointer (some ⟨g,0,none⟩),str rest] y (mz g ans k' t' y)) :
 Calls KD 22 #[.pointer (some ⟨g,0,none⟩),str l] w (LineQ g ans k' t' w):=by
 have CU:=mj (mG hl hc w hm);have CC:=mj C;have H:=mj h;clear C hc hm h hl;go_enter R7,RW;go_wp2_with fail
 (with_reducible refine CU.out.mono ?_)
 rintro en w1 ⟨rfl,mi⟩;have nE:=mj mi;clear mi CU;go_wp2_with fail
 refine (pP w1).mono ?_;rintro en w2 ⟨bm,rfl,me,_,_,_,_,_,Tkind,_⟩;have nF:=mj (zzT nE.out me);have Tkind:(Instr.lookup 125 (.map (some bm)) (str [107,105,110,100]) true).run KD w2=.ok (.tuple #[cmd7,.bool true]) w2:=Tkind;unfold cmd7 at Tkind;clear me;obtain ⟨W,hW,nV,hz,x0⟩:=box_N w2 (.cells #[.bool false,.func (.func 94) #[] #[]] 123);have iR:=mj (zzT nF.out nV);have HW:=mj hW;obtain ⟨c0,c1,_,_⟩:=cells_N x0;have C2:=mj (CC.out W iR.out);clear hW nV hz x0 CC;go_upto_region 3 with (fail)
 rw [HW.out];clear Tkind;go_wp2_with fail
 (with_reducible refine C2.out.mono ?_)
 rintro en w3 ⟨rfl,nZ,h3⟩;have HF:=mj (mu ((But.ofBelow iR.out).trans nZ) h3);clear nZ h3 C2 c0 c1;go_wp2_with fail
 go_ret;exact ⟨rfl,HF.out.1,HF.out.2⟩
theorem line_show (g:Nat) (k t ans k' t':Bs) (l rest:Bs) (w:World) (h:vF w g k t) (hm:pO w) (hl:l.length<=1000000) (hc:Lib.cut l [32]=([115,104,111,119],rest,false))
 (C:∀ y,Below w.heap.size w y->Calls KD 93 #[.pointer (some ⟨g,0,none⟩),str rest] y (mz g ans k' t' y)) :
 Calls KD 22 #[.pointer (some ⟨g,0,none⟩),str l] w (LineQ g ans k' t' w):=by
 have CU:=mj (mG hl hc w hm);have CC:=mj C;have H:=mj h;clear C hc hm h hl;go_enter R7,RW;go_wp2_with fail
 (with_reducible refine CU.out.mono ?_)
 rintro en w1 ⟨rfl,mi⟩;have nE:=mj mi;clear mi CU;go_wp2_with fail
 refine (pP w1).mono ?_;rintro en w2 ⟨bm,rfl,me,_,_,_,_,Tshow,_,_⟩;have nF:=mj (zzT nE.out me);have Tshow:(Instr.lookup 125 (.map (some bm)) (str [115,104,111,119]) true).run KD w2=.ok (.tuple #[cmd6,.bool true]) w2:=Tshow;unfold cmd6 at Tshow;clear me;obtain ⟨W,hW,nV,hz,x0⟩:=box_N w2 (.cells #[.bool false,.func (.func 93) #[] #[]] 123);have iR:=mj (zzT nF.out nV);have HW:=mj hW;obtain ⟨c0,c1,_,_⟩:=cells_N x0;have C2:=mj (CC.out W iR.out);clear hW nV hz x0 CC;go_upto_region 3 with (fail)
 rw [HW.out];clear Tshow;go_wp2_with fail
 (with_reducible refine C2.out.mono ?_)
 rintro en w3 ⟨rfl,nZ,h3⟩;have HF:=mj (mu ((But.ofBelow iR.out).trans nZ) h3);clear nZ h3 C2 c0 c1;go_wp2_with fail
 go_ret;exact ⟨rfl,HF.out.1,HF.out.2⟩
theorem gU (n lo hi:Int) (w:World):Calls KD 140 #[.int .i64 n,.int .i64 lo,.int .i64 hi] w fun en w'=>en=.returned (.bool (decide (lo<=n) && decide (n<=hi)))/\w'=w:=by
 by_cases h1:lo<=n
 ·by_cases h2:n<=hi
  all_goals
   go_enter RX,RJ;go_wp2_with fail
   go_ret;exact ⟨by simp [h1,h2],rfl⟩
 ·go_enter RX,RJ;go_wp2_with fail
  go_ret;exact ⟨by simp [h1];omega,rfl⟩
theorem fa (s:Bs) (w:World) (hl:Lim s.length) :
 Calls KD 109 #[str s] w fun en w'=>en=.returned (.bool (qv s))/\w'=w:=by
 have iU:=hl.le;by_cases h0:s.length=0
 ·obtain rfl:s=[]:=Ox h0;clear h0;go_enter Qt,Qi;go_wp2_with fail
  (with_reducible refine (gU 0 1 3 w).mono ?_);rintro en w1 ⟨rfl,e⟩
  subst w1;have q1:(decide ((1:Int)<=0) && decide ((0:Int)<=3))=false:=by decide
  rw [q1];clear q1;go_wp2_with fail
  go_ret;exact ⟨rfl,rfl⟩
 have hne:(s == [])=false:=by rw [beq_eq_false_iff_ne];rintro rfl;exact h0 rfl
 have o_:s.isEmpty=false:=by rw [RG];rintro rfl;exact h0 rfl
 have sW:0<s.length:=by omega
 clear h0;by_cases h3:3<s.length
 ·have HN:=mj (name_no1 h3);go_enter Qt,Qi;have q1:(decide ((1:Int)<=(s.length:Int)) && decide ((s.length:Int)<=3))=false:=by rw [decide_eq_false (show ¬ (s.length:Int)<=3 by omega),Bool.and_false]
  go_wp2_with fail
  (with_reducible refine (gU (s.length:Int) 1 3 w).mono ?_);rintro en w1 ⟨rfl,e⟩
  subst w1;rw [q1];clear q1;go_wp2_with fail
  go_ret;exact ⟨by rw [HN.out];rfl,rfl⟩
 have q1:(decide ((1:Int)<=(s.length:Int)) && decide ((s.length:Int)<=3))=true:=by rw [decide_eq_true (show (1:Int)<=(s.length:Int) by omega),decide_eq_true (show (s.length:Int)<=3 by omega)];rfl
 have Q1:=mj q1;clear q1;have B:=xQ sW;by_cases hA:s[0].toNat<120
 ·have HN:=mj (cu sW (.inl hA));have b1:((((⟨s.toArray⟩:ByteArray)[0]'(kr sW)).toNat:Int))<120:=by rw [B];omega
  clear B hA;go_enter Qt,Qi;go_wp2_with fail
  (with_reducible refine (gU (s.length:Int) 1 3 w).mono ?_);rintro en w1 ⟨rfl,e⟩
  subst w1;rw [Q1.out];go_wp2_with fail
  go_ret;exact ⟨by rw [HN.out];rfl,rfl⟩
 by_cases hB:122<s[0].toNat
 ·have HN:=mj (cu sW (.inr hB));have b1:(122:Int)<((((⟨s.toArray⟩:ByteArray)[0]'(kr sW)).toNat:Int)):=by rw [B];omega
  have b2:¬ ((((⟨s.toArray⟩:ByteArray)[0]'(kr sW)).toNat:Int))<120:=by omega
  clear B hA hB;go_enter Qt,Qi;go_wp2_with fail
  (with_reducible refine (gU (s.length:Int) 1 3 w).mono ?_);rintro en w1 ⟨rfl,e⟩
  subst w1;rw [Q1.out];go_wp2_with fail
  go_ret;exact ⟨by rw [HN.out];rfl,rfl⟩
 have b1:¬ (122:Int)<((((⟨s.toArray⟩:ByteArray)[0]'(kr sW)).toNat:Int)):=by rw [B];omega
 have b2:¬ ((((⟨s.toArray⟩:ByteArray)[0]'(kr sW)).toNat:Int))<120:=by rw [B];omega
 have HA:=mj (mu hA hB);clear B hA hB;go_enter Qt,Qi;go_wp2_with fail
 (with_reducible refine (gU (s.length:Int) 1 3 w).mono ?_)
 rintro en w1 ⟨rfl,e⟩;subst w1;rw [Q1.out];go_wp2_with fail
 clear b1 b2
 go_loop [3] (fun i=>∃ k:Nat,1<=k/\k<=s.length/\i=.int .i64 k/\∀ j,1<=j->j<k->∀ (hj:j<s.length),48<=s[j].toNat/\s[j].toNat<=57) (fun i=>s.length-(intOf i).toNat)
 case atStart=>exact ⟨1,my _,sW,rfl,fun j h1 h2=>by omega⟩
 case round =>
  obtain ⟨k,Bf,hk,rfl,sx⟩:=hrel;have HR:=mj sx;clear sx;by_cases m_:k<s.length
  ·have B:=xQ m_;by_cases hA:s[k].toNat<48
   ·have HN:=mj (cv Bf m_ (.inl hA));have b1:((((⟨s.toArray⟩:ByteArray)[k]'(kr m_)).toNat:Int))<48:=by rw [B];omega
    clear B hA;go_wp2_with fail
    go_ret;exact ⟨by rw [HN.out];rfl,rfl⟩
   by_cases hB:57<s[k].toNat
   ·have HN:=mj (cv Bf m_ (.inr hB));have b1:(57:Int)<((((⟨s.toArray⟩:ByteArray)[k]'(kr m_)).toNat:Int)):=by rw [B];omega
    have b2:¬ ((((⟨s.toArray⟩:ByteArray)[k]'(kr m_)).toNat:Int))<48:=by omega
    clear B hA hB;go_wp2_with fail
    go_ret;exact ⟨by rw [HN.out];rfl,rfl⟩
   have b1:¬ (57:Int)<((((⟨s.toArray⟩:ByteArray)[k]'(kr m_)).toNat:Int)):=by rw [B];omega
   have b2:¬ ((((⟨s.toArray⟩:ByteArray)[k]'(kr m_)).toNat:Int))<48:=by rw [B];omega
   have HB:=mj (mu hA hB);clear B hA hB;go_wp2_with fail
   go_round
   case rel=>exact ⟨k+1,by omega,by omega,by go_num,fun j h1 h2 hj=>by
    by_cases e:j=k
    ·subst e;have:=HB.out;omega
    ·exact HR.out j h1 (by omega) hj⟩
   case measure=>simp [intOf];omega
  ·go_wp2_with fail
   go_ret;have HA':=HA.out;exact ⟨by rw [name_yes sW (by omega) (by omega) (fun j h1 hj=>HR.out j h1 (by omega) hj)];rfl,rfl⟩
mutual
def vK:Tr->List DV
 | .am a=>[.val (str a),.sl 39 2 0 []]
 | .ls ps=>[.val (str []),.sl 39 2 ps.length (vV ps)]
def vV:List Tr->List DV
 | []=>[]
 | p::ps=>vK p++vV ps
end
theorem dV (b:Tr):(vK b).length=2:=by cases b <;> simp [vK]
theorem encTrs_length (bs:List Tr):(vV bs).length=bs.length*2:=by
 induction bs with
 | nil=>simp [vV]
 | cons b bs ih=>simp [vV,dV,ih];omega
theorem wJ (a b:List Tr):vV (a++b)=vV a++vV b:=by
 induction a with
 | nil=>simp [vV]
 | cons t ts ih=>simp [vV,ih,List.append_assoc]
theorem Tryz.infoTr:(KD.info? 39).map (fun i=>(i.zero,i.size,i.bytes))=some (some (.agg #[str [],.slice none 0 0]),2,40):=by kernel_rfl
def jX:Tr->List Tr
 | .am _=>[]
 | .ls ps=>ps
theorem qd {F:Nat->Prop} {w:World} {b:Tr} {vs:List Value} (h:zW F w (vK b) vs) :
 ∃ a c,vs=[str (qP b),.slice a (jX b).length c]/\Rep F w (.sl 39 2 (jX b).length (vV (jX b))) (.slice a (jX b).length c):=by
 have key:∀ (s:Bs) (n:Nat) (ds:List DV),zW F w [.val (str s),.sl 39 2 n ds] vs->∃ a c,vs=[str s,.slice a n c]/\Rep F w (.sl 39 2 n ds) (.slice a n c):=by
  intro s n ds h;obtain ⟨_,_,rfl,h0,h⟩:=zQ.1 h;obtain ⟨_,_,rfl,h1,h⟩:=zQ.1 h;rw [zC] at h;subst h;rw [zH] at h0;subst h0;have h1':=h1;obtain ⟨_,a2,c2,e2',_⟩:=zg.1 h1';subst e2';exact ⟨a2,c2,rfl,h1⟩
 cases b with
 | am a=>rw [vK] at h;exact key _ _ _ h
 | ls ps=>rw [vK] at h;exact key _ _ _ h
def AtTr (F:Nat->Prop) (w:World) (bs:List Tr) (a:Option Addr) (k:Nat):Prop :=
 ∃ b o s a2 n2 c2 d,a=some ⟨b,o,none⟩/\b<w.heap.size/\bs[k]? = some d/\w.cell? ⟨b,o+k*2,none⟩=some (str s)/\w.cell? ⟨b,o+k*2+1,none⟩=some (.slice a2 n2 c2)/\zW F w (vK d) [str s,.slice a2 n2 c2]/\s=qP d/\n2=(jX d).length
def yB (F:Nat->Prop) (w:World) (bs:List Tr) (a:Option Addr):Prop:=∀ k,k<bs.length->AtTr F w bs a k
theorem yB.of {F:Nat->Prop} {w:World} {bs:List Tr} {v:Value} (h:Rep F w (.sl 39 2 bs.length (vV bs)) v):∃ a c,v=.slice a bs.length c/\yB F w bs a:=by
 obtain ⟨hl,a,c,rfl,hn,hz,h⟩:=zg.1 h;refine ⟨a,c,rfl,fun k hk=>?_⟩;rcases h with h | ⟨b,o,cs,fr,rfl,hb,hc,hr⟩
 ·omega
 ·have hs:vV bs=vV (bs.take k)++(vK bs[k]++vV (bs.drop (k+1))):=by
   have e1:vK bs[k]=vV [bs[k]]:=by simp [vV]
   rw [e1,<- wJ,<- wJ]
   congr 1
   simp
  rw [hs] at hr;obtain ⟨h1,h2⟩:=hr.split;obtain ⟨h3,h4⟩:=h2.split;have iu:(vV (bs.take k)).length=k*2:=by rw [encTrs_length];simp;omega
  rw [iu,dV] at h3;obtain ⟨a2,c2,e,_⟩:=qd h3;have ml:∀ j u,([str (qP bs[k]),.slice a2 (jX bs[k]).length c2]:List Value)[j]? = some u->w.cell? ⟨b,o+k*2+j,none⟩=some u:=by
   intro j u hu;rw [<- e] at hu;have hj:j<2:=by
    have:=(N6.1 hu).1;simp at this;omega
   rw [Pc,if_pos hj,Pd,Pc] at hu;split at hu
   ·rw [Pd] at hu;simp only [GD,hc];rw [Nat.add_assoc];simpa using hu
   ·simp at hu
  refine ⟨b,o,_,a2,_,c2,bs[k],rfl,zZ hc,by simp [hk],ml 0 _ rfl,ml 1 _ rfl,?_,rfl,rfl⟩;rw [<- e];exact h3
theorem cj:∀ (ps:List Tr),qj ps->∀ (k:Nat) (t:Tr),ps[k]? = some t->jH t
 | [],_,k,t,h=>by simp at h
 | p::ps,ho,0,t,h=>by simp at h;subst h;exact (by rw [qj] at ho;exact ho.1)
 | p::ps,ho,k+1,t,h=>by rw [qj] at ho;exact cj ps ho.2 k t (by simpa using h)
def qF:List Tr->Bs
 | []=>[]
 | [p]=>zu p
 | p::q::ps=>zu p++32::qF (q::ps)
theorem tail_join:∀ ps:List Tr,ps≠[]->qQ ps=32::(qF ps++[41])
 | [],h=>absurd rfl h
 | [p],_=>by rw [qQ,qQ,qF]
 | p::q::ps,_=>by rw [qQ,tail_join (q::ps) (by simp),qF];simp
theorem text_join:∀ ps:List Tr,zu (.ls ps)=[40]++qF ps++[41]
 | []=>by rw [zu,je,qF];rfl
 | [p]=>by rw [zu,je,qQ,qF];simp
 | p::q::ps=>by rw [zu,je,tail_join (q::ps) (by simp),qF];simp
theorem join_snoc:∀ (ps:List Tr) (t:Tr),ps≠[]->qF (ps++[t])=qF ps++[32]++zu t
 | [],t,h=>absurd rfl h
 | [p],t,_=>by rw [List.singleton_append,qF,qF,qF];simp
 | p::q::ps,t,_=>by rw [Oe,Oe,qF,<- Oe,join_snoc (q::ps) t (by simp),qF];simp
theorem join_one (t:Tr):qF [t]=zu t:=by rw [qF]
theorem join_take_len (ps:List Tr) (k:Nat):(qF (ps.take k)).length<=(qF ps).length:=by
 induction ps generalizing k with
 | nil=>simp
 | cons p ps ih =>
   cases k with
   | zero=>simp [qF]
   | succ k =>
     cases ps with
     | nil=>simp [qF]
     | cons q ps =>
       have:=ih k;cases k with
       | zero=>simp [qF]
       | succ k=>simp only [Pg,qF,NZ,N5] at this ⊢;omega
theorem cz:∀ (ps:List Tr) (t:Tr),t∈ps->(zu t).length<=(qF ps).length
 | [],t,h=>by simp at h
 | [p],t,h=>by simp at h;subst h;rw [qF];exact my _
 | p::q::ps,t,h=>by
   rw [qF];rcases List.mem_cons.1 h with rfl | h
   ·simp
   ·have:=cz (q::ps) t h;simp only [NZ,N5] at this ⊢;omega
theorem uw (ps:List Tr):(zu (.ls ps)).length=(qF ps).length+2:=by rw [text_join];simp
theorem text_pos (t:Tr) (h:jH t):1<=(zu t).length:=by
 cases t with
 | am a=>rw [jH] at h;rw [zu];exact Pv.2 h.1
 | ls ps=>rw [uw];omega
mutual
theorem dj:∀ t:Tr,jH t->qE t<=(zu t).length
 | .am a,h=>by
   rw [jH] at h;rw [qE,zu];exact Pv.2 h.1
 | .ls ps,h=>by
   rw [jH] at h;rw [qE,uw];have:=b7 ps h.2;omega
theorem b7:∀ ps:List Tr,qj ps->kM ps<=(qF ps).length
 | [],h=>by rw [kM];omega
 | [p],h=>by
   rw [qj] at h;rw [kM,kM,qF];exact dj p h.1
 | p::q::ps,h=>by
   rw [qj] at h;have h1:=dj p h.1;have h2:=b7 (q::ps) h.2;rw [kM,qF,NZ,N5];omega
end
theorem cd:∀ ps:List Tr,qj ps->ps.length<=(qF ps).length
 | [],_=>by simp
 | [p],h=>by
   rw [qj] at h;have hp:=text_pos p h.1;rw [qF];simpa using hp
 | p::q::ps,h=>by
   rw [qj] at h;have hp:=text_pos p h.1;have:=cd (q::ps) h.2;rw [qF];simp only [N5,NZ] at this ⊢;omega
theorem sizeTrs_take {ps:List Tr} {k:Nat} {t:Tr} (h:ps[k]? = some t):kM (ps.take (k+1))=kM (ps.take k)+qE t:=by
 induction ps generalizing k with
 | nil=>simp at h
 | cons p ps ih =>
   cases k with
   | zero=>simp at h;subst h;simp [kM]
   | succ k =>
     simp only [List.getElem?_cons_succ] at h;have:=ih h;simp only [Pg,kM] at this ⊢;omega
theorem ei (ps:List Tr) (k:Nat):kM (ps.take k)<=kM ps:=by
 induction ps generalizing k with
 | nil=>simp
 | cons p ps ih =>
   cases k with
   | zero=>simp [kM]
   | succ k=>have:=ih k;simp only [Pg,kM];omega
theorem am_ne {a:Bs} (h:jH (.am a)):(a == [])=false:=by
 rw [jH] at h;rw [beq_eq_false_iff_ne];exact h.1
def BoxT (g:Nat) (s:Bs) (k:Value) (w:World):Prop:=w.cell? ⟨g,0,none⟩=some (str s)/\w.cell? ⟨g,1,none⟩=some k
theorem BoxT.below {g:Nat} {s:Bs} {k:Value} {w w':World} (h:BoxT g s k w) (hb:Below w.heap.size w w'):BoxT g s k w':=by
 obtain ⟨h1,h2⟩:=h;have:=mx w _ h1;exact ⟨by rw [hb.cell (by exact this)];exact h1,by rw [hb.cell (by exact this)];exact h2⟩
def pE (b:Tr):Prop:=∀ (F:Nat->Prop) (w:World) (s v:Value),zW F w (vK b) [s,v] ->
 Calls KD 70 #[.agg #[s,v]] w fun en w'=>en=.returned (.int .i64 (qE b))/\Below w.heap.size w w'
theorem eS (b:Tr) (ho:jH b) (hl:Lim (zu b).length) (ih:∀ b',(zu b').length<(zu b).length->jH b'->pE b'):pE b:=by
 intro F w s v hv;obtain ⟨a2,c2,e,hk⟩:=qd hv;simp only [Od,and_true] at e;obtain ⟨rfl,rfl⟩:=e;cases b with
 | am a =>
   have ha:=am_ne ho;clear hv hk ih hl;simp only [qP,jX];go_enter TJ,Ta;go_wp2_with fail
   go_ret;exact ⟨by rw [qE];rfl,(mw _ _).alloc (my _) _⟩
 | ls kids =>
   simp only [qP,jX] at hk ⊢;obtain ⟨_,_,ek,aR⟩:=yB.of hk;simp only [N_,true_and] at ek;obtain ⟨rfl,rfl⟩:=ek;rw [jH] at ho;have IH:=mj ih;clear ih;have hsz:=b7 kids ho.2;have GF:=uw kids;have LZ:=hl.le;have iu:kids.length<=kM kids+kids.length:=by omega
   have nk:kids.length<=16777216:=by have:=cd kids ho.2;omega
   have E1:=mj hsz;have HO:=mj ho;have HT:=mj GF;have ATK:=mj aR;clear aR hk hv hsz GF iu ho;go_enter TJ,Ta;go_wp2_with fail
   go_loopw [3,4] (fun n i wr=>∃ k:Nat,k<=kids.length/\i=.int .i64 k/\n=.int .i64 ((kM (kids.take k):Nat):Int)/\Below w.heap.size w wr/\BoxT w.heap.size [] (.slice a2 kids.length c2) wr) (fun _ i _=>kids.length-(intOf i).toNat)
   case atStart=>exact ⟨0,Og _,rfl,by simp [kM],(mw _ _).alloc (my _) _,by simp,by simp⟩
   case round =>
    rename_i wr;obtain ⟨k,hk,rfl,rfl,hb,hc⟩:=hrel;obtain ⟨tU,tf⟩:=id hc;by_cases m_:k<kids.length
    ·obtain ⟨bb,o,s',b2,m2,d2,t,rfl,hbb,ht,u0,u1,hr,es,en⟩:=ATK.out k m_;clear es en;have q0:=(hb.cell hbb).trans u0;have q1:=(hb.cell hbb).trans u1;have aH:=(zW.below (F':=F) hb (fun _ h=>h) hr);have hs:=sizeTrs_take ht;have rL:=ei kids (k+1);have aS:=E1.out;have GV:=cz kids t (Oc ht);have tE:=HT.out;have IH':=mj (IH.out t (by omega) (cj kids HO.out.2 k t ht));unfold pE at IH';have HS:=mj hs;have b1:kM (kids.take k)+qE t<=16777216:=by omega
     have hz:=mx wr _ tU;have rF:(k:Int)<(kids.length:Int):=by omega
     clear hs ht aS u0 u1 hr tE GV;go_wp2_with fail
     (with_reducible refine (IH'.out _ _ _ _ aH).mono ?_);rintro en w2 ⟨rfl,me⟩
     have nZ:=zzT hb me;obtain ⟨tU,tf⟩:=id (hc.below me);have EM:=mj (hc.below me);go_wp2_with fail
     go_roundw
     case rel=>exact ⟨k+1,by omega,by go_num,by rw [HS.out] <;> go_num,nZ,EM.out⟩
     case measure=>simp [intOf];omega
    ·obtain rfl:k=kids.length:=by omega
     rw [Oh];go_wp2_with fail
     go_ret;exact ⟨by rw [qE];rfl,hb⟩
theorem l5Size_any (n:Nat):∀ b,(zu b).length<=n->Lim n->jH b->pE b:=by
 induction n with
 | zero=>intro b h hn ho;exact eS b ho (hn.mono h) (fun b' h' _=>by omega)
 | succ n ih=>exact fun b h hn ho=>eS b ho (hn.mono h) (fun b' h' Cj=>ih b' (by omega) (hn.mono (by omega)) Cj)
def xZ:Tr->Bs
 | .am _=>[]
 | .ls ps=>qh ps
theorem uu (b:Tr) (ho:jH b) (F:Nat->Prop) (w:World) (s v:Value) (hv:zW F w (vK b) [s,v]) :
 Calls KD 39 #[.agg #[s,v]] w fun en w'=>en=.returned (str (xZ b))/\Below w.heap.size w w':=by
 obtain ⟨a2,c2,e,hk⟩:=qd hv;simp only [Od,and_true] at e;obtain ⟨rfl,rfl⟩:=e;cases b with
 | am a =>
   have ha:=am_ne ho;clear hv hk;simp only [qP,jX];go_enter TK,Tb;go_wp2_with fail
   go_ret;exact ⟨by rw [xZ];rfl,(mw _ _).alloc (my _) _⟩
 | ls kids =>
   simp only [qP,jX] at hk ⊢;obtain ⟨_,_,ek,aR⟩:=yB.of hk;simp only [N_,true_and] at ek;obtain ⟨rfl,rfl⟩:=ek;rw [jH] at ho;cases kids with
   | nil=>exact absurd rfl ho.1
   | cons p ps =>
     obtain ⟨bb,o,s',b2,m2,d2,t,rfl,hbb,ht,u0,u1,hr,oJ,_⟩:=aR 0 (by simp);simp only [List.getElem?_cons_zero,N1] at ht;subst ht;have HH:=mj (show xZ (.ls (p::ps))=s' by rw [oJ,xZ];cases p <;> rfl);simp only [Nat.zero_mul,Se] at u0;have hl0:0<(p::ps).length:=by simp
     have JX:(((p::ps).length:Int) == 0)=false:=by rw [beq_eq_false_iff_ne];simp;omega
     generalize (p::ps).length=L at *;have hl2:(0:Int)<(L:Int):=by omega
     clear aR hk hv ho u1 hr oJ;go_enter TK,Tb;go_wp2_with fail
     go_ret;exact ⟨by rw [HH.out];rfl,(mw _ _).alloc (my _) _⟩
def xp (b:Tr):Prop:=∀ (F:Nat->Prop) (w:World) (s v:Value),zW F w (vK b) [s,v] ->
 Calls KD 41 #[.agg #[s,v]] w fun en w'=>en=.returned (str (zu b))/\Below w.heap.size w w'
def yQ (ps:List Tr) (k:Nat):Bs:=[40]++qF (ps.take k)
theorem eR (b:Tr) (ho:jH b) (hl:Lim (zu b).length) (ih:∀ b',(zu b').length<(zu b).length->jH b'->xp b'):xp b:=by
 intro F w s v hv;obtain ⟨a2,c2,e,hk⟩:=qd hv;simp only [Od,and_true] at e;obtain ⟨rfl,rfl⟩:=e;cases b with
 | am a =>
   have ha:=am_ne ho;clear hv hk ih hl;simp only [qP,jX];go_enter TL,Tc;go_wp2_with fail
   go_ret;exact ⟨by rw [zu];rfl,(mw _ _).alloc (my _) _⟩
 | ls kids =>
   simp only [qP,jX] at hk ⊢;obtain ⟨_,_,ek,aR⟩:=yB.of hk;simp only [N_,true_and] at ek;obtain ⟨rfl,rfl⟩:=ek;rw [jH] at ho;have IH:=mj ih;clear ih;have GF:=uw kids;have LZ:=hl.le;have nk:kids.length<=16777216:=by have:=cd kids ho.2;omega
   have HO:=mj ho;have HT:=mj GF;have ATK:=mj aR;have HJ:=mj (text_join kids);clear aR hk hv GF ho hl;go_enter TL,Tc;go_wp2_with fail
   go_loopw [3,4] (fun n i wr=>∃ k:Nat,k<=kids.length/\i=.int .i64 k/\n=str (yQ kids k)/\Below w.heap.size w wr/\BoxT w.heap.size [] (.slice a2 kids.length c2) wr) (fun _ i _=>kids.length-(intOf i).toNat)
   case atStart=>exact ⟨0,Og _,rfl,rfl,(mw _ _).alloc (my _) _,by simp,by simp⟩
   case round =>
    rename_i wr;obtain ⟨k,hk,rfl,rfl,hb,hc⟩:=hrel;obtain ⟨tU,tf⟩:=id hc;have Cq:(yQ kids k).length<=(qF kids).length+1:=by
     have:=join_take_len kids k;unfold yQ;simp;omega
    by_cases m_:k<kids.length
    ·obtain ⟨bb,o,s',b2,m2,d2,t,rfl,hbb,ht,u0,u1,hr,es,en⟩:=ATK.out k m_;clear es en;have q0:=(hb.cell hbb).trans u0;have q1:=(hb.cell hbb).trans u1;have aH:=(zW.below (F':=F) hb (fun _ h=>h) hr);have GV:=cz kids t (Oc ht);have tE:=HT.out;have IH':=mj (IH.out t (by omega) (cj kids HO.out.2 k t ht));have hz:=mx wr _ tU;have rF:(k:Int)<(kids.length:Int):=by omega
     have e1:kids.take (k+1)=kids.take k++[t]:=by rw [List.take_add_one,ht];rfl
     by_cases Cp:k=0
     focus
      have Bf:¬ (0:Int)<(k:Int):=by omega
      have nA:yQ kids (k+1)=yQ kids k++zu t:=by unfold yQ;rw [e1,Cp,List.take_zero,List.nil_append,join_one,qF];simp
      obtain ⟨A,hA⟩:=zzM (yQ kids k);obtain ⟨T,hT⟩:=zzM (zu t);unfold xp at IH';rw [<- hA] at nA Cq ⊢;rw [<- hT] at nA GV IH';obtain ⟨O,hO⟩:=zzM (A++T);have a1:=fun w0=>k9 (P:=KD) A T (by omega) w0;rw [<- hO] at a1 nA;have HS:=mj nA;clear Cp nA hA hT hO e1 ht u0 u1 hr tE GV
     rotate_left
     focus
      have Bf:(0:Int)<(k:Int):=by omega
      have nA:yQ kids (k+1)=yQ kids k++[32]++zu t:=by unfold yQ;rw [e1,join_snoc _ _ (by intro h;have:=congrArg Pj h;rw [List.length_take] at this;simp only [OD] at this;omega)];simp
      obtain ⟨A,hA⟩:=zzM (yQ kids k);obtain ⟨T,hT⟩:=zzM (zu t);unfold xp at IH';rw [<- hA] at nA Cq ⊢;rw [<- hT] at nA GV IH';obtain ⟨A1,Ng⟩:=zzM (A++[32]);have lA1:A1.length=A.length+1:=by rw [Ng];simp
      obtain ⟨O,hO⟩:=zzM (A1++T);have a0:=fun w0=>k9 (P:=KD) A [32] (by simp;omega) w0;have a1:=fun w0=>k9 (P:=KD) A1 T (by omega) w0;rw [<- Ng] at a0 nA;rw [<- hO] at a1 nA;have HS:=mj nA;clear nA hA hT hO Ng lA1 e1 ht u0 u1 hr tE GV
     all_goals
      go_wp2_with fail
      (with_reducible refine (IH'.out _ _ _ _ aH).mono ?_);rintro en w2 ⟨rfl,me⟩
      have nZ:=zzT hb me;obtain ⟨tU,tf⟩:=id (hc.below me);have EM:=mj (hc.below me);go_wp2_with fail
      go_roundw
      case rel=>exact ⟨k+1,by omega,by go_num,by rw [<- HS.out],nZ,EM.out⟩
      case measure=>simp [intOf];omega
    ·obtain rfl:k=kids.length:=by omega
     have hj:zu (.ls kids)=yQ kids kids.length++[41]:=by rw [HJ.out];unfold yQ;rw [Oh]
     have ia:¬ ((kids.length:Int)<(kids.length:Int)):=by omega
     obtain ⟨A,hA⟩:=zzM (yQ kids kids.length);rw [<- hA] at hj Cq ⊢;obtain ⟨O,hO⟩:=zzM (A++[41]);have tE:=HT.out;have a1:=fun w0=>k9 (P:=KD) A [41] (by simp;omega) w0;rw [<- hO] at a1 hj;have HS:=mj hj;clear hj hA hO tE;go_wp2_with fail
     go_ret;exact ⟨by rw [HS.out];rfl,hb⟩
theorem cU (n:Nat):∀ b,(zu b).length<=n->Lim n->jH b->xp b:=by
 induction n with
 | zero=>intro b h hn ho;exact eR b ho (hn.mono h) (fun b' h' _=>by omega)
 | succ n ih=>exact fun b h hn ho=>eR b ho (hn.mono h) (fun b' h' Cj=>ih b' (by omega) (hn.mono (by omega)) Cj)
theorem TypeValid_any (l:Bs) (hl:Lim l.length) (w:World):Calls KD 110 #[str l] w fun en w'=>en=.returned (.bool (zI l).2)/\Below w.heap.size w w':=by
 have C:=mj (xO l hl w);generalize hB:(zI l).2=B;have HB:=mj hB;clear hB;go_enter Tryz.func110,Tryz.ntmps110;go_wp2_with fail
 (with_reducible refine C.out.mono ?_);rintro en w1 ⟨v,rfl,hb,hv⟩
 obtain ⟨a1,c1,e1⟩:=kU hv;subst e1;clear hv;rw [HB.out];generalize (zI l).1.args.length=n1;go_wp2_with fail
 refine bodyPost_ret (v:=.bool B) (by simp [results,Tryz.results110,go_sem]) rfl ?_;exact ⟨rfl,by repeat (first | exact hb | refine Below.alloc ?_ hb.size _ | refine Below.setCell ?_ (by simp;exact hb.size) _)⟩
theorem yB.some {F:Nat->Prop} {w:World} {bs:List Tr} {a:Option Addr} (h:yB F w bs a) (hp:0<bs.length):∃ bb o,a=.some ⟨bb,o,none⟩/\bb<w.heap.size:=by
 obtain ⟨b,o,_,_,_,_,_,e,hb,_⟩:=h 0 hp;exact ⟨b,o,e,hb⟩
theorem yB.get {F:Nat->Prop} {w:World} {bs:List Tr} {bb o:Nat} (h:yB F w bs (.some ⟨bb,o,none⟩)) {k:Nat} {t:Tr} (ht:bs[k]? = .some t) :
 ∃ a2 c2,w.cell? ⟨bb,o+k*2,none⟩=.some (str (qP t))/\w.cell? ⟨bb,o+k*2+1,none⟩=.some (.slice a2 (jX t).length c2)/\zW F w (vK t) [str (qP t),.slice a2 (jX t).length c2]:=by
 obtain ⟨b,o',s,a2,n2,c2,d,e,hb,hd,u0,u1,hr,es,en⟩:=h k (N6.1 ht).1;simp only [N1,Addr.mk.injEq,and_true] at e;obtain ⟨rfl,rfl⟩:=e;rw [ht] at hd;obtain rfl:=Ob hd;subst es;subst en;exact ⟨a2,c2,u0,u1,hr⟩
theorem isTr_no3 {ps:List Tr} (h:qh ps=vi) (hl:ps.length≠3):qy (.ls ps)=false:=by
 match ps with
 | []=>exact (qy.eq_def _).trans rfl
 | [a]=>exact (qy.eq_def _).trans rfl
 | [a,b]=>exact (qy.eq_def _).trans rfl
 | [a,b,c]=>simp at hl
 | [a,b,c,d] =>
   have h':qh [a]=vi:=by cases a <;> exact h
   rw [qy,h'];rfl
 | a::b::c::d::e::ps=>exact (qy.eq_def _).trans rfl
theorem isTr_no4 {ps:List Tr} (h:qh ps=j_\/qh ps=ifW) (hl:ps.length≠4):qy (.ls ps)=false:=by
 match ps with
 | []=>exact (qy.eq_def _).trans rfl
 | [a]=>exact (qy.eq_def _).trans rfl
 | [a,b]=>exact (qy.eq_def _).trans rfl
 | [a,b,c] =>
   have h':qh [a]=j_\/qh [a]=ifW:=by cases a <;> exact h
   rw [qy];rcases h' with h' | h' <;> (rw [h'];rfl)
 | [a,b,c,d]=>simp at hl
 | a::b::c::d::e::ps=>exact (qy.eq_def _).trans rfl
theorem isTr_noW {ps:List Tr} (h1:qh ps≠j_) (h2:qh ps≠vi) (h3:qh ps≠ifW):qy (.ls ps)=false:=by
 match ps with
 | []=>exact (qy.eq_def _).trans rfl
 | [a]=>exact (qy.eq_def _).trans rfl
 | [a,b]=>exact (qy.eq_def _).trans rfl
 | [a,b,c] =>
   have h':qh [a]≠vi:=by cases a <;> exact h2
   rw [qy,beq_false_of_ne h'];rfl
 | [a,b,c,d] =>
   have h':qh [a]≠j_:=by cases a <;> exact h1
   have h'':qh [a]≠ifW:=by cases a <;> exact h3
   rw [qy,beq_false_of_ne h',beq_false_of_ne h''];rfl
 | a::b::c::d::e::ps=>exact (qy.eq_def _).trans rfl
theorem isTr_lam {a b c d:Tr} (h:qh [a,b,c,d]=j_):qy (.ls [a,b,c,d])=(qv (qP b) && (zI (zu c)).2 && qy d):=by
 have h':qh [a]=j_:=by cases a <;> exact h
 rw [qy,h'];have e1:(j_ == j_)=true:=by decide
 have e2:(j_ == ifW)=false:=by decide
 rw [e1,e2,QZ,Su,Bool.or_false,Bool.and_assoc]
theorem isTr_if {a b c d:Tr} (h:qh [a,b,c,d]=ifW):qy (.ls [a,b,c,d])=(qy b && qy c && qy d):=by
 have h':qh [a]=ifW:=by cases a <;> exact h
 rw [qy,h'];have e1:(ifW == j_)=false:=by decide
 have e2:(ifW == ifW)=true:=by decide
 rw [e1,e2,QZ,Su,Bool.false_or]
theorem isTr_app {a b c:Tr} (h:qh [a,b,c]=vi):qy (.ls [a,b,c])=(qy b && qy c):=by
 have h':qh [a]=vi:=by cases a <;> exact h
 rw [qy,h'];have e2:(vi == vi)=true:=by decide
 rw [e2,QZ]
def dN (b:Tr):Prop:=∀ (F:Nat->Prop) (w:World) (s v:Value),zW F w (vK b) [s,v] ->
 Calls KD 69 #[.agg #[s,v]] w fun en w'=>en=.returned (.bool (qy b))/\Below w.heap.size w w'
structure PartAt (F:Nat->Prop) (w:World) (bb o k:Nat) (t:Tr) (a2:Option Addr) (c2:Nat):Prop where
 blk:bb<w.heap.size
 c0:w.cell? ⟨bb,o+k,none⟩=.some (str (qP t))
 c1:w.cell? ⟨bb,o+(k+1),none⟩=.some (.slice a2 (jX t).length c2)
 rp:zW F w (vK t) [str (qP t),.slice a2 (jX t).length c2]
theorem PartAt.below {F:Nat->Prop} {w w':World} {bb o k:Nat} {t:Tr} {a2:Option Addr} {c2:Nat} (h:PartAt F w bb o k t a2 c2) (hb:Below w.heap.size w w'):PartAt F w' bb o k t a2 c2 :=
 ⟨mg h.blk hb.size,(hb.cell (by exact h.blk)).trans h.c0,(hb.cell (by exact h.blk)).trans h.c1,zW.below hb (fun _ h=>h) h.rp⟩
theorem yB.part {F:Nat->Prop} {w:World} {bs:List Tr} {bb o:Nat} (h:yB F w bs (.some ⟨bb,o,none⟩)) (hb:bb<w.heap.size) {k:Nat} {t:Tr} (ht:bs[k]? = .some t):∃ a2 c2,PartAt F w bb o (k*2) t a2 c2:=by
 obtain ⟨a2,c2,u0,u1,hr⟩:=h.get ht;exact ⟨a2,c2,hb,u0,u1,hr⟩
theorem l5Is_step (b:Tr) (ho:jH b) (hl:Lim (zu b).length) (ih:∀ b',(zu b').length<(zu b).length->jH b'->dN b'):dN b:=by
 intro F w s v hv;have hvv:=mj hv;have CH:=mj (fun wz (hb:Below w.heap.size w wz)=>uu b ho F wz s v (zW.below hb (fun _ h=>h) hvv.out));obtain ⟨a2,c2,e,hk⟩:=qd hv;simp only [Od,and_true] at e;obtain ⟨rfl,rfl⟩:=e;cases b with
 | am a =>
   have ha:=am_ne ho;have hla:Lim a.length:=hl.mono (by rw [zu];exact my _);have CN:=mj (fun wz=>fa a wz hla);have HI:=mj (show qy (.am a)=(jO a || qv a) by rw [qy]);clear hv hk ih hl hla CH hvv ho;simp only [qP,jX];by_cases h1:a=[116]
   ·subst h1;go_enter QJ,Qu;go_wp2_with fail
    go_ret;exact ⟨by rw [HI.out];rfl,(mw _ _).alloc (my _) _⟩
   by_cases h2:a=[102]
   ·subst h2;go_enter QJ,Qu;go_wp2_with fail
    go_ret;exact ⟨by rw [HI.out];rfl,(mw _ _).alloc (my _) _⟩
   by_cases h3:a=[117]
   ·subst h3;go_enter QJ,Qu;go_wp2_with fail
    go_ret;exact ⟨by rw [HI.out];rfl,(mw _ _).alloc (my _) _⟩
   have n1:(a == [116])=false:=by rw [beq_eq_false_iff_ne];exact h1
   have n2:(a == [102])=false:=by rw [beq_eq_false_iff_ne];exact h2
   have n3:(a == [117])=false:=by rw [beq_eq_false_iff_ne];exact h3
   have HL:=mj (show jO a=false by simp [jO,n1,n2,n3]);clear h1 h2 h3;go_enter QJ,Qu;go_wp2_with fail
   (with_reducible refine (CN.out _).mono ?_);rintro en w1 ⟨rfl,e⟩
   subst w1;go_wp2_with fail
   go_ret;exact ⟨by rw [HI.out,HL.out];rfl,(mw _ _).alloc (my _) _⟩
 | ls kids =>
   simp only [qP,jX] at hk CH hvv ⊢;obtain ⟨_,_,ek,aR⟩:=yB.of hk;simp only [N_,true_and] at ek;obtain ⟨rfl,rfl⟩:=ek;rw [jH] at ho;have IH:=mj ih;clear ih;have hp0:0<kids.length:=Pv.2 ho.1;obtain ⟨bb,o,rfl,hbb⟩:=aR.some hp0;have HO:=mj ho;have HT:=mj (mu (uw kids) hl);have ATK:=mj aR;have iu:kids.length<=16777216:=by have:=cd kids ho.2;have:=uw kids;have:=hl.le;omega
   have sub:∀ (t:Tr),t∈kids->jH t/\Lim (zu t).length/\dN t:=fun t ht=>by
    obtain ⟨k,hk⟩:=List.getElem?_of_mem ht;have h1:=cj kids HO.out.2 k t hk;have h2:=cz kids t ht;have h3:=HT.out.1;have h4:=HT.out.2.le;exact ⟨h1,(show _<=_ by omega),IH.out t (by omega) h1⟩
   have SUB:=mj sub;have aF:BoxT w.heap.size [] (.slice (.some ⟨bb,o,none⟩) kids.length c2) (w.alloc (.cells #[str [],.slice (.some ⟨bb,o,none⟩) kids.length c2] 39)):=⟨by simp,by simp⟩;have HBX:=mj aF;have sA:Hid (Below w.heap.size w (w.alloc (.cells #[str [],.slice (.some ⟨bb,o,none⟩) kids.length c2] 39))):=(mw _ _).alloc (my _) _;clear aR hk hv hvv ho hl sub aF;go_enter QJ,Qu;go_wp2_with fail
   (with_reducible refine (CH.out _ sA.out).mono ?_);rintro en w1 ⟨rfl,mi⟩
   have MQ:Below w.heap.size w w1:=zzT sA.out mi;have aX:=mj (HBX.out.below mi);have nE:=mj MQ;clear mi MQ HBX sA CH;obtain ⟨hd,G3⟩:=zzM (xZ (.ls kids));rw [<- G3];have HD:Hid (qh kids=hd):=G3.symm;clear G3;have nl:(4:Int)=(kids.length:Int)\/¬ (4:Int)=(kids.length:Int):=by omega
   by_cases aC:hd=j_
   ·have q0:(hd == [108,97,109])=true:=by rw [beq_iff_eq];exact aC
    have HL:=mj aC;clear aC;obtain ⟨x0,x1⟩:=aX.out;by_cases h4:kids.length=4
    ·obtain ⟨p0,p1,p2,p3,rfl⟩:∃ a b c d,kids=[a,b,c,d]:=by
      match kids,h4 with
      | [a,b,c,d],_=>exact ⟨a,b,c,d,rfl⟩
     obtain ⟨a1,k1,P1⟩:=(ATK.out.part hbb (k:=1) (t:=p1) rfl).imp fun _ h=>h;obtain ⟨a3,k3,P2⟩:=(ATK.out.part hbb (k:=2) (t:=p2) rfl).imp fun _ h=>h;obtain ⟨a5,k5,P3⟩:=(ATK.out.part hbb (k:=3) (t:=p3) rfl).imp fun _ h=>h;have HI:=mj (isTr_lam (a:=p0) (b:=p1) (c:=p2) (d:=p3) (by rw [HD.out,HL.out]));have S1:=mj (SUB.out p1 (by simp));have S2:=mj (SUB.out p2 (by simp));have S3:=mj (SUB.out p3 (by simp));have PP:=mj (mu P1 (mu P2 P3));have lat:Lim (qP p1).length:=by
      cases p1 with
      | am a=>have:=S1.out.2.1;rw [zu] at this;exact this
      | ls ps=>exact Og _
     have CN:=mj (fun wz=>fa (qP p1) wz lat);obtain ⟨y0,y1⟩:=mu (P1.below nE.out).c0 (P1.below nE.out).c1;have nw:=(P1.below nE.out).blk;have lF:(([p0,p1,p2,p3]:List Tr).length:Nat)=4:=rfl;rw [lF] at x1 ⊢;simp only [PO,PB,Pa] at y0 y1;clear P1 P2 P3 h4 lF lat iu hp0 nl;go_wp2_with fail
     (with_reducible refine (CN.out _).mono ?_);rintro en w2 ⟨rfl,e⟩
     subst w2;cases hn:qv (qP p1) with
     | false =>
       have HN:=mj hn;clear hn;go_wp2_with fail
       go_ret;exact ⟨by rw [HI.out,HN.out];rfl,nE.out⟩
     | true =>
       have HN:=mj hn;clear hn;have P2:=PP.out.2.1.below nE.out;have CT:=mj (cU _ p2 (my _) S2.out.2.1 S2.out.1 F w1 _ _ P2.rp);obtain ⟨y2,y3⟩:=mu P2.c0 P2.c1;simp only [PO,PB,Pa] at y2 y3;clear P2 y0 y1;go_wp2_with fail
       (with_reducible refine CT.out.mono ?_);rintro en w2 ⟨rfl,me⟩
       have nF:=mj (zzT nE.out me);have Kn:=mj (aX.out.below me);have CV:=mj (TypeValid_any (zu p2) S2.out.2.1 w2);clear me x0 x1 y2 y3 nw;go_wp2_with fail
       (with_reducible refine CV.out.mono ?_);rintro en w3 ⟨rfl,nZ⟩
       have sg:=mj (zzT nF.out nZ);have HX3:=mj (Kn.out.below nZ);clear nZ;cases hv:(zI (zu p2)).2 with
       | false =>
         have HV:=mj hv;clear hv;go_wp2_with fail
         go_ret;exact ⟨by rw [HI.out,HN.out,HV.out];rfl,sg.out⟩
       | true =>
         have HV:=mj hv;clear hv;have P3:=PP.out.2.2.below sg.out;have CI:=mj (S3.out.2.2 F w3 _ _ P3.rp);obtain ⟨x0,x1⟩:=HX3.out;obtain ⟨y2,y3⟩:=mu P3.c0 P3.c1;have nw:=P3.blk;have lF:(([p0,p1,p2,p3]:List Tr).length:Nat)=4:=rfl;rw [lF] at x1;simp only [PO,PB,Pa] at y2 y3;clear P3 lF;go_wp2_with fail
         (with_reducible refine CI.out.mono ?_);rintro en w4 ⟨rfl,nS⟩
         go_wp2_with fail
         go_ret;exact ⟨by rw [HI.out,HN.out,HV.out];rfl,zzT sg.out nS⟩
    ·have hne:((kids.length:Int) == 4)=false:=by rw [beq_eq_false_iff_ne];omega
     have HI:=mj (isTr_no4 (.inl (by rw [HD.out,HL.out])) h4);clear h4;go_wp2_with fail
     go_ret;exact ⟨by rw [HI.out];rfl,nE.out⟩
   have q0:(hd == [108,97,109])=false:=by rw [beq_eq_false_iff_ne];exact aC
   by_cases BZ:hd=vi
   ·have q1:(hd == [97,112,112])=true:=by rw [beq_iff_eq];exact BZ
    have HL:=mj BZ;clear BZ aC;obtain ⟨x0,x1⟩:=aX.out;by_cases h4:kids.length=3
    ·obtain ⟨p0,p1,p2,rfl⟩:∃ a b c,kids=[a,b,c]:=by
      match kids,h4 with
      | [a,b,c],_=>exact ⟨a,b,c,rfl⟩
     obtain ⟨a1,k1,P1⟩:=(ATK.out.part hbb (k:=1) (t:=p1) rfl).imp fun _ h=>h;obtain ⟨a3,k3,P2⟩:=(ATK.out.part hbb (k:=2) (t:=p2) rfl).imp fun _ h=>h;have HI:=mj (isTr_app (a:=p0) (b:=p1) (c:=p2) (by rw [HD.out,HL.out]));have S1:=mj (SUB.out p1 (by simp));have S2:=mj (SUB.out p2 (by simp));have PP:=mj (mu P1 P2);have CI1:=mj (S1.out.2.2 F w1 _ _ (P1.below nE.out).rp);obtain ⟨y0,y1⟩:=mu (P1.below nE.out).c0 (P1.below nE.out).c1;have nw:=(P1.below nE.out).blk;have lF:(([p0,p1,p2]:List Tr).length:Nat)=3:=rfl;rw [lF] at x1 ⊢;simp only [PO,PB,Pa] at y0 y1;clear P1 P2 h4 lF iu hp0 nl;go_wp2_with fail
     (with_reducible refine CI1.out.mono ?_);rintro en w2 ⟨rfl,me⟩
     have nF:=mj (zzT nE.out me);have Kn:=mj (aX.out.below me);clear me x0 x1 y0 y1 nw;cases hn:qy p1 with
     | false =>
       have HN:=mj hn;clear hn;go_wp2_with fail
       go_ret;exact ⟨by rw [HI.out,HN.out];rfl,nF.out⟩
     | true =>
       have HN:=mj hn;clear hn;have P2:=PP.out.2.below nF.out;have CI2:=mj (S2.out.2.2 F w2 _ _ P2.rp);obtain ⟨x0,x1⟩:=Kn.out;obtain ⟨y2,y3⟩:=mu P2.c0 P2.c1;have nw:=P2.blk;have lF:(([p0,p1,p2]:List Tr).length:Nat)=3:=rfl;rw [lF] at x1;simp only [PO,PB,Pa] at y2 y3;clear P2 lF;go_wp2_with fail
       (with_reducible refine CI2.out.mono ?_);rintro en w4 ⟨rfl,nS⟩
       go_wp2_with fail
       go_ret;exact ⟨by rw [HI.out,HN.out];rfl,zzT nF.out nS⟩
    ·have hne:((kids.length:Int) == 3)=false:=by rw [beq_eq_false_iff_ne];omega
     have HI:=mj (isTr_no3 (by rw [HD.out,HL.out]) h4);clear h4;go_wp2_with fail
     go_ret;exact ⟨by rw [HI.out];rfl,nE.out⟩
   have q1:(hd == [97,112,112])=false:=by rw [beq_eq_false_iff_ne];exact BZ
   by_cases J0:hd=ifW
   ·have q2:(hd == [105,102])=true:=by rw [beq_iff_eq];exact J0
    have HL:=mj J0;clear J0 BZ aC;obtain ⟨x0,x1⟩:=aX.out;by_cases h4:kids.length=4
    ·obtain ⟨p0,p1,p2,p3,rfl⟩:∃ a b c d,kids=[a,b,c,d]:=by
      match kids,h4 with
      | [a,b,c,d],_=>exact ⟨a,b,c,d,rfl⟩
     obtain ⟨a1,k1,P1⟩:=(ATK.out.part hbb (k:=1) (t:=p1) rfl).imp fun _ h=>h;obtain ⟨a3,k3,P2⟩:=(ATK.out.part hbb (k:=2) (t:=p2) rfl).imp fun _ h=>h;obtain ⟨a5,k5,P3⟩:=(ATK.out.part hbb (k:=3) (t:=p3) rfl).imp fun _ h=>h;have HI:=mj (isTr_if (a:=p0) (b:=p1) (c:=p2) (d:=p3) (by rw [HD.out,HL.out]));have S1:=mj (SUB.out p1 (by simp));have S2:=mj (SUB.out p2 (by simp));have S3:=mj (SUB.out p3 (by simp));have PP:=mj (mu P1 (mu P2 P3));have CI1:=mj (S1.out.2.2 F w1 _ _ (P1.below nE.out).rp);obtain ⟨y0,y1⟩:=mu (P1.below nE.out).c0 (P1.below nE.out).c1;have nw:=(P1.below nE.out).blk;have lF:(([p0,p1,p2,p3]:List Tr).length:Nat)=4:=rfl;rw [lF] at x1 ⊢;simp only [PO,PB,Pa] at y0 y1;clear P1 P2 P3 h4 lF iu hp0 nl;go_wp2_with fail
     (with_reducible refine CI1.out.mono ?_);rintro en w2 ⟨rfl,me⟩
     have nF:=mj (zzT nE.out me);have Kn:=mj (aX.out.below me);clear me x0 x1 y0 y1 nw;cases hn:qy p1 with
     | false =>
       have HN:=mj hn;clear hn;go_wp2_with fail
       go_ret;exact ⟨by rw [HI.out,HN.out];rfl,nF.out⟩
     | true =>
       have HN:=mj hn;clear hn;have P2:=PP.out.2.1.below nF.out;have CI2:=mj (S2.out.2.2 F w2 _ _ P2.rp);obtain ⟨x0,x1⟩:=Kn.out;obtain ⟨y2,y3⟩:=mu P2.c0 P2.c1;have nw:=P2.blk;have lF:(([p0,p1,p2,p3]:List Tr).length:Nat)=4:=rfl;rw [lF] at x1;simp only [PO,PB,Pa] at y2 y3;clear P2 lF;go_wp2_with fail
       (with_reducible refine CI2.out.mono ?_);rintro en w4 ⟨rfl,nS⟩
       have oR:=mj (zzT nF.out nS);have HX4:=mj (Kn.out.below nS);clear nS x0 x1 y2 y3 nw;cases aK:qy p2 with
       | false =>
         have Hn:=mj aK;clear aK;go_wp2_with fail
         go_ret;exact ⟨by rw [HI.out,HN.out,Hn.out];rfl,oR.out⟩
       | true =>
         have Hn:=mj aK;clear aK;have P3:=PP.out.2.2.below oR.out;have CI3:=mj (S3.out.2.2 F w4 _ _ P3.rp);obtain ⟨x0,x1⟩:=HX4.out;obtain ⟨y2,y3⟩:=mu P3.c0 P3.c1;have nw:=P3.blk;have lF:(([p0,p1,p2,p3]:List Tr).length:Nat)=4:=rfl;rw [lF] at x1;simp only [PO,PB,Pa] at y2 y3;clear P3 lF;go_wp2_with fail
         (with_reducible refine CI3.out.mono ?_);rintro en w5 ⟨rfl,nR⟩
         go_wp2_with fail
         go_ret;exact ⟨by rw [HI.out,HN.out,Hn.out];rfl,zzT oR.out nR⟩
    ·have hne:((kids.length:Int) == 4)=false:=by rw [beq_eq_false_iff_ne];omega
     have HI:=mj (isTr_no4 (.inr (by rw [HD.out,HL.out])) h4);clear h4;go_wp2_with fail
     go_ret;exact ⟨by rw [HI.out];rfl,nE.out⟩
   have q2:(hd == [105,102])=false:=by rw [beq_eq_false_iff_ne];exact J0
   have HI:=mj (isTr_noW (by rw [HD.out];exact aC) (by rw [HD.out];exact BZ) (by rw [HD.out];exact J0));clear aC BZ J0;go_wp2_with fail
   go_ret;exact ⟨by rw [HI.out];rfl,nE.out⟩
theorem l5Is_any (n:Nat):∀ b,(zu b).length<=n->Lim n->jH b->dN b:=by
 induction n with
 | zero=>intro b h hn ho;exact l5Is_step b ho (hn.mono h) (fun b' h' _=>by omega)
 | succ n ih=>exact fun b h hn ho=>l5Is_step b ho (hn.mono h) (fun b' h' Cj=>ih b' (by omega) (hn.mono (by omega)) Cj)
def cO (e:Nat) (m:Bs):Option (List Tr×Bs):=y6 (vW e) (m.length+1) m
theorem rdAll_eq (e:Nat) (m:Bs):cO e m=(vW e m).bind fun x=>match x.2 with
 | []=>none
 | c::r=>if c=41 then some ([x.1],r) else if c=32 then (cO e r).map fun y=>(x.1::y.1,y.2) else none:=by
 unfold cO;rw [y6];cases h:vW e m with
 | none=>rfl
 | some x =>
   obtain ⟨t,r1⟩:=x;simp only [Option.bind_some];cases r1 with
   | nil=>rfl
   | cons c r =>
     have hl:=uo e _ _ _ h;simp only [N5] at hl;simp only;rw [fI (uo e) m.length (r.length+1) r (by omega) (by omega)]
theorem rdTr_all (e:Nat) (r:Bs):vW (e+1) (40::r)=(cO e r).map fun y=>(.ls y.1,y.2):=gw e r
theorem rdTr_suffix {e:Nat} {m r:Bs} {t:Tr} (h:vW e m=some (t,r)):r <:+ m:=by
 obtain ⟨e1,_⟩:=xI e m t r h;exact ⟨_,e1.symm⟩
def uJ (L:Nat) (w:World) (o:Option (Tr×Bs)) (en:Ending) (w':World):Prop :=
 ∃ (s:Bs) (a:Option Addr) (n c:Nat) (k:Int),en=.returned (.tuple #[.agg #[str s,.slice a n c],.int .i64 k])/\Below w.heap.size w w'/\(o=none->k = -1) /\
   (∀ t rest,o=some (t,rest)->k=(L:Int)-rest.length/\zW (w.heap.size<=·) w' (vK t) [str s,.slice a n c])
theorem uJ.no {L:Nat} {w w':World} {o:Option (Tr×Bs)} {s:Bs} {a:Option Addr} {n c:Nat} (ho:o=.none) (hb:Below w.heap.size w w'):uJ L w o (.returned (.tuple #[.agg #[str s,.slice a n c],.int .i64 (-1)])) w' :=
 ⟨s,a,n,c,_,rfl,hb,fun _=>rfl,fun _ _ h=>by rw [ho] at h;simp at h⟩
theorem uJ.yes {L:Nat} {w w':World} {o:Option (Tr×Bs)} {t:Tr} {rest s:Bs} {a:Option Addr} {n c:Nat} {k:Int} (ho:o=.some (t,rest)) (hk:k=(L:Int)-rest.length) (hb:Below w.heap.size w w')
 (hv:zW (w.heap.size<=·) w' (vK t) [str s,.slice a n c]):uJ L w o (.returned (.tuple #[.agg #[str s,.slice a n c],.int .i64 k])) w' :=
 ⟨s,a,n,c,k,rfl,hb,fun h=>by rw [ho] at h;simp at h,fun _ _ h=>by rw [ho] at h;simp at h;obtain ⟨rfl,rfl⟩:=h;exact ⟨hk,hv⟩⟩
def TrSaid (l:Bs) (e:Nat):Prop:=∀ (d i:Nat) (w:World),e+d=101->i<=l.length ->
    Calls KD 68 #[str l,.int .i64 i,.int .i64 d] w (uJ l.length w (vW e (l.drop i)))
def vR (ob:Nat) (s:Bs) (slv:Value) (w:World):Prop:=w.heap[ob]? = some (.cells #[str s,slv] 39 (0,0))
theorem vR.cells {ob:Nat} {s:Bs} {sl:Value} {w:World} (h:vR ob s sl w):w.cell? ⟨ob,0,none⟩=some (str s)/\w.cell? ⟨ob,1,none⟩=some sl/\ob<w.heap.size/\(∀ o,w.frozen? ⟨ob,o,none⟩=false):=by
 have hl:=zZ h;unfold vR at h;exact ⟨by simp [GD,h],by simp [GD,h],hl,fun o=>by simp [World.frozen?,h]⟩
theorem vR.put1 {ob:Nat} {s:Bs} {sl u:Value} {w:World} (h:vR ob s sl w):vR ob s u (w.setCell ⟨ob,1,none⟩ u):=by
 unfold vR;rw [zy h];rfl
theorem vR.below {ob:Nat} {s:Bs} {sl:Value} {w w':World} {B:Nat} (h:vR ob s sl w) (hb:Below B w w') (hm:ob<B):vR ob s sl w':=by
 unfold vR;rw [hb.block ob hm];exact h
theorem vR.store {ob:Nat} {s:Bs} {sl:Value} {w:World} (h:vR ob s sl w) (u0 u1:Value) :
 ∃ W,W=((w.setCell ⟨ob,0,none⟩ u0).setCell ⟨ob,1,none⟩ u1)/\W.cell? ⟨ob,0,none⟩=some u0/\W.cell? ⟨ob,1,none⟩=some u1 /\
   (∀ B w0,Below B w0 w->B<=ob->Below B w0 W)/\(∀ i x,i≠ob->w.heap[i]? = some x->W.heap[i]? = some x):=by
 have hc:((w.setCell ⟨ob,0,none⟩ u0).setCell ⟨ob,1,none⟩ u1).heap[ob]? = some (.cells #[u0,u1] 39 (0,0)):=by
  unfold vR at h;rw [zy (zy h)];rfl
 refine ⟨_,rfl,by simp only [GD,hc];rfl,by simp only [GD,hc];rfl,fun B w0 hb hB=>?_,fun i x hi hx=>?_⟩
 ·exact ((hb.setCell (p:=⟨ob,0,none⟩) hB _).setCell (p:=⟨ob,1,none⟩) hB _)
 ·rw [mp _ _ _ _ (by simpa using hi),mp _ _ _ _ (by simpa using hi)];exact hx
theorem zq.lit2 {w:World} {e:TypeId} (cs:Array Value) (hn:cs.size=2) (hc:∀ u∈cs.toList,u.oneCell'=true) (g:Nat) (hg:g=w.heap.size):zq 2 (.slice (some ⟨g,0,none⟩) 1 1) 1 cs.toList (w.alloc (.cells cs e)):=by
 subst hg;refine ⟨by simp [hn],hc,.inl ⟨_,_,rfl,fun j u hu=>?_⟩⟩;unfold Addr.add;split
 ·subst j;simp;simpa using hu
 ·simp;simpa using hu
theorem word_in {m:Bs} {j:Nat} (h:j<(zF m).length):∃ hm:j<m.length,sep m[j]=false:=by
 have rL:=yj m;have hm:j<m.length:=by omega
 refine ⟨hm,?_⟩;have h1:m[j]=(zF m)[j]:=by
  have e:=yh m
  have:m[j]? = (zF m)[j]?:=by conv=>lhs;rw [<- e]
                              rw [List.getElem?_append_left h]
  rw [O_ hm,O_ h] at this;exact Ob this
 rw [h1];have:=tw_all (fun c=>!sep c) m _ (List.getElem_mem h);simpa using this
theorem word_out {m:Bs} (h:(zF m).length<m.length):sep m[(zF m).length]=true:=by
 have h2:(!sep m[(zF m).length])=false:=tw_end (fun c=>!sep c) m h;simpa using h2
structure mA (w:World) (ob Z:Nat) (wr:World) (ps:List Tr) (vs:List Value) (sl:Value):Prop where
 below:Below w.heap.size w wr
 res:vR w.heap.size [] (.slice none 0 0) wr
 out:vR ob [] sl wr
 own:Own wr 39 2 sl ps.length vs
 blk:∀ g,sl.ownBlock=some g->Z<=g
 rep:zW (fun b=>Z<=b/\sl.ownBlock≠some b) wr (vV ps) vs
 z:Z<=wr.heap.size
theorem mA.next {w:World} {ob Z:Nat} {wr:World} {ps:List Tr} {vs:List Value} {sl:Value} (h:mA w ob Z wr ps vs sl) (Es:ob<Z) (hwo:w.heap.size<ob) {W w7:World} {t:Tr} {cs:List Value} {a':Option Addr} {c':Nat}
 (nJ:Below wr.heap.size wr W) (hcs:zW (wr.heap.size<=·) W (vK t) cs) (nM:Own w7 39 2 (.slice a' (ps.length+1) c') (ps.length+1) (vs++cs)) (mo:But (fun i=>sl.ownBlock=some i) W w7)
 (nG:∀ g,(Value.slice a' (ps.length+1) c').ownBlock=some g->sl.ownBlock=some g\/g=W.heap.size) :
 mA w ob Z (w7.setCell ⟨ob,1,none⟩ (.slice a' (ps.length+1) c')) (ps++[t]) (vs++cs) (.slice a' (ps.length+1) c'):=by
 have z6:=nJ.size;have z7:=mo.size;have zr:=h.z;have keep:∀ i x,wr.heap[i]? = some x->sl.ownBlock≠some i->i≠ob->(w7.setCell ⟨ob,1,none⟩ (.slice a' (ps.length+1) c')).heap[i]? = some x:=by
  intro i x hx h1 h2;have:=zZ hx;rw [mp _ _ _ _ (by simpa using h2),mo.block i (by omega) h1,nJ.block i this];exact hx
 have sH:∀ i x,W.heap[i]? = some x->sl.ownBlock≠some i->i≠ob->(w7.setCell ⟨ob,1,none⟩ (.slice a' (ps.length+1) c')).heap[i]? = some x:=by
  intro i x hx h1 h2;have:=zZ hx;rw [mp _ _ _ _ (by simpa using h2),mo.block i (by omega) h1];exact hx
 have ltK:∀ g,sl.ownBlock=some g->g<wr.heap.size:=fun g hg=>h.own.lt hg;have nK:∀ i,i<Z->sl.ownBlock≠some i:=fun i hi e=>by have:=h.blk i e;omega
 have newg:∀ g,(Value.slice a' (ps.length+1) c').ownBlock=some g->Z<=g:=fun g hg=>by
  rcases nG g hg with e | e
  ·exact h.blk g e
  ·omega
 refine ⟨?_,?_,?_,?_,newg,?_,by simp [World.setCell];omega⟩
 ·refine Below.setCell ?_ (show w.heap.size<=ob by omega) _;exact (zzT h.below nJ).trans (mo.toBelow (by have:=h.below.size;omega) fun i hi e=>nK i (by omega) e)
 ·exact keep _ _ h.res (nK _ (by omega)) (by omega)
 ·have h1:vR ob [] sl w7:=by
   unfold vR;rw [mo.block ob (by omega) (nK _ Es),nJ.block ob (by omega)];exact h.out
  exact h1.put1
 ·rw [show (ps++[t]).length=ps.length+1 from by simp];exact nM.keep fun g o hg ho=>by rw [mp _ _ _ _ (by have:=newg g hg;simp;omega)];exact ho
 ·rw [wJ];refine zW.append ?_ ?_
  ·refine (Rep.keep fun x o hx ho=>⟨⟨hx.1,fun e=>?_⟩,?_⟩).2 _ _ h.rep
   ·exact keep x o ho hx.2 (by have:=hx.1;omega)
   ·rcases nG x e with e' | e'
    ·exact hx.2 e'
    ·have:=zZ ho;omega
  ·have e1:vV [t]=vK t:=by simp [vV]
   rw [e1];refine (Rep.keep fun x o hx ho=>⟨⟨by have:=hx;omega,fun e=>?_⟩,?_⟩).2 _ _ hcs
   ·exact sH x o ho (fun e=>by have:=ltK x e;have:=hx;omega) (by have:=hx;omega)
   ·rcases nG x e with e' | e'
    ·have:=ltK x e';have:=hx;omega
    ·have:=zZ ho;omega
theorem cp (l:Bs) (hl:Lim l.length) (e d:Nat) (Dv:e+d=101) (i:Nat) (w:World) (hi:i<=l.length) (aA:∀ h:i<l.length,e=0\/¬ l[i]=40) :
 Calls KD 68 #[str l,.int .i64 i,.int .i64 d] w (uJ l.length w (vW e (l.drop i))):=by
 have iU:=hl.le;rcases e with _ | e
 ·have As:(100:Int)<(d:Int):=by omega
  clear aA;go_enter Rq,Q_;go_wp2_with fail
  refine bodyPost_ret (v:=.tuple #[.agg #[str [],.slice none 0 0],.int .i64 (-1)]) (by simp [results,Pu,go_sem]) rfl ?_;exact uJ.no (by rfl) (((mw _ _).alloc (my _) _).alloc (by simp) _)
 have Ac:¬ (100:Int)<(d:Int):=by omega
 by_cases m_:i<l.length;rotate_left
 ·clear aA;go_enter Rq,Q_;go_wp2_with fail
  refine bodyPost_ret (v:=.tuple #[.agg #[str [],.slice none 0 0],.int .i64 (-1)]) (by simp [results,Pu,go_sem]) rfl ?_;exact uJ.no (by rw [PX (by omega)];rfl) (((mw _ _).alloc (my _) _).alloc (by simp) _)
 have se:¬ l[i]=40:=(aA m_).resolve_left (by omega);clear aA;have My:=OP m_;have hm:vW (e+1) (l.drop i)=if zF (l.drop i)=[] then none else some (.am (zF (l.drop i)),zD (l.drop i)):=by rw [My];exact gh e _ _ se
 have lU:=yj (l.drop i);rw [PZ] at lU;have hx:(l.take (i+(zF (l.drop i)).length)).drop i=zF (l.drop i):=by
  rw [List.drop_take,Nat.add_sub_cancel_left];exact word_take _
 have Fs:∀ j,j<(zF (l.drop i)).length->∃ h:i+j<l.length,sep l[i+j]=false:=fun j hj=>by
  obtain ⟨h1,h2⟩:=word_in hj;rw [PZ] at h1;rw [Ri] at h2;exact ⟨by omega,h2⟩
 have IJ:l.length<=i+(zF (l.drop i)).length\/∃ h:i+(zF (l.drop i)).length<l.length,sep l[i+(zF (l.drop i)).length]=true:=by
  by_cases h:i+(zF (l.drop i)).length<l.length
  ·right;refine ⟨h,?_⟩;have:=word_out (m:=l.drop i) (by rw [PZ];omega);rw [Ri] at this;exact this
  ·left;omega
 have Eh:(zD (l.drop i)).length+(i+(zF (l.drop i)).length)=l.length:=by omega
 obtain ⟨wd,FK⟩:=zzM (zF (l.drop i));rw [<- FK] at hm hx Fs IJ Eh lU;have HM:=mj (mu hm (mu Fs (mu IJ (mu hx Eh))));have f4:=vH m_ (n:=40) (by decide) se;have I0:i+wd.length<=l.length:=by omega
 clear se My hm hx Fs IJ FK lU Eh;go_enter Rq,Q_;go_wp2_with fail
 clear f4
 go_loop [1] (fun a=>∃ j:Nat,j<=wd.length/\a=.int .i64 ((i+j:Nat):Int)) (fun a=>i+wd.length-(intOf a).toNat)
 case atStart=>exact ⟨0,Og _,by simp⟩
 case round =>
  obtain ⟨j,hj,rfl⟩:=hrel;by_cases Cq:j<wd.length
  ·obtain ⟨F3,hs⟩:=HM.out.2.1 j Cq;have lY:¬ l[i+j]=32/\¬ l[i+j]=40/\¬ l[i+j]=41:=by
    simp only [sep,Bool.or_eq_false_iff,beq_eq_false_iff_ne] at hs;exact ⟨hs.1.1,hs.1.2,hs.2⟩
   have f1:=vH F3 (n:=32) (by decide) lY.1;have f2:=vH F3 (n:=40) (by decide) lY.2.1;have f3:=vH F3 (n:=41) (by decide) lY.2.2;clear hs lY;go_wp2_with fail
   go_round
   case rel=>exact ⟨j+1,by omega,by go_num⟩
   case measure=>simp [intOf];omega
  ·obtain rfl:j=wd.length:=by omega
   have sE:l.length<=i+wd.length\/(∃ h:i+wd.length<l.length,((((⟨l.toArray⟩:ByteArray)[i+wd.length]'(kr h)).toNat:Int) != 32)=false) \/
    (∃ h:i+wd.length<l.length,((((⟨l.toArray⟩:ByteArray)[i+wd.length]'(kr h)).toNat:Int) != 32)=true/\((((⟨l.toArray⟩:ByteArray)[i+wd.length]'(kr h)).toNat:Int) != 40)=false) \/
    (∃ h:i+wd.length<l.length,((((⟨l.toArray⟩:ByteArray)[i+wd.length]'(kr h)).toNat:Int) != 32)=true/\((((⟨l.toArray⟩:ByteArray)[i+wd.length]'(kr h)).toNat:Int) != 40)=true/\((((⟨l.toArray⟩:ByteArray)[i+wd.length]'(kr h)).toNat:Int) != 41)=false):=by
    rcases HM.out.2.2.1 with h | ⟨h,hs⟩
    ·exact .inl h
    ·right;simp only [sep,Bool.or_eq_true,beq_iff_eq] at hs;rcases hs with (hs | hs) | hs
     ·exact .inl ⟨h,vf h (n:=32) (by decide) hs⟩
     ·exact .inr (.inl ⟨h,vH h (c:=32) (n:=32) (by decide) (by rw [hs];decide),vf h (n:=40) (by decide) hs⟩)
     ·exact .inr (.inr ⟨h,vH h (c:=32) (n:=32) (by decide) (by rw [hs];decide),vH h (c:=40) (n:=40) (by decide) (by rw [hs];decide),vf h (n:=41) (by decide) hs⟩)
   have hx:((⟨l.toArray⟩:ByteArray).extract i (i+wd.length))=⟨wd.toArray⟩:=by rw [g_,HM.out.2.2.2.1]
   by_cases h0:wd=[]
   ·subst h0;have HN:=mj (show vW (e+1) (l.drop i)=none by rw [HM.out.1,if_pos rfl]);simp only [OD,Se] at sE hx I0 ⊢;clear Cq hj;rcases sE with h | ⟨h,f1⟩ | ⟨h,f1,f2⟩ | ⟨h,f1,f2,f3⟩
    ·omega
    all_goals
     go_wp2_with fail
     refine bodyPost_ret (v:=.tuple #[.agg #[.string ByteArray.empty,.slice none 0 0],.int .i64 (-1)]) (by simp [results,Pu,go_sem]) rfl ?_;exact uJ.no (s:=[]) HN.out (((mw _ _).alloc (my _) _).alloc (by simp) _)
   ·have hne:(wd == [])=false:=by rw [beq_eq_false_iff_ne];exact h0
    have o_:wd.isEmpty=false:=by rw [RG];exact h0
    have HN:=mj (show vW (e+1) (l.drop i)=some (.am wd,zD (l.drop i)) by rw [HM.out.1,if_neg h0])
    have fin:∀ W:World,Below w.heap.size w W->uJ l.length w (vW (e+1) (l.drop i)) (.returned (.tuple #[.agg #[str wd,.slice none 0 0],.int .i64 ((i:Int)+(wd.length:Int))])) W:=fun W hb =>
     uJ.yes HN.out (by have:=HM.out.2.2.2.2;omega) hb (by
      rw [vK]
      exact zQ.2 ⟨_,_,rfl,zH.2 rfl,zQ.2 ⟨_,_,rfl,zg.2 ⟨rfl,none,0,rfl,my _,fun _=>rfl,.inl rfl⟩,zC.2 rfl⟩⟩)
    have FIN:=mj fin;clear fin h0 Cq hj;rcases sE with h | ⟨h,f1⟩ | ⟨h,f1,f2⟩ | ⟨h,f1,f2,f3⟩
    all_goals
     go_wp2_with fail
     refine bodyPost_ret (v:=.tuple #[.agg #[str wd,.slice none 0 0],.int .i64 ((i:Int)+(wd.length:Int))]) (by simp [results,Pu,go_sem]) rfl ?_;exact FIN.out _ (((mw _ _).alloc (my _) _).alloc (by simp) _)
theorem vR.alloc {ob:Nat} {s:Bs} {sl:Value} {w:World} (h:vR ob s sl w) (o:Obj):vR ob s sl (w.alloc o):=zU h
theorem l5Read_open (l:Bs) (hl:Lim l.length) (e d:Nat) (Dv:e+1+d=101) (ih:TrSaid l e) (i0:Nat) (w:World) (hi:i0<l.length) (se:l[i0]=40) :
 Calls KD 68 #[str l,.int .i64 i0,.int .i64 d] w (uJ l.length w (vW (e+1) (l.drop i0))):=by
 have iU:=hl.le;have IH:=mj ih;clear ih;have Ac:¬ (100:Int)<(d:Int):=by omega
 have hm:vW (e+1) (l.drop i0)=(cO e (l.drop (i0+1))).map fun y=>(.ls y.1,y.2):=by
  rw [OP hi,se,rdTr_all]
 have HM:=mj hm;clear hm;have f4:=vf hi (n:=40) (by decide) se;clear se;go_enter Rq,Q_;go_wp2_with fail
 clear f4;have Lc:mA w (w.heap.size+1) (w.heap.size+2) ((w.alloc (.cells #[str [],.slice none 0 0] 39)).alloc (.cells #[str [],.slice none 0 0] 39)) [] [] (.slice none 0 0):=by
  refine ⟨((mw _ _).alloc (my _) _).alloc (by simp) _,?_,?_,World.ownsRow_nil _ _ _ _,fun g h=>by simp [Value.ownBlock] at h,zC.2 rfl,by simp⟩
  ·exact zU (zG _ _)
  ·have:=zG (w.alloc (.cells #[str [],.slice none 0 0] 39)) (.cells #[str [],.slice none 0 0] 39);rw [zK] at this;exact this
 go_loopw [1] (fun a wr=>∃ (i:Nat) (ps:List Tr) (vs:List Value) (sa:Option Addr) (sc:Nat),a=.int .i64 i/\i<l.length/\ps.length<=i/\(cO e (l.drop (i0+1))=(cO e (l.drop (i+1))).map fun y=>(ps++y.1,y.2))/\mA w (w.heap.size+1) (w.heap.size+2) wr ps vs (.slice sa ps.length sc)) (fun a _=>l.length-(intOf a).toNat)
 case atStart=>exact ⟨i0,[],[],none,0,rfl,hi,Og _,by simp,Lc⟩
 case round =>
  clear Lc;rename_i wr;obtain ⟨i,ps,vs,sa,sc,rfl,I0,GV,JP,aG⟩:=hrel;have ND:=mj JP;clear JP;have DG:=mj aG;clear aG;have C:=mj (IH.out (d+1) (i+1) wr (by omega) I0);go_wp2_with fail
  rw [show (i:Int)+1=((i+1:Nat):Int) from by omega,show (d:Int)+1=((d+1:Nat):Int) from by omega];(with_reducible refine C.out.mono ?_);rintro C8 w6 ⟨s6,a6,n6,c6,k6,rfl,nJ,ij,iI⟩;have z6:=nJ.size;have zr:=DG.out.z;have Ei:=DG.out.res.below nJ (by omega);have Er:=DG.out.out.below nJ (by omega);have AQ:=zzT DG.out.below nJ;obtain ⟨r0,r1,rl6,rf⟩:=Ei.cells;obtain ⟨q0,q1,Ik,qf⟩:=Er.cells;have sG:=rf 0;have tZ:=rf 1;clear rf;have qf0:=qf 0;have qf1:=qf 1;clear qf;have Q:=mj (mu nJ (mu Ei (mu Er AQ)));clear nJ Ei Er AQ C;have Af:=rdAll_eq e (l.drop (i+1));cases hq:vW e (l.drop (i+1)) with
  | none =>
    obtain rfl:=ij hq;have HN:=mj (show vW (e+1) (l.drop i0)=none by rw [HM.out,ND.out,Af,hq];rfl);clear Af hq ij iI;go_wp2_with fail
    obtain ⟨W,hW,s0,s1,nV,_⟩:=Q.out.2.1.store (.string ⟨#[]⟩) (.slice sa ps.length sc);rw [<- hW];refine bodyPost_ret (v:=.tuple #[.agg #[str [],.slice sa ps.length sc],.int .i64 (-1)]) (by simp [results,Pu,go_sem,zV s0,zV s1]) rfl ?_;exact uJ.no HN.out ((nV _ _ Q.out.2.2.2 (my _)).alloc (nV _ _ Q.out.2.2.2 (my _)).size _)
  | some x =>
    obtain ⟨t,rest⟩:=x;obtain ⟨rfl,Cu⟩:=iI _ _ hq;have oS:=yr (rdTr_suffix hq);have IB:=uo e _ _ _ hq;rw [PZ] at IB;have Eg:rest.length<=l.length:=by omega
    obtain ⟨tN,Fu⟩:=zzM (l.length-rest.length);rw [<- Fu] at oS;have Ds:(l.length:Int)-(rest.length:Int)=(tN:Int):=by omega
    rw [Ds];have F5:i+1<tN/\tN<=l.length:=by omega
    subst oS;rw [hq,Option.bind_some] at Af;simp only at Af;have NU:=mj Af;have NP:=mj Cu;clear Af Cu hq ij iI Ds Fu Eg IB;by_cases BP:tN=l.length
    ·have HN:=mj (show vW (e+1) (l.drop i0)=none by rw [HM.out,ND.out,NU.out,PX (by omega)];rfl);have g1:(l.length:Int)<=(tN:Int):=by omega
     have g0:¬ (tN:Int)<0:=by omega
     go_wp2_with fail
     obtain ⟨W,hW,s0,s1,nV,_⟩:=Q.out.2.1.store (.string ⟨#[]⟩) (.slice sa ps.length sc);rw [<- hW];refine bodyPost_ret (v:=.tuple #[.agg #[str [],.slice sa ps.length sc],.int .i64 (-1)]) (by simp [results,Pu,go_sem,zV s0,zV s1]) rfl ?_;exact uJ.no HN.out ((nV _ _ Q.out.2.2.2 (my _)).alloc (nV _ _ Q.out.2.2.2 (my _)).size _)
    have oV:tN<l.length:=by omega
    have g1:¬ (l.length:Int)<=(tN:Int):=by omega
    have g0:¬ (tN:Int)<0:=by omega
    have hlps:ps.length<=16777216:=by omega
    clear BP;go_wp2_with (at_builtin;refine zE rfl _ _ 37 rfl 39 (.agg #[str [],.slice none 0 0]) 2 40 Tryz.underlying37 Tryz.infoTr rfl (by decide) (.slice sa ps.length sc) ps.length vs rfl ?c1 _ 1 [str s6,.slice a6 n6 c6] rfl ?c2 ?c3 ?c4 ?_)
    case c1 =>
     refine (DG.out.own.keep fun g o hg ho=>?_).alloc _ |>.alloc _;rw [Q.out.1.block g (zZ ho)];exact ho
    case c2=>exact zq.lit2 #[str s6,.slice a6 n6 c6] rfl (by simp [str,Value.oneCell']) _ (by simp)
    case c3=>unfold maxLen;omega
    case c4=>omega
    intro a' c' w7 nL mo nG;have hW:Below wr.heap.size wr ((w6.alloc (.cells #[str s6,.slice a6 n6 c6] 39)).alloc (.cells #[str s6,.slice a6 n6 c6] 39)):=(Q.out.1.alloc Q.out.1.size _).alloc (by have:=Q.out.1.size;simp;omega) _
    have hC:zW (wr.heap.size<=·) ((w6.alloc (.cells #[str s6,.slice a6 n6 c6] 39)).alloc (.cells #[str s6,.slice a6 n6 c6] 39)) (vK t) [str s6,.slice a6 n6 c6] :=
     (Rep.keep fun i o hi ho=>⟨hi,zU (zU ho)⟩).2 _ _ NP.out
    have hA:=DG.out.next (by omega) (show w.heap.size<w.heap.size+1 by omega) hW hC nL mo (fun g hg=>by simpa only [zK] using nG g hg);have z7:=mo.size;rw [zK,zK] at z7;have BQ:w7.cell? ⟨w.heap.size+1,1,none⟩=some (.slice sa ps.length sc):=by
     rw [mo.cell (by simp only [zK];omega) (fun e=>by have h:w.heap.size+2<=w.heap.size+1:=DG.out.blk _ e;omega)];exact zV (zV q1)
    have Eq:vR (w.heap.size+1) [] (.slice sa ps.length sc) w7:=by
     unfold vR;rw [mo.block _ (by simp only [zK];omega) (fun e=>by have h:w.heap.size+2<=w.heap.size+1:=DG.out.blk _ e;omega)];exact zU (zU Q.out.2.2.1)
    obtain ⟨p0,p1,pl7,pf⟩:=Eq.cells;have pf1:=pf 1;clear pf q0 q1 qf0 qf1 r0 r1 sG tZ Ik rl6;have HA:=mj (mu hA Eq);clear hA hW hC nL mo nG Eq BQ;have My:=OP oV;rw [My] at NU;obtain ⟨r0,r1,rl8,rf⟩:=HA.out.1.res.cells;have sG:=rf 0;have tZ:=rf 1;clear rf My;by_cases Au:l[tN]=41
    ·have f1:=xy oV (n:=41) (by decide) Au
     have HY:=mj (show vW (e+1) (l.drop i0)=some (.ls (ps++[t]),l.drop (tN+1)) by
      rw [HM.out,ND.out,NU.out];simp only [if_pos Au,Option.map_some])
     clear Au;go_wp2_with fail
     obtain ⟨W,hW,s0,s1,nV,nT⟩:=HA.out.1.res.store (.string ⟨#[]⟩) (.slice a' (ps.length+1) c');rw [<- hW];refine bodyPost_ret (v:=.tuple #[.agg #[str [],.slice a' (ps.length+1) c'],.int .i64 ((tN:Int)+1)]) (by simp [results,Pu,go_sem,s0,s1]) rfl ?_;have aG:=HA.out.1;refine uJ.yes (s:=[]) HY.out (by rw [PZ];omega) (nV _ _ aG.below (my _)) ?_;rw [vK];refine zQ.2 ⟨_,_,rfl,zH.2 rfl,zQ.2 ⟨_,_,rfl,?_,zC.2 rfl⟩⟩;rw [show ps.length+1=(ps++[t]).length from by simp] at aG nT ⊢;refine (aG.own.keep fun g o hg ho=>nT g o (by have:=aG.blk g hg;omega) ho).rep (fun g hg=>by have:=aG.blk g hg;omega) ?_;exact (Rep.keep fun x o hx ho=>⟨by have:=hx.1;omega,nT x o (by have:=hx.1;omega) ho⟩).2 _ _ aG.rep
    have f1:=uW oV (n:=41) (by decide) Au;by_cases Bq:l[tN]=32
    ·have f2:=vf oV (n:=32) (by decide) Bq
     have HY:=mj (show cO e (l.drop (i0+1))=(cO e (l.drop (tN+1))).map fun y=>((ps++[t])++y.1,y.2) by
      rw [ND.out,NU.out];simp only [if_neg Au,if_pos Bq,Option.map_map];congr 1;funext y;simp)
     clear Au Bq;go_wp2_with fail
     go_roundw
     case rel=>exact ⟨tN,ps++[t],vs++[str s6,.slice a6 n6 c6],a',c',rfl,oV,by simp;omega,HY.out,by simpa using HA.out.1⟩
     case measure=>simp [intOf];omega
    ·have f2:=vH oV (n:=32) (by decide) Bq;have HN:=mj (show vW (e+1) (l.drop i0)=none by rw [HM.out,ND.out,NU.out];simp only [if_neg Au,if_neg Bq];rfl);clear Au Bq;go_wp2_with fail
     obtain ⟨W,hW,s0,s1,nV,nT⟩:=HA.out.1.res.store (.string ⟨#[]⟩) (.slice a' (ps.length+1) c');rw [<- hW];refine bodyPost_ret (v:=.tuple #[.agg #[str [],.slice a' (ps.length+1) c'],.int .i64 (-1)]) (by simp [results,Pu,go_sem,s0,s1]) rfl ?_;exact uJ.no HN.out (nV _ _ HA.out.1.below (my _))
theorem fb (l:Bs) (hl:Lim l.length):∀ e,e<=101->TrSaid l e
 | 0,h=>fun d i w Dv hi=>cp l hl 0 d Dv i w hi (fun _=>.inl rfl)
 | e+1,h=>fun d i w Dv hi=>by
   by_cases se:∃ m_:i<l.length,l[i]=40
   ·obtain ⟨m_,se⟩:=se;exact l5Read_open l hl e d Dv (fb l hl e (by omega)) i w m_ se
   ·exact cp l hl (e+1) d Dv i w hi (fun m_=>.inr fun h=>se ⟨m_,h⟩)
def STermPost (w:World) (o:Option Tr) (en:Ending) (w':World):Prop :=
 ∃ (s:Bs) (a:Option Addr) (n c:Nat),en=.returned (.tuple #[.agg #[str s,.slice a n c],.bool o.isSome])/\Below w.heap.size w w'/\(∀ t,o=some t->jH t/\zW (w.heap.size<=·) w' (vK t) [str s,.slice a n c])
abbrev xP (tb:Nat) (u0 u1:Value) (w':World):Prop:=w'.cell? ⟨tb,0,none⟩=some u0/\w'.cell? ⟨tb,1,none⟩=some u1
theorem xP.below {tb:Nat} {u0 u1:Value} {w w':World} (h:xP tb u0 u1 w) (hb:Below w.heap.size w w'):xP tb u0 u1 w' :=
 ⟨(hb.cell (mx w _ h.1)).trans h.1,(hb.cell (mx w _ h.2)).trans h.2⟩
theorem xP.set {tb:Nat} {u0 u1:Value} {w:World} (h:xP tb u0 u1 w) (b o:Nat) (u:Value) (hb:tb≠b):xP tb u0 u1 (w.setCell ⟨b,o,none⟩ u) :=
 ⟨(P7 (mp _ _ _ _ (by simpa using hb))).trans h.1,(P7 (mp _ _ _ _ (by simpa using hb))).trans h.2⟩
theorem isTr_ok {l:Bs} {t:Tr} {r:Bs} {e:Nat} (h:vW e l=some (t,r)):jH t:=(xI e l t r h).2.1
theorem l5Term_any (l:Bs) (hl:Lim l.length) (w:World):Calls KD 35 #[str l] w (STermPost w (qx l)):=by
 have iU:=hl.le;by_cases E4:1000<l.length
 ·have h1:(1000:Int)<(l.length:Int):=by omega
  have HM:=mj (show qx l=none by unfold qx;rw [if_pos E4]);go_enter TM,Td;go_wp2_with fail
  refine bodyPost_ret (v:=.tuple #[.agg #[str [],.slice none 0 0],.bool false]) (by simp [results,QK,go_sem]) rfl ?_;exact ⟨[],none,0,0,by rw [HM.out];rfl,(mw _ _).alloc (my _) _,fun t h=>by rw [HM.out] at h;simp at h⟩
 have h1:¬ (1000:Int)<(l.length:Int):=by omega
 have HM:=mj (show qx l=(match vW 101 l with | some (t,[])=>if qy t && decide (qE t<=60) then some t else none | _=>none) by unfold qx;rw [if_neg E4];rfl);clear E4;have C:Hid (∀ wz,Calls KD 68 #[str l,.int .i64 0,.int .i64 0] wz (uJ l.length wz (vW 101 l))):=fun wz=>by
  have h:=fb l hl 101 (by omega) 0 0 wz (by omega) (Og _);rw [List.drop_zero] at h;exact h
 go_enter TM,Td;go_wp2_with fail
 (with_reducible refine (C.out _).mono ?_);rintro en w1 ⟨s6,a6,n6,c6,k6,rfl,mi,nh,nf⟩
 have z1:=mi.size;rw [zK] at z1;have Ej:vR w.heap.size [] (.slice none 0 0) w1:=vR.below (zG _ _) mi (by simp);have F9:Below w.heap.size w w1:=((mw w.heap.size w).alloc (my _) _).trans (mi.mono (by simp));obtain ⟨W2,rQ⟩:=zzM (w1.alloc (.cells #[str s6,.slice a6 n6 c6] 39));have DQ:xP w1.heap.size (str s6) (.slice a6 n6 c6) W2:=by subst rQ;exact ⟨by simp,by simp⟩
 have hK2d:xP w1.heap.size (str s6) (.slice a6 n6 c6) W2.drew:=DQ;have rE:vR w.heap.size [] (.slice none 0 0) W2:=by subst rQ;exact zU Ej
 have oW:Below w.heap.size w W2:=by subst rQ;exact F9.alloc F9.size _
 have z2:W2.heap.size=w1.heap.size+1:=by subst rQ;simp
 obtain ⟨r0,r1,rl,rf⟩:=rE.cells;have sG:=rf 0;have tZ:=rf 1;clear rf;have Bt:w1.heap.size≠w.heap.size:=by omega
 have FIN:∀ (Wz:World) (B:Bool) (o:Option Tr),qx l=o->o.isSome=B->Below w.heap.size w Wz->(∀ t,o=some t->jH t/\zW (fun b=>w.heap.size<b) Wz (vK t) [str s6,.slice a6 n6 c6]) ->
  ∀ W,(∀ B w0,Below B w0 Wz->B<=w.heap.size->Below B w0 W)->(∀ i x,i≠w.heap.size->Wz.heap[i]? = some x->W.heap[i]? = some x)->STermPost w (qx l) (.returned (.tuple #[.agg #[str s6,.slice a6 n6 c6],.bool B])) W:=by
  intro Wz B o ho hB hb hr W nV nT;rw [ho];exact ⟨s6,a6,n6,c6,by rw [hB],nV _ _ hb (my _),fun t ht=>⟨(hr t ht).1,(Rep.keep fun b o nW ho=>⟨Nat.le_of_lt nW,nT b o (by have:=nW;omega) ho⟩).2 _ _ (hr t ht).2⟩⟩
 have FN:=mj FIN;clear FIN;by_cases rM:k6=(l.length:Int);rotate_left
 ·have q:(k6 == (l.length:Int))=false:=by rw [beq_eq_false_iff_ne];exact rM
  have aA:qx l=none:=by
   rw [HM.out];cases hq:vW 101 l with
   | none=>rfl
   | some x =>
     obtain ⟨t,rest⟩:=x;cases rest with
     | nil=>have:=(nf t [] hq).1;simp at this;exact absurd this rM
     | cons a b=>rfl
  have HN:=mj aA;have HR:=mj (mu rE oW);clear aA rM nf nh mi F9 Ej;have q0:W2.cell? ⟨w1.heap.size,0,none⟩=some (str s6):=DQ.1;have q1:W2.cell? ⟨w1.heap.size,1,none⟩=some (.slice a6 n6 c6):=DQ.2;go_wp2_with fail
  rw [<- rQ];clear rQ
  go_region
  go_wp2_with fail
  obtain ⟨W,hW,s0,s1,nV,nT⟩:=(HR.out.1).store (str s6) (.slice a6 n6 c6);rw [<- hW];refine bodyPost_ret (v:=.tuple #[.agg #[str s6,.slice a6 n6 c6],.bool false]) (by simp [results,QK,go_sem,s0,s1]) rfl ?_;exact FN.out W2 false none HN.out rfl HR.out.2 (fun t h=>by simp at h) W.drew (fun B w0 h hB=>(nV B w0 h hB).drew) nT
 obtain ⟨t,hq⟩:∃ t,vW 101 l=some (t,[]):=by
  cases hq:vW 101 l with
  | none=>have:=nh hq;omega
  | some x =>
    obtain ⟨t,rest⟩:=x;have h1:=(nf t rest hq).1;have:rest.length=0:=by omega
    rw [Ox this];exact ⟨t,rfl⟩
 have q:(k6 == (l.length:Int))=true:=by rw [beq_iff_eq];exact rM
 have rU:=(nf t [] hq).2;have nC:=isTr_ok hq;have m_:Lim (zu t).length:=hl.mono (by have:=congrArg Pj (xI 101 l t [] hq).1;simp at this;omega);have hm:qx l=if qy t && decide (qE t<=60) then some t else none:=by rw [HM.out,hq]
 have HM:=mj hm;have sS:zW (fun b=>w.heap.size<b) W2 (vK t) [str s6,.slice a6 n6 c6]:=by
  subst rQ;exact (Rep.keep fun b o h ho=>⟨by have:=h;rw [zK] at this;omega,zU ho⟩).2 _ _ rU
 have lO:=mj sS;have CI:=mj (l5Is_any _ t (my _) m_ nC _ W2.drew _ _ sS.drew);have CS:=mj (fun wz (hb:Below W2.heap.size W2 wz)=>l5Size_any _ t (my _) m_ nC _ wz _ _ (zW.below (F':=fun b=>w.heap.size<b) hb (fun _ h=>h) sS));have hsz:qE t<=16777216:=by have:=dj t nC;have:=m_.le;omega
 have FF:=mj (mu nC oW);have rl0:=rl;clear hm sS rU nf nh mi F9 Ej hq r0 r1 sG tZ rl rM nC;cases hi:qy t with
 | false =>
   have HI:=mj hi;have HN:=mj (show qx l=none by rw [HM.out,hi];rfl);clear hi;go_wp2_with fail
   rw [<- rQ];clear rQ;refine wp_region_noPanic ?_;refine zB (fun w'=>xP w1.heap.size (str s6) (.slice a6 n6 c6) w') (fun _=>false) (by kernel_rfl) ?_;have mt:(fun w'=>xP w1.heap.size (str s6) (.slice a6 n6 c6) w') W2.drew:=DQ;refine tC [0,1,2,3,4,5,6] mt ?_;iterate 7 (refine tl (fun w' nP=>nP) ?_)
   refine tz ?_;(refine on 7 ?_;intro o ho K' hK;simp at ho;subst ho;go_simp);go_at_call 69;(with_reducible refine CI.out.mono ?_);rintro en5 w5 ⟨rfl,nR⟩;rw [HI.out];have oM:Hid (Below W2.heap.size W2 w5):=(Below.drew (mw W2.heap.size W2)).trans nR;have oO:=DQ.below oM.out;have NL:=mj (rE.below oM.out rl0);clear nR;(refine hK.out _ _ (fun _=>oO) ?_;clear hK K';try simp only [pQ,pN,pZ,pS]);have DP:=oO;refine tk [8,9,10] DP ?_;(intro d hd;simp [tkD] at hd;subst hd;simp only [tks,pQ,pZ,pS]);iterate 3 (refine ⟨?_,?_,?_⟩;rotate_left;· (intro oi ho;simp at ho;subst ho;first | (refine Or.inr ⟨by rfl,?_⟩;with_reducible rfl) | (refine Or.inl ⟨by rfl,fun w' nP=>?_⟩;go_simp;try with_reducible rfl)))
   refine oC 11 oO ?_;refine tk [12,13] DP ?_;(intro d hd;simp [tkD] at hd;subst hd;simp only [tks,pQ,pZ,pS]);iterate 2 (refine ⟨?_,?_,?_⟩;rotate_left;· (intro oi ho;simp at ho;subst ho;first | (refine Or.inr ⟨by rfl,?_⟩;with_reducible rfl) | (refine Or.inl ⟨by rfl,fun w' nP=>?_⟩;go_simp;try with_reducible rfl)))
   (refine on 14 ?_;intro o ho K' hK;simp at ho;subst ho);obtain ⟨r0,r1,rl,rf⟩:=(NL.out).cells
   have sG:=rf 0;have tZ:=rf 1;clear rf;go_simp;(refine hK.out _ _ (fun _=>(oO.set _ _ _ Bt).set _ _ _ Bt) ?_;clear hK K';try simp only [pQ,pN,pZ,pS]);refine oC 15 ((oO.set _ _ _ Bt).set _ _ _ Bt) ?_;refine zY (by kernel_rfl) (NoPanic.normal ?_) _;go_wp2_with fail
   obtain ⟨W,hW,s0,s1,nV,nT⟩:=(NL.out).store (str s6) (.slice a6 n6 c6);rw [<- hW];refine bodyPost_ret (v:=.tuple #[.agg #[str s6,.slice a6 n6 c6],.bool false]) (by simp [results,QK,go_sem,s0,s1]) rfl ?_;exact FN.out w5 false none HN.out rfl (zzT FF.out.2 oM.out) (fun t h=>by simp at h) W nV nT
 | true =>
   have HI:=mj hi;have HN:=mj (show qx l=if decide (qE t<=60) then some t else none by rw [HM.out,hi];rfl);clear hi;go_wp2_with fail
   rw [<- rQ];clear rQ;refine wp_region_noPanic ?_;refine zB (fun w'=>xP w1.heap.size (str s6) (.slice a6 n6 c6) w') (fun _=>false) (by kernel_rfl) ?_;have mt:(fun w'=>xP w1.heap.size (str s6) (.slice a6 n6 c6) w') W2.drew:=DQ;refine tC [0,1,2,3,4,5,6] mt ?_;iterate 7 (refine tl (fun w' nP=>nP) ?_)
   refine tz ?_;(refine on 7 ?_;intro o ho K' hK;simp at ho;subst ho;go_simp);go_at_call 69;(with_reducible refine CI.out.mono ?_);rintro en5 w5 ⟨rfl,nR⟩;rw [HI.out];have oM:Hid (Below W2.heap.size W2 w5):=(Below.drew (mw W2.heap.size W2)).trans nR;have oO:=DQ.below oM.out;have NL:=mj (rE.below oM.out rl0);clear nR;(refine hK.out _ _ (fun _=>oO) ?_;clear hK K';try simp only [pQ,pN,pZ,pS]);have DP:=oO;refine tC [8,9,10] DP ?_;iterate 3 (refine tl (fun w' nP=>nP) ?_)
   refine tz ?_;(refine on 11 ?_;intro o ho K' hK;simp at ho;subst ho;go_simp);go_at_call 70;(with_reducible refine (CS.out w5 oM.out).mono ?_);rintro en7 w7 ⟨rfl,mo⟩;have DI:Hid (Below W2.heap.size W2 w7):=zzT oM.out mo;have hK7:=DQ.below DI.out;have NJ:=mj (rE.below DI.out rl0);clear mo;(refine hK.out _ _ (fun _=>hK7) ?_;clear hK K';try simp only [pQ,pN,pZ,pS]);have hS11:=hK7;refine tC [12,13] hS11 ?_;iterate 2 (refine tx ?_)
   refine tz ?_;(refine on 14 ?_;intro o ho K' hK;simp at ho;subst ho);obtain ⟨r0,r1,rl,rf⟩:=(NJ.out).cells;have sG:=rf 0;have tZ:=rf 1;clear rf;go_simp;(refine hK.out _ _ (fun _=>(hK7.set _ _ _ Bt).set _ _ _ Bt) ?_;clear hK K';try simp only [pQ,pN,pZ,pS]);refine oC 15 ((hK7.set _ _ _ Bt).set _ _ _ Bt) ?_;refine zY (by kernel_rfl) (NoPanic.normal ?_) _;go_wp2_with fail
   obtain ⟨W,hW,s0,s1,nV,nT⟩:=(NJ.out).store (str s6) (.slice a6 n6 c6);rw [<- hW];refine bodyPost_ret (v:=.tuple #[.agg #[str s6,.slice a6 n6 c6],.bool (decide ((qE t:Int)<=60))]) (by simp [results,QK,go_sem,s0,s1]) rfl ?_;by_cases Bp:qE t<=60
   ·exact FN.out w7 _ (some t) (by rw [HN.out,if_pos (by simpa using Bp)]) (by rw [decide_eq_true (by omega)];rfl) (zzT FF.out.2 DI.out) (fun t' h=>by
     obtain rfl:=Ob h
     exact ⟨FF.out.1,zW.below DI.out (fun _ h=>h) lO.out⟩) W nV nT
   ·exact FN.out w7 _ none (by rw [HN.out,if_neg (by simpa using Bp)]) (by rw [decide_eq_false (by omega)];rfl) (zzT FF.out.2 DI.out) (fun t h=>by simp at h) W nV nT
def eJ (t:Ty):Prop:=∀ (F:Nat->Prop) (w:World) (v:Value),Rep F w (ke t) v ->
 Calls KD 48 #[.agg #[v]] w fun en w'=>en=.returned (str (zN t))/\Below w.heap.size w w'
theorem textT_drop {ts:List Ty} {k:Nat} {t:Ty} (h:ts[k]? = some t):zN (.mk (ts.drop k))=((([40,62,32]++zN t)++[32])++zN (.mk (ts.drop (k+1))))++[41]:=by
 have hk:=(N6.1 h).1;have e:ts[k]=t:=(N6.1 h).2;rw [OP hk,yS,e];simp
theorem atomsT_drop (ts:List Ty) (k:Nat):zJ (.mk (ts.drop k))<=zJ (.mk ts):=by
 have:=yY (ts.take k) (ts.drop k);rw [List.take_append_drop] at this;simp only [zJ];omega
theorem l1Text_step (t:Ty) (hl:zJ t<=1000) (ih:∀ t',zJ t'<zJ t->eJ t'):eJ t:=by
 intro F w v hv;rw [q_] at hv;obtain ⟨a,cap,e,_,hlen,ml⟩:=zP hv;subst e;have IH:=mj ih;clear ih;have AT:=mj ml;clear ml hlen hv;have hE:=qi t;have hlb:t.args.length<=1000:=by have:=qB t.args;omega
 have E1:=mj hE;clear hE;have HT:Hid (t=.mk t.args):=by show t=_;cases t;rfl
 go_enter Tryz.func48,Tryz.ntmps48;go_wp2_with fail
 go_loopw [3,4] (fun o i wr=>∃ k:Nat,k<=t.args.length/\i=.int .i64 ((k:Int)-1)/\o=str (zN (.mk (t.args.drop k)))/\Below w.heap.size w wr/\wr.cell? ⟨w.heap.size,0,none⟩=some (.slice a t.args.length cap)) (fun _ i _=>(intOf i+1).toNat)
 case atStart=>exact ⟨t.args.length,my _,rfl,by rw [List.drop_length,yR],(mw _ _).alloc (my _) _,by simp⟩
 case round =>
  obtain ⟨k,hk,rfl,rfl,hb,hc⟩:=hrel;cases k with
  | succ k =>
    have Bg:(0:Int)<=((k+1:Nat):Int)-1:=by omega
    have hki:((k+1:Nat):Int)-1=(k:Int):=by omega
    have m_:k<t.args.length:=by omega
    have rF:(k:Int)<(t.args.length:Int):=by omega
    obtain ⟨b',o,u,d,eb,_,nW,hd,hu,hr⟩:=AT.out k m_;subst eb;rw [v_,Option.map_eq_some_iff] at hd;obtain ⟨t',tE,rfl⟩:=hd;obtain ⟨ua,uc,rfl⟩:=kU hr;have hu':wr.cell? ⟨b',o+k,none⟩=some (.slice ua t'.args.length uc):=by rw [hb.cell nW];exact hu
    have aH:=Rep.below (F':=F) hb (fun _ h=>h) hr;have hs:=xE tE;have rL:=uO t.args (k+1);have aS:=E1.out;have IH':=mj (IH.out t' (by omega));have l1:=jG 1000 t' (by omega);have d1:=atomsT_drop t.args (k+1);rw [<- HT.out] at d1;have l2:=jG 1000 (.mk (t.args.drop (k+1))) (by omega);have hx:=textT_drop tE;obtain ⟨X,hX⟩:=zzN (zN t');rw [hX] at hx l1;have HX:=mj hx;have HXX:=mj hX;clear hx hX;generalize zN (.mk (t.args.drop (k+1)))=R at *;obtain ⟨O1,h1⟩:=zzM ([40,62,32]++X);obtain ⟨O2,h2⟩:=zzM (O1++[32]);obtain ⟨O3,h3⟩:=zzM (O2++R);obtain ⟨O4,h4⟩:=zzM (O3++[41]);have m1:O1.length=X.length+3:=by rw [h1];simp
    have m2:O2.length=O1.length+1:=by rw [h2];simp
    have m3:O3.length=O2.length+R.length:=by rw [h3];simp
    have oI:=fun w0=>k9 (P:=KD) [40,62,32] X (by simp;omega) w0;have oL:=fun w0=>k9 (P:=KD) O1 [32] (by simp;omega) w0;have AZ:=fun w0=>k9 (P:=KD) O2 R (by omega) w0;have AX:=fun w0=>k9 (P:=KD) O3 [41] (by simp;omega) w0;have H4:Hid (zN (.mk (t.args.drop k))=O4):=by show _=_;rw [HX.out,h4,h3,h2,h1]
    rw [<- h1] at oI;rw [<- h2] at oL;rw [<- h3] at AZ;rw [<- h4] at AX;have hz:=mx wr _ hc;rw [hki];clear hs tE aS hu hr l1 l2 d1 h1 h2 h3 h4 m1 m2 m3 rL hki Bg;go_wp2_with fail
    refine (IH'.out _ _ _ aH).mono ?_;rintro en w2 ⟨rfl,me⟩;rw [HXX.out];have nZ:=zzT hb me;have tf:w2.cell? ⟨w.heap.size,0,none⟩=some (.slice (some ⟨b',o,none⟩) t.args.length cap):=by rw [me.cell hz];exact hc
    go_wp2_with fail
    go_roundw
    case rel=>exact ⟨k,by omega,rfl,by rw [H4.out],nZ,tf⟩
    case measure=>simp [intOf]
  | zero =>
    have Bg:¬ (0:Int)<=((0:Nat):Int)-1:=by omega
    go_wp2_with fail
    go_ret;refine ⟨?_,hb⟩;have e:zN (.mk t.args)=zN t:=by rw [<- HT.out]
    show Ending.returned (str (zN (.mk t.args)))=_;rw [e]
theorem uy (n:Nat):∀ t,zJ t<=n->n<=1000->eJ t:=by
 induction n with
 | zero=>intro t h _;have:=kg t;omega
 | succ n ih=>exact fun t h hn=>l1Text_step t (by omega) (fun t' h'=>ih t' (by omega) (by omega))
def StrsAt (w:World) (a:Option Addr) (xs:List Bs):Prop:=∀ (k:Nat) (s:Bs),xs[k]? = some s->∃ b o,a=some ⟨b,o,none⟩/\w.cell? ⟨b,o+k,none⟩=some (str s)
theorem StrsAt.below {w w':World} {a:Option Addr} {xs:List Bs} (h:StrsAt w a xs) (hb:Below w.heap.size w w'):StrsAt w' a xs:=fun k s hs=>by
 obtain ⟨b,o,e,hc⟩:=h k s hs;exact ⟨b,o,e,(hb.cell (mx w _ hc)).trans hc⟩
theorem Tryz.infoStr:(KD.info? 9).map (fun i=>(i.zero,i.size,i.bytes))=some (some (str []),1,16):=by kernel_rfl
end Go.Proofs.YtpgiohmcggllgaaGreatDoor
