/- Walks of functions that the statement reaches, and plain words. No conditions. -/
import Derived.Laws.RangeAny
import Derived.Laws.Runes
import Derived.Lib.DecodeN
import Derived.Lib.QuoteLoop
import Derived.Deep.RegionHeld3
import Derived.WalkMore
import Derived.Deep.QuietTactic
import Derived.BigQuiet
import Derived.Lib.RuneCountTail
import Derived.Test.YtjggkhmojjaomaaGreatDoorQ1
set_option linter.unusedVariables false
set_option linter.unusedSimpArgs false
set_option maxHeartbeats 2000000
namespace Go.Proofs.YtjggkhmojjaomaaGreatDoor
open Go.RowKit
theorem decode_hi (s:ByteArray) (pos:Nat) (h:pos<s.size) (ha:128<=(s.get! pos).toNat) :
 128<=(Utf8.decode s pos).1/\1<=(Utf8.decode s pos).2/\pos+(Utf8.decode s pos).2<=s.size/\∀ j,pos<=j->j<pos+(Utf8.decode s pos).2->128<=(s.get! j).toNat:=by
 rw [Lib.decode_at]
 have hn:¬ (s.get! pos).toNat<128:=by omega
 unfold Lib.decodeN
 rw [if_neg hn]
 repeat' split
 all_goals refine ⟨by simp only;omega,by simp only;omega,by simp only;omega,fun j h1 h2=>?_⟩
 all_goals simp only at h2
 all_goals rcases (by omega:j=pos\/j=pos+1\/j=pos+2\/j=pos+3) with rfl | rfl | rfl | rfl <;> omega
set_option maxRecDepth 100000 in
theorem indexRune_bad (w:World):Calls Tryz.prog 104 #[.string ⟨#[32,40,41]⟩,.int .i32 65533] w fun en w'=>en=.returned (.int .i64 (-1))/\Below w.heap.size w w':=by
 go_enter Tryz.func104,Tryz.ntmps104
 go_wp2_with fail
 go_loopg [5,6] 3 (fun g _ _ wx=>∃ i:Nat,i+g=3/\wx=w.iter ⟨#[32,40,41]⟩ i)
 case atStart=>exact ⟨0,rfl,rfl⟩
 case round =>
  obtain ⟨i,hig,rfl⟩:=hrel
  cases gk with
  | zero =>
    obtain rfl:i=3:=by omega
    have A2:=fun ty=>run_next_end (P:=Tryz.prog) w ⟨#[32,40,41]⟩ 3 ty (by decide)
    go_wp2_with fail
    go_ret
    exact ⟨rfl,(e_ _ _).alloc (ei _) _⟩
  | succ g =>
    have hi:i<(⟨#[32,40,41]⟩:ByteArray).size:=by show i<3;omega
    obtain ⟨x,hx⟩:∃ x:UInt8,(⟨#[32,40,41]⟩:ByteArray)[i]'hi=x:=⟨_,rfl⟩
    have Im:x.toNat<128:=by
     rw [<- hx]
     rcases (by omega:i=0\/i=1\/i=2) with rfl | rfl | rfl
     ·exact (by decide:(32:UInt8).toNat<128)
     ·exact (by decide:(40:UInt8).toNat<128)
     ·exact (by decide:(41:UInt8).toNat<128)
    have A2:=fun ty=>run_next_ascii (P:=Tryz.prog) w ⟨#[32,40,41]⟩ i ty hi (by rw [hx];exact Im)
    rw [hx] at A2
    have HX:=ed hx;clear hx
    have hne:((x.toNat:Int) == 65533)=false:=by rw [beq_eq_false_iff_ne];omega
    go_wp2_with fail
    go_roundg g
    case measure=>omega
    case rel=>exact ⟨i+1,by omega,rfl⟩
theorem idx_hi:∀ (L:Bs) (c:Int),(∀ b∈L,b.toNat<128)->128<=c->c<256->Lib.indexByte L c.toNat.toUInt8 = -1
 | [],_,_,_,_=>rfl
 | b::l,c,h,h1,h2=>by
   have hb:=h b (by simp)
   have e:c.toNat.toUInt8.toNat=c.toNat:=by
    show (UInt8.ofNat c.toNat).toNat=_
    rw [UInt8.toNat_ofNat'];exact Nat.mod_eq_of_lt (by omega)
   have hne:(b == c.toNat.toUInt8)=false:=by
    rw [beq_eq_false_iff_ne];intro e';rw [e'] at hb;omega
   rw [Lib.indexByte,hne,idx_hi l c (fun x hx=>h x (by simp [hx])) h1 h2]
   rfl
theorem x9 (t:ByteArray) (c:Int) (h:∀ b∈t.data.toList,b.toNat<128) (hc:Hid (128<=c/\c<256)) (w:World) :
 Calls Tryz.prog 116 #[.string t,.int .u8 c] w fun e w'=>e=.returned (.int .i64 (-1))/\w'=w :=
 (Tryz.strings_IndexByte t c w).mono fun e w' ⟨h1,h2⟩=>⟨by rw [h1,idx_hi _ _ h hc.out.1 hc.out.2],h2⟩
theorem gD {cs:ByteArray} (h:Hid (∀ b∈cs.data.toList,b.toNat<128)) (i j:Nat):∀ b∈(cs.extract i j).data.toList,b.toNat<128:=by
 intro b hb
 refine h.out b ?_
 have e:(cs.extract i j).data.toList=(cs.data.toList.drop i).take (j-i):=by simp
 rw [e] at hb
 exact List.mem_of_mem_drop (List.mem_of_mem_take hb)
theorem jt {B:Nat} {a w:World} (h:Below B a w) (n:Nat):Below B a (w.drewN n):=h.trans ⟨rfl,rfl,rfl,ei _,fun _ _=>rfl⟩
set_option maxRecDepth 100000 in
theorem indexRune_hi (cs:ByteArray) (hcs:∀ b∈cs.data.toList,b.toNat<128) (r:Int) (h128:128<=r) (hne:r≠65533) (hv:Utf8.valid r=true) (w:World):Calls Tryz.prog 104 #[.string cs,.int .i32 r] w fun en w'=>en=.returned (.int .i64 (-1))/\Below w.heap.size w w':=by
 obtain ⟨n1,n2,n3⟩:=encode_facts r hv h128
 have fG:¬ r<128:=by omega
 have hq:(r == 65533)=false:=by rw [beq_eq_false_iff_ne];exact hne
 have oe:Lib.validRune r=true:=by rw [validRune_eq] at hv;exact hv
 clear hv hne
 obtain ⟨rs,he⟩:=zzN (Utf8.encode r)
 rw [he] at n1 n2 n3
 obtain ⟨⟨l⟩⟩:=rs
 change 2<=l.length at n1
 change l.length<=4 at n2
 match l,n1,n2 with
 | [a,b],_,_ =>
   have hb:128<=b.toNat:=n3 (show 2-1<2 by decide)
   have fY:=b.toNat_lt
   have HC:Hid ((128:Int)<=((((⟨⟨[a,b]⟩⟩:ByteArray)[1]'(show 1<2 by decide)).toNat:Int))/\((((⟨⟨[a,b]⟩⟩:ByteArray)[1]'(show 1<2 by decide)).toNat:Int))<256):=by
    show (128:Int)<=(b.toNat:Int)/\(b.toNat:Int)<256
    omega
   clear n3
   by_cases hi:1<cs.size
   rotate_left
   ·have Jo:¬ (1:Int)<(cs.size:Int):=by omega
    go_enter Tryz.func104,Tryz.ntmps104
    go_wp2_with (go_at_call 117;refine (Tryz.utf8_ValidRune r _).mono ?_;rintro en w1 ⟨rfl,hw⟩;rw [oe];obtain rfl:=hw)
    go_step3
    go_wp2_with fail
    go_loop [9,10] (fun i f=>i=.int .i64 1/\f=.int .i64 0) (fun _ _=>0)
    case atStart=>exact ⟨rfl,rfl⟩
    case round =>
     obtain ⟨rfl,rfl⟩:=hrel
     go_wp2_with fail
     change bodyPost Tryz.prog Tryz.f104 (fun en w'=>en=.returned (.int .i64 (-1))/\Below w1.heap.size w1 w') Exit.ret _ _
     refine bodyPost_ret (v:=.int .i64 (-1)) (by simp [results,Tryz.results104,go_sem]) rfl ?_
     exact ⟨rfl,by first | exact jt (e_ _ _).drew _ | exact jt (e_ _ _) _ | exact e_ _ _⟩
   have Jo:(1:Int)<(cs.size:Int):=by omega
   have G4:(2:Int)<=(cs.size:Int):=by omega
   have rJ:IntKind.i64.wrap (2:Int)=2:=by decide
   have G7:(cs[1]'hi).toNat<128:=hcs _ (Array.getElem_mem_toList (xs:=cs.data) hi)
   have hn:((((cs[1]'hi).toNat:Int)) != ((((⟨⟨[a,b]⟩⟩:ByteArray)[1]'(show 1<2 by decide)).toNat:Int)))=true:=by
    show (((cs[1]'hi).toNat:Int) != (b.toNat:Int))=true
    rw [bne_iff_ne];omega
   have GG:=ed hcs;clear hcs
   go_enter Tryz.func104,Tryz.ntmps104
   go_wp2_with (go_at_call 117;refine (Tryz.utf8_ValidRune r _).mono ?_;rintro en w1 ⟨rfl,hw⟩;rw [oe];obtain rfl:=hw)
   go_step3
   go_wp2_with fail
   go_loop [9,10] (fun i f=>i=.int .i64 1/\f=.int .i64 0) (fun _ _=>0)
   case atStart=>exact ⟨rfl,rfl⟩
   case round =>
    obtain ⟨rfl,rfl⟩:=hrel
    go_wp2_with fail
    go_step3
    go_wp2_with fail
    go_region
    go_wp2_with fail
    go_quiet (first | (go_at_call 116;exact (x9 _ _ (gD GG _ _) HC _).mono fun _ _ ⟨he,hm⟩=>⟨he,_,hm⟩))
    go_wp2_with fail
    change bodyPost Tryz.prog Tryz.f104 (fun en w'=>en=.returned (.int .i64 (-1))/\Below w1.heap.size w1 w') Exit.ret _ _
    refine bodyPost_ret (v:=.int .i64 (-1)) (by simp [results,Tryz.results104,go_sem]) rfl ?_
    exact ⟨rfl,by first | exact jt (e_ _ _).drew _ | exact jt (e_ _ _) _ | exact e_ _ _⟩
 | [a,b,c],_,_ =>
   have hb:128<=c.toNat:=n3 (show 3-1<3 by decide)
   have fY:=c.toNat_lt
   have HC:Hid ((128:Int)<=((((⟨⟨[a,b,c]⟩⟩:ByteArray)[2]'(show 2<3 by decide)).toNat:Int))/\((((⟨⟨[a,b,c]⟩⟩:ByteArray)[2]'(show 2<3 by decide)).toNat:Int))<256):=by
    show (128:Int)<=(c.toNat:Int)/\(c.toNat:Int)<256
    omega
   clear n3
   by_cases hi:2<cs.size
   rotate_left
   ·have Jo:¬ (2:Int)<(cs.size:Int):=by omega
    go_enter Tryz.func104,Tryz.ntmps104
    go_wp2_with (go_at_call 117;refine (Tryz.utf8_ValidRune r _).mono ?_;rintro en w1 ⟨rfl,hw⟩;rw [oe];obtain rfl:=hw)
    go_step3
    go_wp2_with fail
    go_loop [9,10] (fun i f=>i=.int .i64 2/\f=.int .i64 0) (fun _ _=>0)
    case atStart=>exact ⟨rfl,rfl⟩
    case round =>
     obtain ⟨rfl,rfl⟩:=hrel
     go_wp2_with fail
     change bodyPost Tryz.prog Tryz.f104 (fun en w'=>en=.returned (.int .i64 (-1))/\Below w1.heap.size w1 w') Exit.ret _ _
     refine bodyPost_ret (v:=.int .i64 (-1)) (by simp [results,Tryz.results104,go_sem]) rfl ?_
     exact ⟨rfl,by first | exact jt (e_ _ _).drew _ | exact jt (e_ _ _) _ | exact e_ _ _⟩
   have Jo:(2:Int)<(cs.size:Int):=by omega
   have G4:(3:Int)<=(cs.size:Int):=by omega
   have rJ:IntKind.i64.wrap (3:Int)=3:=by decide
   have G7:(cs[2]'hi).toNat<128:=hcs _ (Array.getElem_mem_toList (xs:=cs.data) hi)
   have hn:((((cs[2]'hi).toNat:Int)) != ((((⟨⟨[a,b,c]⟩⟩:ByteArray)[2]'(show 2<3 by decide)).toNat:Int)))=true:=by
    show (((cs[2]'hi).toNat:Int) != (c.toNat:Int))=true
    rw [bne_iff_ne];omega
   have GG:=ed hcs;clear hcs
   go_enter Tryz.func104,Tryz.ntmps104
   go_wp2_with (go_at_call 117;refine (Tryz.utf8_ValidRune r _).mono ?_;rintro en w1 ⟨rfl,hw⟩;rw [oe];obtain rfl:=hw)
   go_step3
   go_wp2_with fail
   go_loop [9,10] (fun i f=>i=.int .i64 2/\f=.int .i64 0) (fun _ _=>0)
   case atStart=>exact ⟨rfl,rfl⟩
   case round =>
    obtain ⟨rfl,rfl⟩:=hrel
    go_wp2_with fail
    go_step3
    go_wp2_with fail
    go_region
    go_wp2_with fail
    go_quiet (first | (go_at_call 116;exact (x9 _ _ (gD GG _ _) HC _).mono fun _ _ ⟨he,hm⟩=>⟨he,_,hm⟩))
    go_wp2_with fail
    change bodyPost Tryz.prog Tryz.f104 (fun en w'=>en=.returned (.int .i64 (-1))/\Below w1.heap.size w1 w') Exit.ret _ _
    refine bodyPost_ret (v:=.int .i64 (-1)) (by simp [results,Tryz.results104,go_sem]) rfl ?_
    exact ⟨rfl,by first | exact jt (e_ _ _).drew _ | exact jt (e_ _ _) _ | exact e_ _ _⟩
 | [a,b,c,d],_,_ =>
   have hb:128<=d.toNat:=n3 (show 4-1<4 by decide)
   have fY:=d.toNat_lt
   have HC:Hid ((128:Int)<=((((⟨⟨[a,b,c,d]⟩⟩:ByteArray)[3]'(show 3<4 by decide)).toNat:Int))/\((((⟨⟨[a,b,c,d]⟩⟩:ByteArray)[3]'(show 3<4 by decide)).toNat:Int))<256):=by
    show (128:Int)<=(d.toNat:Int)/\(d.toNat:Int)<256
    omega
   clear n3
   by_cases hi:3<cs.size
   rotate_left
   ·have Jo:¬ (3:Int)<(cs.size:Int):=by omega
    go_enter Tryz.func104,Tryz.ntmps104
    go_wp2_with (go_at_call 117;refine (Tryz.utf8_ValidRune r _).mono ?_;rintro en w1 ⟨rfl,hw⟩;rw [oe];obtain rfl:=hw)
    go_step3
    go_wp2_with fail
    go_loop [9,10] (fun i f=>i=.int .i64 3/\f=.int .i64 0) (fun _ _=>0)
    case atStart=>exact ⟨rfl,rfl⟩
    case round =>
     obtain ⟨rfl,rfl⟩:=hrel
     go_wp2_with fail
     change bodyPost Tryz.prog Tryz.f104 (fun en w'=>en=.returned (.int .i64 (-1))/\Below w1.heap.size w1 w') Exit.ret _ _
     refine bodyPost_ret (v:=.int .i64 (-1)) (by simp [results,Tryz.results104,go_sem]) rfl ?_
     exact ⟨rfl,by first | exact jt (e_ _ _).drew _ | exact jt (e_ _ _) _ | exact e_ _ _⟩
   have Jo:(3:Int)<(cs.size:Int):=by omega
   have G4:(4:Int)<=(cs.size:Int):=by omega
   have rJ:IntKind.i64.wrap (4:Int)=4:=by decide
   have G7:(cs[3]'hi).toNat<128:=hcs _ (Array.getElem_mem_toList (xs:=cs.data) hi)
   have hn:((((cs[3]'hi).toNat:Int)) != ((((⟨⟨[a,b,c,d]⟩⟩:ByteArray)[3]'(show 3<4 by decide)).toNat:Int)))=true:=by
    show (((cs[3]'hi).toNat:Int) != (d.toNat:Int))=true
    rw [bne_iff_ne];omega
   have GG:=ed hcs;clear hcs
   go_enter Tryz.func104,Tryz.ntmps104
   go_wp2_with (go_at_call 117;refine (Tryz.utf8_ValidRune r _).mono ?_;rintro en w1 ⟨rfl,hw⟩;rw [oe];obtain rfl:=hw)
   go_step3
   go_wp2_with fail
   go_loop [9,10] (fun i f=>i=.int .i64 3/\f=.int .i64 0) (fun _ _=>0)
   case atStart=>exact ⟨rfl,rfl⟩
   case round =>
    obtain ⟨rfl,rfl⟩:=hrel
    go_wp2_with fail
    go_step3
    go_wp2_with fail
    go_region
    go_wp2_with fail
    go_quiet (first | (go_at_call 116;exact (x9 _ _ (gD GG _ _) HC _).mono fun _ _ ⟨he,hm⟩=>⟨he,_,hm⟩))
    go_wp2_with fail
    change bodyPost Tryz.prog Tryz.f104 (fun en w'=>en=.returned (.int .i64 (-1))/\Below w1.heap.size w1 w') Exit.ret _ _
    refine bodyPost_ret (v:=.int .i64 (-1)) (by simp [results,Tryz.results104,go_sem]) rfl ?_
    exact ⟨rfl,by first | exact jt (e_ _ _).drew _ | exact jt (e_ _ _) _ | exact e_ _ _⟩
def adv (w:World) (g:Nat) (s:ByteArray) (p:Nat):World:={ w with heap:=w.heap.setIfInBounds g (.stringIter s p) }
theorem run_next_in {P:Program} {wx:World} {g:Nat} {s:ByteArray} {pos:Nat} (h:wx.heap[g]? = some (.stringIter s pos)) (hp:pos<s.size) (ty:TypeId) :
 (Instr.next (.pointer (some ⟨g,0,none⟩)) true ty).run P wx=.ok (.tuple #[.bool true,.int .i64 pos,.int .i32 (Utf8.decode s pos).1]) (adv wx g s (pos+(Utf8.decode s pos).2)):=by
 simp only [Instr.next,getObj,setObj,Sem.run_bind,Sem.run,h,Result.andThen,hp,if_true,adv]
 simp [goInt]
theorem run_next_out {P:Program} {wx:World} {g:Nat} {s:ByteArray} {pos:Nat} (h:wx.heap[g]? = some (.stringIter s pos)) (hp:¬ pos<s.size) (ty:TypeId) :
 (Instr.next (.pointer (some ⟨g,0,none⟩)) true ty).run P wx=.ok (.tuple #[.bool false]) wx:=by
 simp [Instr.next,getObj,Sem.run,h,hp]
theorem adv_at {wx:World} {g:Nat} {s:ByteArray} {p p':Nat} (h:wx.heap[g]? = some (.stringIter s p)):(adv wx g s p').heap[g]? = some (.stringIter s p'):=by
 have hl:=zZ h
 simp [adv,hl]
theorem adv_size (wx:World) (g:Nat) (s:ByteArray) (p:Nat):(adv wx g s p).heap.size=wx.heap.size:=by simp [adv]
theorem adv_below {w wx:World} {s:ByteArray} {p:Nat} {B:Nat} (g:Nat) (h:Below B w wx) (hg:B<=g):Below B w (adv wx g s p) :=
 ⟨h.os,h.tape,h.output,by rw [adv_size];exact h.size,fun k hk=>by
  rw [<- h.block k hk]
  simp only [adv,Array.getElem?_setIfInBounds]
  rw [if_neg (by omega)]⟩
theorem decode_valid (s:ByteArray) (pos:Nat):Utf8.valid ((Utf8.decode s pos).1:Int)=true:=by
 have h:=Lib.rune_valid (s.extract pos s.size)
 rw [Lib.tail_decode s pos 0,Nat.add_zero] at h
 rw [validRune_eq];exact h
theorem get_data (s:ByteArray) {j:Nat} (h:j<s.size):s.data.toList[j]? = some (s.get! j):=by
 have h':j<s.data.size:=h
 simp only [ByteArray.get!,Array.getElem?_toList]
 rw [Array.getElem?_eq_getElem h',getElem!_pos s.data j h']
set_option maxRecDepth 100000 in
theorem eY (s:ByteArray) (h8:s.size<=8) (w:World):Calls Tryz.prog 92 #[.string s,.string ⟨#[32,40,41]⟩] w fun en w'=>en=.returned (.int .i64 (Lib.indexAny s.data.toList [32,40,41]))/\Below w.heap.size w w':=by
 have h8z:decide ((8:Int)<(s.size:Int))=false:=decide_eq_false (by omega)
 go_enter Tryz.func92,Tryz.ntmps92
 go_wp2_with (go_at_call 105;refine (Tryz.strings_shouldUseASCIISet _ _).mono ?_;rintro e w' ⟨rfl,hw⟩;rw [hw,h8z])
 go_loopw [9,10] (fun _ _ wx=>∃ i:Nat,i<=s.size/\wx.heap[w.heap.size]? = some (.stringIter s i)/\Below w.heap.size w wx/\Lib.NoAny s.data.toList [32,40,41] i) (fun _ _ wx=>s.size-wx.iterPos w.heap.size)
 case atStart=>exact ⟨0,Nat.zero_le _,World.iter_heap _ _ _,(e_ _ _).alloc (ei _) _,Lib.NoAny.zero _ _⟩
 case round =>
  obtain ⟨i,hi,F2,hb,sL⟩:=hrel
  have HN:=ed sL;have HI:=ed F2;have HB:=ed hb;clear sL
  by_cases fG:i<s.size
  rotate_left
  ·have A2:=run_next_out (P:=Tryz.prog) F2 fG
   obtain rfl:i=s.size:=by omega
   clear F2 hb
   go_wp2_with fail
   go_ret
   exact ⟨yq (by rw [Lib.indexAny_none (by have:=HN.out;simpa using this)]),HB.out⟩
  ·have A2:=run_next_in (P:=Tryz.prog) F2 fG
   have EK:=adv_at (p':=i+(Utf8.decode s i).2) F2
   have fP:=adv_below (s:=s) (p:=i+(Utf8.decode s i).2) w.heap.size hb (ei _)
   have mx:wr.iterPos w.heap.size=i:=by unfold World.iterPos;rw [F2]
   have hxd:=get_data s fG
   generalize adv wr w.heap.size s (i+(Utf8.decode s i).2)=W1 at *
   have HG:=ed EK;have fI:=ed fP;have HP:=ed mx
   have hgl:=zZ EK
   clear F2 hb EK fP mx
   by_cases hx:(s.get! i).toNat<128
   ·have hd:Utf8.decode s i=((s.get! i).toNat,1):=by rw [Lib.decode_at];unfold Lib.decodeN;rw [if_pos hx]
    rw [hd] at A2 HG
    obtain ⟨x,hxe⟩:=zzM (s.get! i)
    rw [<- hxe] at A2 hxd hx
    have HX:=ed hxd;clear hxd hd hxe
    have AH:=Lib.contains_iff_indexByte [32,40,41] x
    have EO:((x.toNat:Int)).toNat.toUInt8=x:=by simp
    cases Dn:([32,40,41]:Bs).contains x
    ·rw [Dn] at AH
     have ap:¬ ((0:Int)<=Lib.indexByte [32,40,41] x):=of_decide_eq_false AH.symm
     have HIN:=ed Dn
     clear AH Dn
     go_wp2_with (go_at_call 104;refine (Tryz.strings_IndexRune_ascii _ _ _ (by omega) (by omega)).mono ?_;rintro e w2 ⟨rfl,hw⟩;rw [hw,EO])
     go_roundw
     case rel=>exact ⟨i+1,by omega,HG.out,fI.out,HN.out.succ HX.out HIN.out⟩
     case measure =>
      have h1:=HP.out
      have h2:W1.iterPos w.heap.size=i+1:=by unfold World.iterPos;rw [HG.out]
      simp only [h1,h2];omega
    ·rw [Dn] at AH
     have tL:(0:Int)<=Lib.indexByte [32,40,41] x:=of_decide_eq_true AH.symm
     have HIN:=ed Dn
     clear AH Dn
     go_wp2_with (go_at_call 104;refine (Tryz.strings_IndexRune_ascii _ _ _ (by omega) (by omega)).mono ?_;rintro e w2 ⟨rfl,hw⟩;rw [hw,EO])
     go_ret
     exact ⟨yq (by rw [Lib.indexAny_hit HN.out HX.out HIN.out]),fI.out⟩
   ·obtain ⟨d1,d2,d3,d4⟩:=decode_hi s i fG (by omega)
    have dv:=decode_valid s i
    generalize (Utf8.decode s i).1=r at *
    generalize (Utf8.decode s i).2=k at *
    have I8:Lib.NoAny s.data.toList [32,40,41] (i+k):=by
     intro j b hj hbj
     by_cases Dm:j<i
     ·exact HN.out j b Dm hbj
     ·have h1:=d4 j (by omega) hj
      rw [get_data s (by omega)] at hbj
      obtain rfl:=Option.some.inj hbj
      have ly:(32:UInt8).toNat=32:=rfl
      have n8:(40:UInt8).toNat=40:=rfl
      have ie:(41:UInt8).toNat=41:=rfl
      rw [Bool.eq_false_iff];intro hc
      simp only [List.contains_iff_mem,List.mem_cons,List.not_mem_nil,or_false] at hc
      rcases hc with hc | hc | hc <;> rw [hc] at h1 <;> omega
    have KN:=ed I8
    have EB:Calls Tryz.prog 104 #[.string ⟨#[32,40,41]⟩,.int .i32 (r:Int)] W1 fun en w'=>en=.returned (.int .i64 (-1))/\Below W1.heap.size W1 w':=by
     by_cases h:(r:Int)=65533
     ·rw [h];exact indexRune_bad W1
     ·exact indexRune_hi ⟨#[32,40,41]⟩ (by decide) _ (by omega) h dv W1
    have HR:=ed EB
    clear I8 EB d4 dv hxd
    go_wp2_with (go_at_call 104;refine HR.out.mono ?_;rintro e w2 ⟨rfl,hw⟩)
    have hk:w2.heap[w.heap.size]? = some (.stringIter s (i+k)):=by rw [hw.block _ hgl];exact HG.out
    have fY:=zzT fI.out hw
    have HK:=ed hk;clear hk
    go_roundw
    case rel=>exact ⟨i+k,by omega,HK.out,fY,KN.out⟩
    case measure =>
     have h1:=HP.out
     have h2:w2.iterPos w.heap.size=i+k:=by unfold World.iterPos;rw [HK.out]
     simp only [h1,h2];omega
def wo (l:Bs):Int:=if (zS l)=[] then -1 else (zu l).length
theorem yV (l:Bs):zu l++zS l=l:=List.takeWhile_append_dropWhile
theorem word_take (l:Bs):l.take (zu l).length=zu l:=by
 have h:=yV l
 have:=List.take_left (l₁:=zu l) (l₂:=zS l);rw [h] at this;exact this
theorem word_drop (l:Bs):l.drop (zu l).length=zS l:=by
 have h:=yV l
 have:=List.drop_left (l₁:=zu l) (l₂:=zS l);rw [h] at this;exact this
theorem xX (l:Bs):(zu l).length+(zS l).length=l.length:=by
 have:=congrArg List.length (yV l);simpa using this
theorem indexAny_sep (l:Bs):Lib.indexAny l [32,40,41]=wo l:=by
 induction l with
 | nil=>rfl
 | cons b l ih =>
   rw [Lib.indexAny]
   have hs:([32,40,41]:Bs).contains b=sep b:=by
    rw [Bool.eq_iff_iff];simp [sep,or_assoc]
   rw [hs]
   cases hb:sep b
   ·have e1:zu (b::l)=b::zu l:=by simp [zu,hb]
    have e2:zS (b::l)=zS l:=by simp [zS,hb]
    rw [ih]
    unfold wo
    rw [e1,e2]
    by_cases h:zS l=[]
    ·simp [h]
    ·simp only [h,if_false,Bool.false_eq_true]
     rw [if_neg (by rw [beq_iff_eq];omega)]
     simp
   ·have e1:zu (b::l)=[]:=by simp [zu,hb]
    have e2:zS (b::l)=b::l:=by simp [zS,hb]
    unfold wo
    rw [e1,e2];simp
theorem indexAny_any (l:Bs) (w:World) (hl:Lim l.length) :
 Calls Tryz.prog 92 #[str l,.string ⟨#[32,40,41]⟩] w fun en w'=>en=.returned (.int .i64 (wo l))/\Below w.heap.size w w':=by
 have tH:=hl.le
 have hsz:(⟨l.toArray⟩:ByteArray).size=l.length:=wO l
 rw [<- indexAny_sep]
 by_cases h8:l.length<=8
 ·have:=eY ⟨l.toArray⟩ (by omega) w
  simpa [str] using this
 ·refine (Tryz.strings_IndexAny_long (zero_of_info (n:=256) (by kernel_rfl)).1 ⟨l.toArray⟩ ⟨#[32,40,41]⟩ w (by show 2<=3;omega) (by omega) (by omega) (by show 3<4294967281;omega) (by
   intro j b hj
   have:b∈([32,40,41]:Bs):=List.mem_of_getElem? hj
   simp at this
   rcases this with rfl | rfl | rfl <;> decide)).mono ?_
  rintro e w' ⟨rfl,rfl⟩
  refine ⟨by simp,((e_ _ _).alloc (ei _) _).alloc (by simp) _⟩
theorem dM (sc:Nat) (c:List Value) (e:TypeId) (r:Bs) (w:World) (h:jL sc c e r w) (hr:Lim r.length) :
 Calls Tryz.prog 71 #[.pointer (some ⟨sc,0,none⟩)] w fun en w' =>
  en=.returned (str (zu r))/\But (· = sc) w w'/\jL sc c e (zS r) w':=by
 have h1:=h.cell
 have h2:=h.free 0
 have A0:=pE h
 have hl:=hr.le
 have hw:=xX r
 go_enter Tryz.func71,Tryz.ntmps71
 go_wp2_with fail
 refine (indexAny_any r w hr).mono ?_
 rintro en w1 ⟨rfl,hb⟩
 have c1:w1.cell? ⟨sc,0,none⟩=some (str r):=by rw [hb.cell A0];exact h1
 have c2:w1.frozen? ⟨sc,0,none⟩=false:=by rw [hb.frozen A0];exact h2
 have hS:jL sc c e r w1:=by unfold jL;rw [hb.block sc A0];exact h
 clear h1 h2
 by_cases h0:zS r=[]
 ·have hi:wo r = -1:=by simp [wo,h0]
  rw [hi]
  have e1:zu r=r:=by have:=yV r;rw [h0] at this;simpa using this
  have HE:=ed e1;have H0:=ed h0;clear e1 h0 hi
  go_wp2_with fail
  go_ret
  have e2:(⟨r.toArray⟩:ByteArray).extract 0 r.length=⟨(zu r).toArray⟩:=by rw [pz,HE.out];simp
  refine ⟨?_,(But.ofBelow hb).setS 0 _,?_⟩
  ·show Ending.returned (.string _)=_;rw [e2]
  ·have:=hS.put (r':=zS r);rw [H0.out] at this ⊢;exact this
 ·have hi:wo r=(zu r).length:=by simp [wo,h0]
  rw [hi]
  have fG:(zu r).length<=r.length:=by omega
  have H0:=ed h0;clear h0 hi
  go_wp2_with fail
  go_ret
  have e2:(⟨r.toArray⟩:ByteArray).extract 0 (zu r).length=⟨(zu r).toArray⟩:=by rw [pz,List.drop_zero,word_take]
  have e3:(⟨r.toArray⟩:ByteArray).extract (zu r).length r.length=⟨(zS r).toArray⟩:=by rw [pz,List.take_length,word_drop]
  refine ⟨?_,(But.ofBelow hb).setS 0 _,?_⟩
  ·show Ending.returned (.string _)=_;rw [e2]
  ·rw [e3];exact hS.put
structure b8 (w:World):Prop where
 tab:Lib.TabIs Tryz.prog w "internal/strconv.uint64pow10" .u64 Lib.pow10Tab
def NotG (b:Nat):Prop:=b≠1
theorem Tryz.gn2:Tryz.prog.globalNamed "internal/strconv.uint64pow10" = some 1:=by kernel_rfl
theorem var_lt {P:Program} {w:World} {nm:String} {g:Nat} {x:Array Value} (hg:P.globalNamed nm=some g) (h:w.var? P nm=some x):g<w.heap.size:=by
 unfold World.var? at h
 rw [hg] at h
 simp only [Option.bind_some] at h
 rcases Nat.lt_or_ge g w.heap.size with h' | h'
 ·exact h'
 ·rw [Array.getElem?_eq_none h'] at h;simp at h
theorem var_keep {P:Program} {w w':World} {nm:String} {g:Nat} {x:Array Value} (hg:P.globalNamed nm=some g) (hk:w'.heap[g]? = w.heap[g]?) (h:w.var? P nm=some x):w'.var? P nm=some x:=by
 unfold World.var? at *
 rw [hg] at *
 simp only [Option.bind_some] at *
 rw [hk];exact h
theorem b8.but {m:Nat->Prop} {w w':World} (h:b8 w) (hb:But m w w') (hm:∀ i,m i->NotG i):b8 w':=by
 have l2:=var_lt Tryz.gn2 h.tab
 exact ⟨var_keep Tryz.gn2 (hb.block _ l2 fun e=>(hm _ e) rfl) h.tab⟩
theorem b8.below {w w':World} (h:b8 w) (hb:Below w.heap.size w w'):b8 w':=h.but (m:=fun _=>False) (But.ofBelow hb) (fun _ e=>e.elim)
theorem b8.new {w:World} (h:b8 w) {b:Nat} (hb:w.heap.size<=b):NotG b:=by
 have l2:=var_lt Tryz.gn2 h.tab
 exact (show b≠_ by omega)
theorem below_drewN {B:Nat} {a w:World} (h:Below B a w) (n:Nat):Below B a (w.drewN n):=h.trans ⟨rfl,rfl,rfl,ei _,fun _ _=>rfl⟩
theorem below_grow (w:World) (os:Array Obj):Below w.heap.size w (Go.Sort.grow w os) :=
 ⟨rfl,rfl,rfl,by simp [Go.Sort.grow],fun k hk=>by simp [Go.Sort.grow,Array.getElem?_append_left hk]⟩
theorem itoa_any (n:Int) (w:World) (hg:b8 w) (h0 : -9223372036854775808<=n) (h1:n<=9223372036854775807) :
 Calls Tryz.prog 30 #[.int .i64 n] w fun en w'=>en=.returned (str (Lib.itoa n))/\Below w.heap.size w w':=by
 refine (Tryz.strconv_Itoa n h0 h1 w hg.tab).mono ?_
 rintro en w' ⟨rfl,k,os,rfl⟩
 exact ⟨rfl,(below_drewN (e_ _ _) k).trans (below_grow (w.drewN k) os)⟩
theorem zi {F:Nat->Prop} {w:World} {b:Bd} {v:Value} (h:Rep F w (qZ b) v):∃ a,v=.pointer (some ⟨a,0,none⟩):=by
 cases b with
 | leaf c=>rw [qZ,ju] at h;obtain ⟨a,c,h,_⟩:=h;exact ⟨a,h⟩
 | ask v ss y n=>rw [qZ,ju] at h;obtain ⟨a,c,h,_⟩:=h;exact ⟨a,h⟩
def vV (d:Nat) (levels:List Ty):Prop:=(∀ t∈levels,zV t<=15)/\levels.length+15*d<=10000
theorem encKs_append (a b:List Ty):jN (a++b)=jN a++jN b:=by
 induction a with
 | nil=>rfl
 | cons t ts ih=>simp [jN,ih]
theorem srcSl_but {F:Nat->Prop} {m:Nat->Prop} {w w':World} {e:TypeId} {sz n:Nat} {cs:List DV} {v:Value} {news:List Value} (hb:But m w w') (hF:∀ b,F b->¬ m b) (h:Rep F w (.sl e sz n cs) v) (hs:zO sz v n news w):zO sz v n news w':=by
 rw [zp] at h
 obtain ⟨hl,a,cap,rfl,hn,hz,h⟩:=h
 obtain ⟨h1,h2,h3⟩:=hs
 refine ⟨h1,h2,?_⟩
 rcases h with rfl | ⟨b,o,c,fr,rfl,fN,hc,hr⟩
 ·have:news=[]:=List.eq_nil_of_length_eq_zero (by simpa using h1)
  subst this
  rcases h3 with ⟨a',c',e',_⟩ | h3
  ·exact .inl ⟨a',c',e',by simp⟩
  ·exact .inr h3
 ·rcases h3 with ⟨a',c',e',h3⟩ | ⟨h3,_⟩
  ·simp at e'
   obtain ⟨e1,e2⟩:=e'
   subst e1
   refine .inl ⟨_,cap,rfl,fun j u hj=>?_⟩
   have:=h3 j u hj
   rw [hb.cell (e9 w _ this) ?_]
   ·exact this
   ·unfold Addr.add;split <;> exact hF b fN
  ·simp at h3
theorem jL.put1 {sc:Nat} {c:List Value} {e:TypeId} {r:Bs} {u u':Value} {w:World} (h:jL sc (u::c) e r w):jL sc (u'::c) e r (w.setCell ⟨sc,1,none⟩ u'):=by
 unfold jL at *
 have fG:=zZ h
 have h':w.heap[sc]=.cells (str r::u::c).toArray e (0,0):=by simpa [Array.getElem?_eq_getElem fG] using h
 show (w.heap.modify sc _)[sc]? = _
 rw [Array.getElem?_eq_getElem (by simpa using fG),Array.getElem_modify_self,h']
 simp
def Boxes (B sr:Nat) (lv:Value) (d:Nat) (w:World):Prop :=
 w.cell? ⟨B,0,none⟩=some (.pointer (some ⟨sr,0,none⟩))/\w.cell? ⟨B+1,0,none⟩=some lv/\w.cell? ⟨B+1+1,0,none⟩=some (.int .i64 (d:Int))
theorem Boxes.but {B sr:Nat} {lv:Value} {d:Nat} {m:Nat->Prop} {w w':World} (h:Boxes B sr lv d w) (hb:But m w w') (hm:∀ i,m i->i≠B/\i≠B+1/\i≠B+1+1):Boxes B sr lv d w':=by
 obtain ⟨h1,h2,h3⟩:=h
 refine ⟨?_,?_,?_⟩
 ·rw [hb.cell (e9 w _ h1) (fun e=>(hm _ e).1 rfl)];exact h1
 ·rw [hb.cell (e9 w _ h2) (fun e=>(hm _ e).2.1 rfl)];exact h2
 ·rw [hb.cell (e9 w _ h3) (fun e=>(hm _ e).2.2 rfl)];exact h3
def ez (ob v:Nat) (slv y n:Value) (w:World):Prop:=w.heap[ob]? = some (.cells #[str [],.int .i64 v,slv,y,n] 68 (0,0))
theorem ez.cells {ob v:Nat} {slv y n:Value} {w:World} (h:ez ob v slv y n w):w.cell? ⟨ob,2,none⟩=some slv/\w.cell? ⟨ob,3,none⟩=some y/\w.cell? ⟨ob,4,none⟩=some n/\ob<w.heap.size/\(∀ o,w.frozen? ⟨ob,o,none⟩=false):=by
 have hl:=zZ h
 unfold ez at h
 exact ⟨by simp [World.cell?,h],by simp [World.cell?,h],by simp [World.cell?,h],hl,fun o=>by simp [World.frozen?,h]⟩
theorem zy {w:World} {b o:Nat} {c:Array Value} {e:TypeId} {u:Value} (h:w.heap[b]? = some (.cells c e (0,0))):(w.setCell ⟨b,o,none⟩ u).heap[b]? = some (.cells (c.setIfInBounds o u) e (0,0)):=by
 have fG:=zZ h
 have h':w.heap[b]=.cells c e (0,0):=by simpa [Array.getElem?_eq_getElem fG] using h
 show (w.heap.modify b _)[b]? = _
 rw [Array.getElem?_eq_getElem (by simpa using fG),Array.getElem_modify_self,h']
 simp
theorem ez.put2 {ob v:Nat} {slv y n u:Value} {w:World} (h:ez ob v slv y n w):ez ob v u y n (w.setCell ⟨ob,2,none⟩ u):=by
 unfold ez;rw [zy h];rfl
theorem ez.put3 {ob v:Nat} {slv y n u:Value} {w:World} (h:ez ob v slv y n w):ez ob v slv u n (w.setCell ⟨ob,3,none⟩ u):=by
 unfold ez;rw [zy h];rfl
theorem encBs_append (a b:List Bd):q_ (a++b)=q_ a++q_ b:=by
 induction a with
 | nil=>rfl
 | cons t ts ih=>simp [q_,ih]
theorem Tryz.infoB:(Tryz.prog.info? 34).map (fun i=>(i.zero,i.size,i.bytes))=some (some (.pointer none),1,8):=by kernel_rfl
theorem vV.next {d:Nat} {levels:List Ty} {v:Nat} {t a:Ty} (h:vV (d+1) levels) (hv:levels[v]? = some t) (ha:a∈t.args):vV d (levels++a.args):=by
 have ht:=h.1 t (List.mem_of_getElem? hv)
 have mH:∀ ts:List Ty,∀ a∈ts,1+zV a<=zt ts:=by
  intro ts
  induction ts with
  | nil=>simp
  | cons x xs ih =>
    intro a ha
    rcases List.mem_cons.1 ha with rfl | ha
    ·simp [zt]
    ·have:=ih a ha;simp [zt];omega
 have hlen:∀ ts:List Ty,ts.length<=zt ts:=by
  intro ts
  induction ts with
  | nil=>simp
  | cons x xs ih=>simp [zt];omega
 have h1:=mH _ a ha
 have h2:=qw t
 have h3:=qw a
 refine ⟨fun x hx=>?_,?_⟩
 ·rcases List.mem_append.1 hx with hx | hx
  ·exact h.1 x hx
  ·have:=mH _ x hx;omega
 ·have:=hlen a.args;have:=h.2;simp;omega
theorem vV.same {d:Nat} {levels:List Ty} (h:vV (d+1) levels):vV d (levels++[]):=by
 refine ⟨fun x hx=>h.1 x (by simpa using hx),?_⟩
 have:=h.2;simp;omega
theorem handOk_of {t:Ty} (h:zV t<=15):vV 100 t.args:=by
 have h1:=qw t
 have hlen:∀ ts:List Ty,ts.length<=zt ts:=by
  intro ts;induction ts with
  | nil=>simp
  | cons x xs ih=>simp [zt];omega
 have mH:∀ ts:List Ty,∀ a∈ts,1+zV a<=zt ts:=by
  intro ts
  induction ts with
  | nil=>simp
  | cons x xs ih =>
    intro a ha
    rcases List.mem_cons.1 ha with rfl | ha
    ·simp [zt]
    ·have:=ih a ha;simp [zt];omega
 refine ⟨fun a ha=>?_,?_⟩
 ·have:=mH _ a ha;omega
 ·have:=hlen t.args;omega
theorem xJ (ts:List Bd):∀ k:Nat,(q_ ts)[k]? = ts[k]?.map qZ:=by
 induction ts with
 | nil=>intro k;simp [q_]
 | cons t ts ih=>intro k;cases k <;> simp [q_,ih]
theorem oneCell_encBs {F:Nat->Prop} {w:World} (ts:List Bd):∀ us,zX F w (q_ ts) us->∀ u∈us,u.oneCell'=true:=by
 induction ts with
 | nil=>intro us h;rw [q_,zC] at h;subst h;simp
 | cons t ts ih =>
   intro us h u hu
   rw [q_,zQ] at h
   obtain ⟨v,vs',rfl,h1,h2⟩:=h
   rcases List.mem_cons.1 hu with rfl | hu
   ·obtain ⟨a,rfl⟩:=zi h1;rfl
   ·exact ih _ h2 u hu
theorem xd {F:Nat->Prop} {w:World} {c:UInt8} {v:Value} (h:Rep F w (qZ (.leaf c)) v) :
 ∃ b sl,v=.pointer (some ⟨b,0,none⟩)/\F b/\w.heap[b]? = some (.cells #[str [c],.int .i64 (0:Nat),sl,.pointer none,.pointer none] 68 (0,0))/\Rep F w (.sl 34 1 0 []) sl:=by
 rw [qZ,ju] at h
 obtain ⟨b,cs,hv,hb,hc,hr⟩:=h
 simp only [zQ,zC,zH] at hr
 obtain ⟨_,_,e1,rfl,_,_,rfl,rfl,sl,_,rfl,h3,_,_,rfl,rfl,_,_,rfl,rfl,rfl⟩:=hr
 have:cs=#[str [c],.int .i64 (0:Nat),sl,.pointer none,.pointer none]:=by apply Array.ext';simpa using e1
 subst this
 exact ⟨b,sl,hv,hb,hc,h3⟩
theorem uw {F:Nat->Prop} {w:World} {v:Nat} {ss:List Bd} {y n:Bd} {p:Value} (h:Rep F w (qZ (.ask v ss y n)) p) :
 ∃ b sl yv nv,p=.pointer (some ⟨b,0,none⟩)/\F b/\w.heap[b]? = some (.cells #[str [],.int .i64 v,sl,yv,nv] 68 (0,0)) /\
   Rep F w (.sl 34 1 ss.length (q_ ss)) sl/\Rep F w (qZ y) yv/\Rep F w (qZ n) nv:=by
 rw [qZ,ju] at h
 obtain ⟨b,cs,hv,hb,hc,hr⟩:=h
 simp only [zQ,zC,zH] at hr
 obtain ⟨_,_,e1,rfl,_,_,rfl,rfl,sl,_,rfl,h3,yv,_,rfl,h4,nv,_,rfl,h5,rfl⟩:=hr
 have:cs=#[str [],.int .i64 v,sl,yv,nv]:=by apply Array.ext';simpa using e1
 subst this
 exact ⟨b,sl,yv,nv,hv,hb,hc,h3,h4,h5⟩
theorem yE (F:Nat->Prop) (w:World) (c:UInt8) (v:Value) (h:Rep F w (qZ (.leaf c)) v) :
 Calls Tryz.prog 29 #[v] w fun en w'=>en=.returned (.bool false)/\w'=w:=by
 obtain ⟨b,sl,rfl,_,hc,_⟩:=xd h
 have c1:w.cell? ⟨b,0,none⟩=some (.string ⟨#[c]⟩):=by simp [World.cell?,hc]
 clear hc h
 go_enter Tryz.func29,Tryz.ntmps29
 go_wp2_with fail
 go_ret
 exact ⟨rfl,rfl⟩
theorem xQ (F:Nat->Prop) (w:World) (v:Nat) (ss:List Bd) (y n:Bd) (p:Value) (h:Rep F w (qZ (.ask v ss y n)) p) :
 Calls Tryz.prog 29 #[p] w fun en w'=>en=.returned (.bool true)/\w'=w:=by
 obtain ⟨b,sl,yv,nv,rfl,_,hc,_⟩:=uw h
 have c1:w.cell? ⟨b,0,none⟩=some (.string ⟨#[]⟩):=by simp [World.cell?,hc]
 clear hc h
 go_enter Tryz.func29,Tryz.ntmps29
 go_wp2_with fail
 go_ret
 exact ⟨rfl,rfl⟩
end Go.Proofs.YtjggkhmojjaomaaGreatDoor
