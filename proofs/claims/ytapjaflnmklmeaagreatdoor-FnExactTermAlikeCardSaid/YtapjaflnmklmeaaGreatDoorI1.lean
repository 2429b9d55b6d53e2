/- strings.IndexRune and IndexAny over the three signs at which words end, at whatever string. -/
import Derived.Test.YtapjaflnmklmeaaGreatDoorW3
import Derived.Laws.RangeAny
import Derived.Laws.Runes
import Derived.Lib.DecodeN
import Derived.Lib.QuoteLoop
import Derived.Deep.RegionHeld3
import Derived.WalkMore
import Derived.Deep.QuietTactic
import Derived.BigQuiet
import Derived.Lib.RuneCountTail
namespace Go.Proofs.YtapjaflnmklmeaaGreatDoor
open Go.RowKit
theorem decode_hi (s:ByteArray) (pos:Nat) (h:pos<s.size) (ha:128≤(s.get! pos).toNat) :
 128≤(Utf8.decode s pos).1∧1≤(Utf8.decode s pos).2∧pos+(Utf8.decode s pos).2≤s.size∧∀ j,pos≤j→j<pos+(Utf8.decode s pos).2→128≤(s.get! j).toNat:=by
 rw [Lib.decode_at]
 have hn:¬ (s.get! pos).toNat<128:=by omega
 unfold Lib.decodeN
 rw [if_neg hn]
 repeat' split
 all_goals refine ⟨by simp only;omega,by simp only;omega,by simp only;omega,fun j h1 h2=>?_⟩
 all_goals simp only at h2
 all_goals rcases (by omega:j=pos∨j=pos+1∨j=pos+2∨j=pos+3) with rfl | rfl | rfl | rfl <;> omega
set_option maxHeartbeats 1000000 in
set_option maxRecDepth 100000 in
theorem indexRune_bad (w:World):Calls Tryz.prog 94 #[.string ⟨#[32,40,41]⟩,.int .i32 65533] w fun en w'=>en=.returned (.int .i64 (-1))∧Below w.heap.size w w':=by
 go_enter Tryz.func94,Tryz.ntmps94
 go_wp2_with fail
 go_loopg [5,6] 3 (fun g _ _ wx=>∃ i:Nat,i+g=3∧wx=w.iter ⟨#[32,40,41]⟩ i)
 case atStart=>exact ⟨0,rfl,rfl⟩
 case round =>
  obtain ⟨i,hig,rfl⟩:=hrel
  cases gk with
  | zero =>
    obtain rfl:i=3:=by omega
    have hnx:=fun ty=>run_next_end (P:=Tryz.prog) w ⟨#[32,40,41]⟩ 3 ty (by decide)
    go_wp2_with fail
    go_ret
    exact ⟨rfl,(Below.refl _ _).alloc (Nat.le_refl _) _⟩
  | succ g =>
    have hi:i<(⟨#[32,40,41]⟩:ByteArray).size:=by show i<3;omega
    obtain ⟨x,hx⟩:∃ x:UInt8,(⟨#[32,40,41]⟩:ByteArray)[i]'hi=x:=⟨_,rfl⟩
    have hx128:x.toNat<128:=by
     rw [← hx]
     rcases (by omega:i=0∨i=1∨i=2) with rfl | rfl | rfl
     ·exact (by decide:(32:UInt8).toNat<128)
     ·exact (by decide:(40:UInt8).toNat<128)
     ·exact (by decide:(41:UInt8).toNat<128)
    have hnx:=fun ty=>run_next_ascii (P:=Tryz.prog) w ⟨#[32,40,41]⟩ i ty hi (by rw [hx];exact hx128)
    rw [hx] at hnx
    have HX:=Lib.hid hx;clear hx
    have hne:((x.toNat:Int) == 65533)=false:=by rw [beq_eq_false_iff_ne];omega
    go_wp2_with fail
    go_roundg g
    case measure=>omega
    case rel=>exact ⟨i+1,by omega,rfl⟩
theorem idx_hi:∀ (L:Bs) (c:Int),(∀ b∈L,b.toNat<128)→128≤c→c<256→Lib.indexByte L c.toNat.toUInt8 = -1
 | [],_,_,_,_=>rfl
 | b::l,c,h,h1,h2=>by
   have hb:=h b (by simp)
   have e:c.toNat.toUInt8.toNat=c.toNat:=by
    show (UInt8.ofNat c.toNat).toNat=_
    rw [UInt8.toNat_ofNat'];exact Nat.mod_eq_of_lt (by omega)
   have hne:(b == c.toNat.toUInt8)=false:=by
    rw [beq_eq_false_iff_ne];intro e';rw [e'] at hb;omega
   rw [Lib.indexByte,hne,idx_hi l c (fun x hx=>h x (by simp [hx])) h1 h2]
   rfl
theorem indexByte_hi (t:ByteArray) (c:Int) (h:∀ b∈t.data.toList,b.toNat<128) (hc:Hid (128≤c∧c<256)) (w:World) :
 Calls Tryz.prog 106 #[.string t,.int .u8 c] w fun e w'=>e=.returned (.int .i64 (-1))∧w'=w :=
 (Tryz.strings_IndexByte t c w).mono fun e w' ⟨h1,h2⟩=>⟨by rw [h1,idx_hi _ _ h hc.out.1 hc.out.2],h2⟩
theorem lt_extract {cs:ByteArray} (h:Hid (∀ b∈cs.data.toList,b.toNat<128)) (i j:Nat):∀ b∈(cs.extract i j).data.toList,b.toNat<128:=by
 intro b hb
 refine h.out b ?_
 have e:(cs.extract i j).data.toList=(cs.data.toList.drop i).take (j-i):=by simp
 rw [e] at hb
 exact List.mem_of_mem_drop (List.mem_of_mem_take hb)
theorem below_dN {B:Nat} {a w:World} (h:Below B a w) (n:Nat):Below B a (w.drewN n):=h.trans ⟨rfl,rfl,rfl,Nat.le_refl _,fun _ _=>rfl⟩
set_option maxHeartbeats 2000000 in
set_option maxRecDepth 100000 in
theorem indexRune_hi (cs:ByteArray) (hcs:∀ b∈cs.data.toList,b.toNat<128) (r:Int) (h128:128≤r) (hne:r≠65533) (hv:Utf8.valid r=true) (w:World):Calls Tryz.prog 94 #[.string cs,.int .i32 r] w fun en w'=>en=.returned (.int .i64 (-1))∧Below w.heap.size w w':=by
 obtain ⟨n1,n2,n3⟩:=encode_facts r hv h128
 have hlt:¬ r<128:=by omega
 have hq:(r == 65533)=false:=by rw [beq_eq_false_iff_ne];exact hne
 have hvr:Lib.validRune r=true:=by rw [validRune_eq] at hv;exact hv
 clear hv hne
 obtain ⟨rs,he⟩:∃ rs,Utf8.encode r=rs:=⟨_,rfl⟩
 rw [he] at n1 n2 n3
 obtain ⟨⟨l⟩⟩:=rs
 change 2≤l.length at n1
 change l.length≤4 at n2
 match l,n1,n2 with
 | [a,b],_,_ =>
   have hb:128≤b.toNat:=n3 (show 2-1<2 by decide)
   have hb2:=b.toNat_lt
   have HC:Hid ((128:Int)≤((((⟨⟨[a,b]⟩⟩:ByteArray)[1]'(show 1<2 by decide)).toNat:Int))∧((((⟨⟨[a,b]⟩⟩:ByteArray)[1]'(show 1<2 by decide)).toNat:Int))<256):=by
    show (128:Int)≤(b.toNat:Int)∧(b.toNat:Int)<256
    omega
   clear n3
   by_cases hi:1<cs.size
   rotate_left
   ·have hi':¬ (1:Int)<(cs.size:Int):=by omega
    go_enter Tryz.func94,Tryz.ntmps94
    go_wp2_with (go_at_call 107;refine (Tryz.utf8_ValidRune r _).mono ?_;rintro en w1 ⟨rfl,hw⟩;rw [hvr];obtain rfl:=hw)
    go_step3
    go_wp2_with fail
    go_loop [9,10] (fun i f=>i=.int .i64 1∧f=.int .i64 0) (fun _ _=>0)
    case atStart=>exact ⟨rfl,rfl⟩
    case round =>
     obtain ⟨rfl,rfl⟩:=hrel
     go_wp2_with fail
     change bodyPost Tryz.prog Tryz.f94 (fun en w'=>en=.returned (.int .i64 (-1))∧Below w1.heap.size w1 w') Exit.ret _ _
     refine bodyPost_ret (v:=.int .i64 (-1)) (by simp [results,Tryz.results94,go_sem]) rfl ?_
     exact ⟨rfl,by first | exact below_dN (Below.refl _ _).drew _ | exact below_dN (Below.refl _ _) _ | exact Below.refl _ _⟩
   have hi':(1:Int)<(cs.size:Int):=by omega
   have hi2:(2:Int)≤(cs.size:Int):=by omega
   have hwr:IntKind.i64.wrap (2:Int)=2:=by decide
   have hcb:(cs[1]'hi).toNat<128:=hcs _ (Array.getElem_mem_toList (xs:=cs.data) hi)
   have hn:((((cs[1]'hi).toNat:Int)) != ((((⟨⟨[a,b]⟩⟩:ByteArray)[1]'(show 1<2 by decide)).toNat:Int)))=true:=by
    show (((cs[1]'hi).toNat:Int) != (b.toNat:Int))=true
    rw [bne_iff_ne];omega
   have HCS:=Lib.hid hcs;clear hcs
   go_enter Tryz.func94,Tryz.ntmps94
   go_wp2_with (go_at_call 107;refine (Tryz.utf8_ValidRune r _).mono ?_;rintro en w1 ⟨rfl,hw⟩;rw [hvr];obtain rfl:=hw)
   go_step3
   go_wp2_with fail
   go_loop [9,10] (fun i f=>i=.int .i64 1∧f=.int .i64 0) (fun _ _=>0)
   case atStart=>exact ⟨rfl,rfl⟩
   case round =>
    obtain ⟨rfl,rfl⟩:=hrel
    go_wp2_with fail
    go_step3
    go_wp2_with fail
    go_region
    go_wp2_with fail
    go_quiet (first | (go_at_call 106;exact (indexByte_hi _ _ (lt_extract HCS _ _) HC _).mono fun _ _ ⟨he,hm⟩=>⟨he,_,hm⟩))
    go_wp2_with fail
    change bodyPost Tryz.prog Tryz.f94 (fun en w'=>en=.returned (.int .i64 (-1))∧Below w1.heap.size w1 w') Exit.ret _ _
    refine bodyPost_ret (v:=.int .i64 (-1)) (by simp [results,Tryz.results94,go_sem]) rfl ?_
    exact ⟨rfl,by first | exact below_dN (Below.refl _ _).drew _ | exact below_dN (Below.refl _ _) _ | exact Below.refl _ _⟩
 | [a,b,c],_,_ =>
   have hb:128≤c.toNat:=n3 (show 3-1<3 by decide)
   have hb2:=c.toNat_lt
   have HC:Hid ((128:Int)≤((((⟨⟨[a,b,c]⟩⟩:ByteArray)[2]'(show 2<3 by decide)).toNat:Int))∧((((⟨⟨[a,b,c]⟩⟩:ByteArray)[2]'(show 2<3 by decide)).toNat:Int))<256):=by
    show (128:Int)≤(c.toNat:Int)∧(c.toNat:Int)<256
    omega
   clear n3
   by_cases hi:2<cs.size
   rotate_left
   ·have hi':¬ (2:Int)<(cs.size:Int):=by omega
    go_enter Tryz.func94,Tryz.ntmps94
    go_wp2_with (go_at_call 107;refine (Tryz.utf8_ValidRune r _).mono ?_;rintro en w1 ⟨rfl,hw⟩;rw [hvr];obtain rfl:=hw)
    go_step3
    go_wp2_with fail
    go_loop [9,10] (fun i f=>i=.int .i64 2∧f=.int .i64 0) (fun _ _=>0)
    case atStart=>exact ⟨rfl,rfl⟩
    case round =>
     obtain ⟨rfl,rfl⟩:=hrel
     go_wp2_with fail
     change bodyPost Tryz.prog Tryz.f94 (fun en w'=>en=.returned (.int .i64 (-1))∧Below w1.heap.size w1 w') Exit.ret _ _
     refine bodyPost_ret (v:=.int .i64 (-1)) (by simp [results,Tryz.results94,go_sem]) rfl ?_
     exact ⟨rfl,by first | exact below_dN (Below.refl _ _).drew _ | exact below_dN (Below.refl _ _) _ | exact Below.refl _ _⟩
   have hi':(2:Int)<(cs.size:Int):=by omega
   have hi2:(3:Int)≤(cs.size:Int):=by omega
   have hwr:IntKind.i64.wrap (3:Int)=3:=by decide
   have hcb:(cs[2]'hi).toNat<128:=hcs _ (Array.getElem_mem_toList (xs:=cs.data) hi)
   have hn:((((cs[2]'hi).toNat:Int)) != ((((⟨⟨[a,b,c]⟩⟩:ByteArray)[2]'(show 2<3 by decide)).toNat:Int)))=true:=by
    show (((cs[2]'hi).toNat:Int) != (c.toNat:Int))=true
    rw [bne_iff_ne];omega
   have HCS:=Lib.hid hcs;clear hcs
   go_enter Tryz.func94,Tryz.ntmps94
   go_wp2_with (go_at_call 107;refine (Tryz.utf8_ValidRune r _).mono ?_;rintro en w1 ⟨rfl,hw⟩;rw [hvr];obtain rfl:=hw)
   go_step3
   go_wp2_with fail
   go_loop [9,10] (fun i f=>i=.int .i64 2∧f=.int .i64 0) (fun _ _=>0)
   case atStart=>exact ⟨rfl,rfl⟩
   case round =>
    obtain ⟨rfl,rfl⟩:=hrel
    go_wp2_with fail
    go_step3
    go_wp2_with fail
    go_region
    go_wp2_with fail
    go_quiet (first | (go_at_call 106;exact (indexByte_hi _ _ (lt_extract HCS _ _) HC _).mono fun _ _ ⟨he,hm⟩=>⟨he,_,hm⟩))
    go_wp2_with fail
    change bodyPost Tryz.prog Tryz.f94 (fun en w'=>en=.returned (.int .i64 (-1))∧Below w1.heap.size w1 w') Exit.ret _ _
    refine bodyPost_ret (v:=.int .i64 (-1)) (by simp [results,Tryz.results94,go_sem]) rfl ?_
    exact ⟨rfl,by first | exact below_dN (Below.refl _ _).drew _ | exact below_dN (Below.refl _ _) _ | exact Below.refl _ _⟩
 | [a,b,c,d],_,_ =>
   have hb:128≤d.toNat:=n3 (show 4-1<4 by decide)
   have hb2:=d.toNat_lt
   have HC:Hid ((128:Int)≤((((⟨⟨[a,b,c,d]⟩⟩:ByteArray)[3]'(show 3<4 by decide)).toNat:Int))∧((((⟨⟨[a,b,c,d]⟩⟩:ByteArray)[3]'(show 3<4 by decide)).toNat:Int))<256):=by
    show (128:Int)≤(d.toNat:Int)∧(d.toNat:Int)<256
    omega
   clear n3
   by_cases hi:3<cs.size
   rotate_left
   ·have hi':¬ (3:Int)<(cs.size:Int):=by omega
    go_enter Tryz.func94,Tryz.ntmps94
    go_wp2_with (go_at_call 107;refine (Tryz.utf8_ValidRune r _).mono ?_;rintro en w1 ⟨rfl,hw⟩;rw [hvr];obtain rfl:=hw)
    go_step3
    go_wp2_with fail
    go_loop [9,10] (fun i f=>i=.int .i64 3∧f=.int .i64 0) (fun _ _=>0)
    case atStart=>exact ⟨rfl,rfl⟩
    case round =>
     obtain ⟨rfl,rfl⟩:=hrel
     go_wp2_with fail
     change bodyPost Tryz.prog Tryz.f94 (fun en w'=>en=.returned (.int .i64 (-1))∧Below w1.heap.size w1 w') Exit.ret _ _
     refine bodyPost_ret (v:=.int .i64 (-1)) (by simp [results,Tryz.results94,go_sem]) rfl ?_
     exact ⟨rfl,by first | exact below_dN (Below.refl _ _).drew _ | exact below_dN (Below.refl _ _) _ | exact Below.refl _ _⟩
   have hi':(3:Int)<(cs.size:Int):=by omega
   have hi2:(4:Int)≤(cs.size:Int):=by omega
   have hwr:IntKind.i64.wrap (4:Int)=4:=by decide
   have hcb:(cs[3]'hi).toNat<128:=hcs _ (Array.getElem_mem_toList (xs:=cs.data) hi)
   have hn:((((cs[3]'hi).toNat:Int)) != ((((⟨⟨[a,b,c,d]⟩⟩:ByteArray)[3]'(show 3<4 by decide)).toNat:Int)))=true:=by
    show (((cs[3]'hi).toNat:Int) != (d.toNat:Int))=true
    rw [bne_iff_ne];omega
   have HCS:=Lib.hid hcs;clear hcs
   go_enter Tryz.func94,Tryz.ntmps94
   go_wp2_with (go_at_call 107;refine (Tryz.utf8_ValidRune r _).mono ?_;rintro en w1 ⟨rfl,hw⟩;rw [hvr];obtain rfl:=hw)
   go_step3
   go_wp2_with fail
   go_loop [9,10] (fun i f=>i=.int .i64 3∧f=.int .i64 0) (fun _ _=>0)
   case atStart=>exact ⟨rfl,rfl⟩
   case round =>
    obtain ⟨rfl,rfl⟩:=hrel
    go_wp2_with fail
    go_step3
    go_wp2_with fail
    go_region
    go_wp2_with fail
    go_quiet (first | (go_at_call 106;exact (indexByte_hi _ _ (lt_extract HCS _ _) HC _).mono fun _ _ ⟨he,hm⟩=>⟨he,_,hm⟩))
    go_wp2_with fail
    change bodyPost Tryz.prog Tryz.f94 (fun en w'=>en=.returned (.int .i64 (-1))∧Below w1.heap.size w1 w') Exit.ret _ _
    refine bodyPost_ret (v:=.int .i64 (-1)) (by simp [results,Tryz.results94,go_sem]) rfl ?_
    exact ⟨rfl,by first | exact below_dN (Below.refl _ _).drew _ | exact below_dN (Below.refl _ _) _ | exact Below.refl _ _⟩
def adv (w:World) (g:Nat) (s:ByteArray) (p:Nat):World:={ w with heap:=w.heap.setIfInBounds g (.stringIter s p) }
theorem run_next_in {P:Program} {wx:World} {g:Nat} {s:ByteArray} {pos:Nat} (h:wx.heap[g]? = some (.stringIter s pos)) (hp:pos<s.size) (ty:TypeId) :
 (Instr.next (.pointer (some ⟨g,0,none⟩)) true ty).run P wx=.ok (.tuple #[.bool true,.int .i64 pos,.int .i32 (Utf8.decode s pos).1]) (adv wx g s (pos+(Utf8.decode s pos).2)):=by
 simp only [Instr.next,getObj,setObj,Sem.run_bind,Sem.run,h,Result.andThen,hp,if_true,adv]
 simp [goInt]
theorem run_next_out {P:Program} {wx:World} {g:Nat} {s:ByteArray} {pos:Nat} (h:wx.heap[g]? = some (.stringIter s pos)) (hp:¬ pos<s.size) (ty:TypeId) :
 (Instr.next (.pointer (some ⟨g,0,none⟩)) true ty).run P wx=.ok (.tuple #[.bool false]) wx:=by
 simp [Instr.next,getObj,Sem.run,h,hp]
theorem adv_at {wx:World} {g:Nat} {s:ByteArray} {p p':Nat} (h:wx.heap[g]? = some (.stringIter s p)):(adv wx g s p').heap[g]? = some (.stringIter s p'):=by
 have hl:=lt_of_heap h
 simp [adv,hl]
theorem adv_size (wx:World) (g:Nat) (s:ByteArray) (p:Nat):(adv wx g s p).heap.size=wx.heap.size:=by simp [adv]
theorem adv_below {w wx:World} {s:ByteArray} {p:Nat} {B:Nat} (g:Nat) (h:Below B w wx) (hg:B≤g):Below B w (adv wx g s p) :=
 ⟨h.os,h.tape,h.output,by rw [adv_size];exact h.size,fun k hk=>by
  rw [← h.block k hk]
  simp only [adv,Array.getElem?_setIfInBounds]
  rw [if_neg (by omega)]⟩
theorem decode_valid (s:ByteArray) (pos:Nat):Utf8.valid ((Utf8.decode s pos).1:Int)=true:=by
 have h:=Lib.rune_valid (s.extract pos s.size)
 rw [Lib.tail_decode s pos 0,Nat.add_zero] at h
 rw [validRune_eq];exact h
theorem get_data (s:ByteArray) {j:Nat} (h:j<s.size):s.data.toList[j]? = some (s.get! j):=by
 have h':j<s.data.size:=h
 simp only [ByteArray.get!,Array.getElem?_toList]
 rw [Array.getElem?_eq_getElem h',getElem!_pos s.data j h']
set_option maxHeartbeats 2000000 in
set_option maxRecDepth 100000 in
theorem indexAny_short (s:ByteArray) (h8:s.size≤8) (w:World):Calls Tryz.prog 84 #[.string s,.string ⟨#[32,40,41]⟩] w fun en w'=>en=.returned (.int .i64 (Lib.indexAny s.data.toList [32,40,41]))∧Below w.heap.size w w':=by
 have h8z:decide ((8:Int)<(s.size:Int))=false:=decide_eq_false (by omega)
 go_enter Tryz.func84,Tryz.ntmps84
 go_wp2_with (go_at_call 95;refine (Tryz.strings_shouldUseASCIISet _ _).mono ?_;rintro e w' ⟨rfl,hw⟩;rw [hw,h8z])
 go_loopw [9,10] (fun _ _ wx=>∃ i:Nat,i≤s.size∧wx.heap[w.heap.size]? = some (.stringIter s i)∧Below w.heap.size w wx∧Lib.NoAny s.data.toList [32,40,41] i) (fun _ _ wx=>s.size-wx.iterPos w.heap.size)
 case atStart=>exact ⟨0,Nat.zero_le _,World.iter_heap _ _ _,(Below.refl _ _).alloc (Nat.le_refl _) _,Lib.NoAny.zero _ _⟩
 case round =>
  obtain ⟨i,hi,hit,hb,hno⟩:=hrel
  have HN:=Lib.hid hno;have HI:=Lib.hid hit;have HB:=Lib.hid hb;clear hno
  by_cases hlt:i<s.size
  rotate_left
  ·have hnx:=run_next_out (P:=Tryz.prog) hit hlt
   obtain rfl:i=s.size:=by omega
   clear hit hb
   go_wp2_with fail
   go_ret
   exact ⟨ret_i64 (by rw [Lib.indexAny_none (by have:=HN.out;simpa using this)]),HB.out⟩
  ·have hnx:=run_next_in (P:=Tryz.prog) hit hlt
   have hg1:=adv_at (p':=i+(Utf8.decode s i).2) hit
   have hb1:=adv_below (s:=s) (p:=i+(Utf8.decode s i).2) w.heap.size hb (Nat.le_refl _)
   have hpos:wr.iterPos w.heap.size=i:=by unfold World.iterPos;rw [hit]
   have hxd:=get_data s hlt
   generalize adv wr w.heap.size s (i+(Utf8.decode s i).2)=W1 at *
   have HG:=Lib.hid hg1;have HB1:=Lib.hid hb1;have HP:=Lib.hid hpos
   have hgl:=lt_of_heap hg1
   clear hit hb hg1 hb1 hpos
   by_cases hx:(s.get! i).toNat<128
   ·have hd:Utf8.decode s i=((s.get! i).toNat,1):=by rw [Lib.decode_at];unfold Lib.decodeN;rw [if_pos hx]
    rw [hd] at hnx HG
    obtain ⟨x,hxe⟩:∃ x,x=s.get! i:=⟨_,rfl⟩
    rw [← hxe] at hnx hxd hx
    have HX:=Lib.hid hxd;clear hxd hd hxe
    have hcon:=Lib.contains_iff_indexByte [32,40,41] x
    have hback:((x.toNat:Int)).toNat.toUInt8=x:=by simp
    cases hin:([32,40,41]:Bs).contains x
    ·rw [hin] at hcon
     have hlt2:¬ ((0:Int)≤Lib.indexByte [32,40,41] x):=of_decide_eq_false hcon.symm
     have HIN:=Lib.hid hin
     clear hcon hin
     go_wp2_with (go_at_call 94;refine (Tryz.strings_IndexRune_ascii _ _ _ (by omega) (by omega)).mono ?_;rintro e w2 ⟨rfl,hw⟩;rw [hw,hback])
     go_roundw
     case rel=>exact ⟨i+1,by omega,HG.out,HB1.out,HN.out.succ HX.out HIN.out⟩
     case measure =>
      have h1:=HP.out
      have h2:W1.iterPos w.heap.size=i+1:=by unfold World.iterPos;rw [HG.out]
      simp only [h1,h2];omega
    ·rw [hin] at hcon
     have hge:(0:Int)≤Lib.indexByte [32,40,41] x:=of_decide_eq_true hcon.symm
     have HIN:=Lib.hid hin
     clear hcon hin
     go_wp2_with (go_at_call 94;refine (Tryz.strings_IndexRune_ascii _ _ _ (by omega) (by omega)).mono ?_;rintro e w2 ⟨rfl,hw⟩;rw [hw,hback])
     go_ret
     exact ⟨ret_i64 (by rw [Lib.indexAny_hit HN.out HX.out HIN.out]),HB1.out⟩
   ·obtain ⟨d1,d2,d3,d4⟩:=decode_hi s i hlt (by omega)
    have dv:=decode_valid s i
    generalize (Utf8.decode s i).1=r at *
    generalize (Utf8.decode s i).2=k at *
    have hno2:Lib.NoAny s.data.toList [32,40,41] (i+k):=by
     intro j b hj hbj
     by_cases hji:j<i
     ·exact HN.out j b hji hbj
     ·have h1:=d4 j (by omega) hj
      rw [get_data s (by omega)] at hbj
      obtain rfl:=Option.some.inj hbj
      have h32:(32:UInt8).toNat=32:=rfl
      have h40:(40:UInt8).toNat=40:=rfl
      have h41:(41:UInt8).toNat=41:=rfl
      rw [Bool.eq_false_iff];intro hc
      simp only [List.contains_iff_mem,List.mem_cons,List.not_mem_nil,or_false] at hc
      rcases hc with hc | hc | hc <;> rw [hc] at h1 <;> omega
    have HN2:=Lib.hid hno2
    have hrune:Calls Tryz.prog 94 #[.string ⟨#[32,40,41]⟩,.int .i32 (r:Int)] W1 fun en w'=>en=.returned (.int .i64 (-1))∧Below W1.heap.size W1 w':=by
     by_cases h:(r:Int)=65533
     ·rw [h];exact indexRune_bad W1
     ·exact indexRune_hi ⟨#[32,40,41]⟩ (by decide) _ (by omega) h dv W1
    have HR:=Lib.hid hrune
    clear hno2 hrune d4 dv hxd
    go_wp2_with (go_at_call 94;refine HR.out.mono ?_;rintro e w2 ⟨rfl,hw⟩)
    have hk:w2.heap[w.heap.size]? = some (.stringIter s (i+k)):=by rw [hw.block _ hgl];exact HG.out
    have hb2:=HB1.out.trans (hw.mono HB1.out.size)
    have HK:=Lib.hid hk;clear hk
    go_roundw
    case rel=>exact ⟨i+k,by omega,HK.out,hb2,HN2.out⟩
    case measure =>
     have h1:=HP.out
     have h2:w2.iterPos w.heap.size=i+k:=by unfold World.iterPos;rw [HK.out]
     simp only [h1,h2];omega
end Go.Proofs.YtapjaflnmklmeaaGreatDoor
