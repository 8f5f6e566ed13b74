/- What the claim needs of:Shelf2 YL YM. -/
import Derived.Shelf.SlSortCmp.WholeK
import Derived.Shelf.SlSortCmp.NoneTotal
import Derived.Shelf.SlicesE.Clone
import Derived.Shelf.Spec.SlicesGrow
import Derived.Shelf.SlMaps.Clone
import Derived.Ground.SlmcProg
import Derived.Ground.Names8Prog
import Derived.Ground.SlsfProg
import Derived.Ground.SlgnProg
import Derived.Test.YtdgehhgjgifikaaGreatDoorProg
import Derived.Test.YtdgehhgjgifikaaGreatDoorK10
namespace Go.Proofs
open Go.Shelf
def Tryz.sortD_ren:Go.Shelf.Ren:=⟨fun | 6=>47 | 15=>82 | 14=>81 | 28=>124 | 29=>125 | 20=>116 | 21=>117 | 22=>118 | 23=>119 | 24=>120 | 25=>121 | 26=>122 | 27=>123 | 46=>150 | 47=>151 | 48=>152 | 49=>153 | 50=>154 | 57=>177 | n=>n,fun | 22=>35 | 24=>42 | 25=>107 | 3=>3 | 39=>152 | 0=>0 | 53=>192 | 55=>194 | 4=>4 | 46=>185 | 45=>184 | 50=>189 | 5=>5 | 9=>9 | 66=>215 | 70=>219 | 76=>243 | 77=>244 | n=>n,fun | n=>n⟩
theorem Tryz.sortD:Go.Proofs.SlLaysF0.n6 Tryz.prog Tryz.sortD_ren:={
 mixed:=by kernel_rfl
 f6:=⟨Tryz.f47.name,by decide,Tryz.func47.trans (congrArg some qF)⟩
 f14:=⟨Tryz.f81.name,by decide,Tryz.func81.trans (congrArg some qF)⟩
 f15:=Tryz.func82.trans (congrArg some qF)
 f20:=⟨Tryz.f116.name,by decide,Tryz.func116.trans (congrArg some qF)⟩
 f21:=⟨Tryz.f117.name,by decide,Tryz.func117.trans (congrArg some qF)⟩
 f22:=⟨Tryz.f118.name,by decide,Tryz.func118.trans (congrArg some qF)⟩
 f23:=⟨Tryz.f119.name,by decide,Tryz.func119.trans (congrArg some qF)⟩
 f24:=⟨Tryz.f120.name,by decide,Tryz.func120.trans (congrArg some qF)⟩
 f25:=⟨Tryz.f121.name,by decide,Tryz.func121.trans (congrArg some qF)⟩
 f26:=⟨Tryz.f122.name,by decide,Tryz.func122.trans (congrArg some qF)⟩
 f27:=⟨Tryz.f123.name,by decide,Tryz.func123.trans (congrArg some qF)⟩
 f28:=Tryz.func124.trans (congrArg some qF)
 f29:=Tryz.func125.trans (congrArg some qF)
 f46:=⟨Tryz.f150.name,by decide,Tryz.func150.trans (congrArg some qF)⟩
 f47:=Tryz.func151.trans (congrArg some qF)
 f48:=Tryz.func152.trans (congrArg some qF)
 f49:=⟨Tryz.f153.name,by decide,Tryz.func153.trans (congrArg some qF)⟩
 f50:=⟨Tryz.f154.name,by decide,Tryz.func154.trans (congrArg some qF)⟩
 f57:=⟨Tryz.f177.name,by decide,Tryz.func177.trans (congrArg some qF)⟩
 t0:=Tryz.underlying0
 a0:=Tryz.isAgg0
 z0:=Tryz.sizeOf0
 v0:=Tryz.zeroValue0
 t3:=Tryz.underlying3
 a3:=Tryz.isAgg3
 z3:=Tryz.sizeOf3
 v3:=Tryz.zeroValue3
 t4:=Tryz.underlying4
 a4:=Tryz.isAgg4
 z4:=Tryz.sizeOf4
 v4:=Tryz.zeroValue4
 t5:=Tryz.underlying5
 a5:=Tryz.isAgg5
 z5:=Tryz.sizeOf5
 v5:=Tryz.zeroValue5
 t9:=Tryz.underlying9
 a9:=Tryz.isAgg9
 z9:=Tryz.sizeOf9
 v9:=Tryz.zeroValue9
 t22:=Tryz.underlying35
 a22:=Tryz.isAgg35
 z22:=Tryz.sizeOf35
 v22:=Tryz.zeroValue35
 t25:=Tryz.underlying107
 a25:=Tryz.isAgg107
 z25:=Tryz.sizeOf107
 v25:=Tryz.zeroValue107
 t39:=Tryz.underlying152
 a39:=Tryz.isAgg152
 z39:=Tryz.sizeOf152
 v39:=Tryz.zeroValue152
 t45:=Tryz.underlying184
 a45:=Tryz.isAgg184
 z45:=Tryz.sizeOf184
 v45:=Tryz.zeroValue184
 t46:=Tryz.underlying185
 a46:=Tryz.isAgg185
 z46:=Tryz.sizeOf185
 v46:=Tryz.zeroValue185
 t50:=Tryz.underlying189
 a50:=Tryz.isAgg189
 z50:=Tryz.sizeOf189
 v50:=Tryz.zeroValue189
 t53:=Tryz.underlying192
 a53:=Tryz.isAgg192
 z53:=Tryz.sizeOf192
 v53:=Tryz.zeroValue192
 t55:=Tryz.underlying194
 a55:=Tryz.isAgg194
 z55:=Tryz.sizeOf194
 v55:=Tryz.zeroValue194
 t66:=Tryz.underlying215
 a66:=Tryz.isAgg215
 z66:=Tryz.sizeOf215
 v66:=Tryz.zeroValue215
 t70:=Tryz.underlying219
 a70:=Tryz.isAgg219
 z70:=Tryz.sizeOf219
 v70:=Tryz.zeroValue219
 t76:=Tryz.underlying243
 a76:=Tryz.isAgg243
 z76:=Tryz.sizeOf243
 v76:=Tryz.zeroValue243
 t77:=Tryz.underlying244
 a77:=Tryz.isAgg244
 z77:=Tryz.sizeOf244
 v77:=Tryz.zeroValue244}
def Tryz.insU_ren:Go.Shelf.Ren:=⟨fun | 20=>114 | n=>n,fun | 24=>52 | 22=>27 | 3=>3 | 25=>90 | 4=>4 | 0=>0 | n=>n,fun | n=>n⟩
theorem Tryz.insU:Go.Proofs.SlLaysF0.n20 Tryz.prog Tryz.insU_ren:={
 mixed:=by kernel_rfl
 f20:=⟨Tryz.f114.name,by decide,Tryz.func114.trans (congrArg some qF)⟩
 t0:=Tryz.underlying0
 a0:=Tryz.isAgg0
 z0:=Tryz.sizeOf0
 v0:=Tryz.zeroValue0
 t3:=Tryz.underlying3
 a3:=Tryz.isAgg3
 z3:=Tryz.sizeOf3
 v3:=Tryz.zeroValue3
 t4:=Tryz.underlying4
 a4:=Tryz.isAgg4
 z4:=Tryz.sizeOf4
 v4:=Tryz.zeroValue4
 t22:=Tryz.underlying27
 a22:=Tryz.isAgg27
 z22:=Tryz.sizeOf27
 v22:=Tryz.zeroValue27
 t25:=Tryz.underlying90
 a25:=Tryz.isAgg90
 z25:=Tryz.sizeOf90
 v25:=Tryz.zeroValue90}
def Tryz.cloneI_ren:Go.Shelf.Ren:=⟨fun | 41=>61 | n=>n,fun | 22=>55 | 23=>60 | 4=>4 | n=>n,fun | n=>n⟩
theorem Tryz.cloneI:Go.Proofs.SlLaysE0.n41 Tryz.prog Tryz.cloneI_ren:={
 mixed:=by kernel_rfl
 f41:=⟨Tryz.f61.name,by decide,Tryz.func61.trans (congrArg some qF)⟩
 t4:=Tryz.underlying4
 a4:=Tryz.isAgg4
 z4:=Tryz.sizeOf4
 v4:=Tryz.zeroValue4
 t22:=Tryz.underlying55
 a22:=Tryz.isAgg55
 z22:=Tryz.sizeOf55
 v22:=Tryz.zeroValue55}
def Tryz.growS_ren:Go.Shelf.Ren:=⟨fun | 4=>148 | n=>n,fun | 22=>44 | 25=>9 | 3=>3 | 4=>4 | 9=>9 | 20=>20 | 0=>0 | n=>n,fun | n=>n⟩
theorem Tryz.growS:Go.Proofs.Lays8.n4 Tryz.prog Tryz.growS_ren:={
 mixed:=by kernel_rfl
 f4:=⟨Tryz.f148.name,by decide,Tryz.func148.trans (congrArg some qF)⟩
 t0:=Tryz.underlying0
 a0:=Tryz.isAgg0
 z0:=Tryz.sizeOf0
 v0:=Tryz.zeroValue0
 t3:=Tryz.underlying3
 a3:=Tryz.isAgg3
 z3:=Tryz.sizeOf3
 v3:=Tryz.zeroValue3
 t4:=Tryz.underlying4
 a4:=Tryz.isAgg4
 z4:=Tryz.sizeOf4
 v4:=Tryz.zeroValue4
 t9:=Tryz.underlying9
 a9:=Tryz.isAgg9
 z9:=Tryz.sizeOf9
 v9:=Tryz.zeroValue9
 t20:=Tryz.underlying20
 a20:=Tryz.isAgg20
 z20:=Tryz.sizeOf20
 v20:=Tryz.zeroValue20
 t22:=Tryz.underlying44
 a22:=Tryz.isAgg44
 z22:=Tryz.sizeOf44
 v22:=Tryz.zeroValue44}
def Tryz.cloneMp_ren:Go.Shelf.Ren:=⟨fun | 5=>54 | 7=>86 | n=>n,fun | 23=>103 | 25=>9 | 3=>4 | 4=>4 | 20=>20 | n=>n,fun | n=>n⟩
theorem Tryz.cloneMp:Go.Proofs.SlLaysW.n5 Tryz.prog Tryz.cloneMp_ren:={
 mixed:=by kernel_rfl
 f5:=⟨Tryz.f54.name,by decide,Tryz.func54.trans (congrArg some qF)⟩
 f7:=Tryz.func86.trans (congrArg some qF)
 t4:=Tryz.underlying4
 a4:=Tryz.isAgg4
 z4:=Tryz.sizeOf4
 v4:=Tryz.zeroValue4
 t20:=Tryz.underlying20
 a20:=Tryz.isAgg20
 z20:=Tryz.sizeOf20
 v20:=Tryz.zeroValue20
 t23:=Tryz.underlying103
 a23:=Tryz.isAgg103
 z23:=Tryz.sizeOf103
 v23:=Tryz.zeroValue103}
end Go.Proofs
namespace Go.Proofs.YtdgehhgjgifikaaGreatDoor
open Go.RowKit
theorem elStr:ElT Tryz.prog 44 9 1 16:=ElT.mk_ (z:=.string ByteArray.empty) Tryz.underlying44 qF rfl (by decide)
def RetSS (w:World)(l:List Tx)(e:Ending)(w':World):Prop:=∃ A c,e=.returned (.slice A l.length c)∧SlN w' w'.heap.size 1 encS A l∧Below w.heap.size w w'∧∀ a,A=some a→w.heap.size≤a.block
theorem yT5 {w:World}{base:Nat}{v:Value}{l:List Tx}(h:w.ownsRow base 9 1 v l.length (strs l)):∃ A c,v=.slice A l.length c∧Sl w w.heap.size 1 encS A l∧∀ a,A=some a→base≤a.block:=by
 have hA:Acc w base 9 1 v l.length (strs l):=.inl h;obtain⟨A,c,rfl⟩:=hA.shape;refine⟨A,c,rfl,hA.strs_.2,fun a ha=>?_⟩;subst ha;exact(h.lt a.block rfl).1
theorem zK1 (A:Option Addr)(c:Nat)(l:List Tx)(w:World)(hA:SlN w w.heap.size 1 encS A l):Calls Tryz.prog 62 #[.slice A l.length c] w (RetSS w l):=by
 obtain⟨hS,hl⟩:=hA;rcases A with _ | a
 ·have hnil:l=[]:=by
   rcases hS with h | ⟨b,off,h,_⟩
   ·exact h
   ·cases h
  subst hnil;refine(Tryz.slices_Clone_string_nil 0 c w).mono ?_;rintro e w' ⟨rfl,rfl⟩;exact⟨none,0,rfl,⟨Sl.nil_,Nat.zero_le _⟩,Below.refl _ _,fun _ h=>by cases h⟩
 ·by_cases hnil:l=[]
  ·subst hnil;refine(Tryz.slices_Clone_string_zero a c w).mono ?_;rintro e w' ⟨v',rfl,h1,_,hb⟩;obtain⟨A',c',rfl,h2,h3⟩:=yT5 (l:=[]) h1;exact⟨A',c',rfl,⟨h2,Nat.zero_le _⟩,hb,h3⟩
  ·rcases hS with h | ⟨b,off,h,hb,hc⟩
   ·exact absurd h hnil
   ·injection h with h
    subst h;refine(Tryz.slices_Clone_string b off l.length c (l.map fun s=>⟨s.toArray⟩) w (by simp) qG (fun j hj=>?_)).mono ?_
    ·exact xC
    ·rintro e w' ⟨v',rfl,h1,_,hb⟩;rw[List.take_of_length_le (by simp)] at h1;have e1:(l.map fun s=>(⟨s.toArray⟩:ByteArray)).map Value.string=strs l:=by simp[strs,Function.comp_def]
     rw[e1] at h1;obtain⟨A',c',rfl,h2,h3⟩:=yT5 h1;exact⟨A',c',rfl,⟨h2,hl⟩,hb,h3⟩
theorem grow_row {w w':World}{n:Nat}{z:Value}(hz:z.cells.size=1)(hn:n≤maxLen)(hw:w'=w.drew.alloc (.cells ((#[]:Array Value)++Builtin.zeroCells z.cells (0+n-0)++Builtin.zeroCells z.cells (grownCap w (0+n) 0 9-(0+n))) 9)) :
  w'.ownsRow w.heap.size 9 1 (.slice (some ⟨w.heap.size,0,none⟩) 0 (grownCap w (0+n) 0 9)) 0 []:=by
 subst hw;have h1:=grownCap_ge w (0+n) 0 9;have h2:=grownCap_le_maxLen w (0+n) 0 9 qG;refine⟨rfl,.inr ⟨w.heap.size,_,_,rfl,Nat.le_refl _,heap_alloc_new w.drew _,Nat.zero_le _,h2,?_,by simp⟩⟩;simp only[Array.size_append,size_zeroCells,hz,List.size_toArray,List.length_nil];omega
theorem grow_any (n:Nat)(w:World)(h0:0 < n)(hn:n≤1099511627776):Calls Tryz.prog 148 #[.slice none 0 0,.int .i64 (n:Nat)] w fun e w'=>∃ g c,e=.returned (.slice (some ⟨g,0,none⟩) 0 c)∧w'.ownsRow w.heap.size 9 1 (.slice (some ⟨g,0,none⟩) 0 c) 0 []∧Below w.heap.size w w':=by
 obtain⟨i,a,b,c,d⟩:=info_parts (P:=Tryz.prog) (e:=9) (z:=.string ByteArray.empty) (size:=1) (bytes:=16) qF;refine(Any8.slices_Grow_grow Tryz.growS i (.string ByteArray.empty) a b (by rw[c];decide) none 0 0 n [] w qJ qG (by rw[d];omega) qG (by simp) (fun _=>rfl) (fun _ h=>by cases h)).mono ?_;rintro e w' ⟨rfl,hw⟩;refine⟨_,_,rfl,grow_row (z:=.string ByteArray.empty) rfl (by unfold maxLen;omega) hw,?_⟩;rw[hw];exact qH.drew.alloc qJ _
theorem yH7 (l:List Tx):∀ u∈l.flatMap encS,u.oneCell'=true:=by
 intro u hu;obtain⟨x,_,h⟩:=List.mem_flatMap.1 hu;simp[encS] at h;subst h;rfl
theorem yH8 (l m:List Tx):strs l++m.flatMap encS=strs (l++m):=by
 unfold strs;rw[List.map_append];congr 1;induction m with
 | nil=>rfl
 | cons x m ih=>rw[List.flatMap_cons,ih];rfl
set_option maxHeartbeats 4000000 in
theorem yX4 (p:Nat)(t:TypeId)(A1:Option Addr)(c1:Nat)(l1:List Tx)(A2:Option Addr)(c2:Nat)(l2:List Tx)(w:World)(hp:Blk w p t #[.slice A1 l1.length c1,.slice A2 l2.length c2])(h1:Sl w w.heap.size 1 encS A1 l1)(h2:Sl w w.heap.size 1 encS A2 l2)(n1:l1.length≤1073741824)(n2:l2.length≤1073741824)(n0:0 < l2.length) :
  Calls Tryz.prog 113 #[.slice (some ⟨p,0,none⟩) 2 2] w (RetSS w (l1++l2)):=by
 have HP:=qK hp;have H1:=qK h1;have H2:=qK h2;have k0:=hp.cell 0;have k1:=hp.cell 1;simp at k0 k1;clear hp h1 h2;go_enter Tryz.func113,Tryz.ntmps113
 go_wp2
 go_loop [11,3] (fun i s=>∃ k:Nat,k≤2∧i=.int .i64 (k:Nat)∧s=.int .i64 ((if k=0 then 0 else if k=1 then l1.length else l1.length+l2.length:Nat):Nat)) (fun i _=>2-(intOf i).toNat)
 case atStart=>exact⟨0,by omega,rfl,rfl⟩
 case round=>
  obtain⟨k,hk,rfl,rfl⟩:=hrel;have hk':k=0∨k=1∨k=2:=by omega
  rcases hk' with rfl | rfl | rfl
  ·simp only[if_true];go_wp2
   go_round
   case rel=>exact⟨1,by omega,by go_num,by simp⟩
   case measure=>simp[intOf]
  ·simp only[if_false,if_true,Nat.one_ne_zero];go_wp2
   go_round
   case rel=>exact⟨2,by omega,by go_num,by simp⟩
   case measure=>simp[intOf]
  ·rw[if_neg (by decide),if_neg (by decide)];have cG:=grow_any (l1.length+l2.length) w qG qG;have CG:=qK cG;clear cG;go_wp2_with fail
   refine CG.out.mono ?_;rintro e w1 ⟨g,c,rfl,hown,hb⟩;have HA1:Acc w1 w.heap.size 9 1 (.slice (some ⟨g,0,none⟩) 0 c) 0 []:=.inl hown;have HB1:=qK hb;have HO1:=qK (show ∀ j,(Value.slice (some ⟨g,0,none⟩) 0 c).ownBlock=some j→w.heap.size≤j from fun j hj=>(hown.lt j hj).1);have q0:=zY1 hb k0;have q1:=zY1 hb k1;have hp0:=zF3 k0;have HP1:=qK hp0;clear hown hb CG k0 k1 hp0;go_wp2;go_loopw [27,6] (fun i v wr=>∃ k:Nat,k≤2∧i=.int .i64 (k:Nat)∧Acc wr w.heap.size 9 1 v (if k=0 then 0 else if k=1 then l1.length else l1.length+l2.length) (if k=0 then[] else if k=1 then strs l1 else strs (l1++l2))∧Below w.heap.size w wr∧∀ j,v.ownBlock=some j→w.heap.size≤j) (fun i _ _=>2-(intOf i).toNat)
   case atStart=>exact⟨0,by omega,rfl,HA1,HB1.out,fun j hj=>HO1.out j hj⟩
   case round=>
    obtain⟨k,hk,rfl,hacc,hb,ho⟩:=hrel;have HO:=qK ho;clear ho;have hk':k=0∨k=1∨k=2:=by omega
    have q0:=yY8 hb (show w.cell? ⟨p,0,none⟩=some (.slice A1 l1.length c1) from by have:=HP.out.cell 0;simpa using this) HP1.out;have q1:=yY8 hb (show w.cell? ⟨p,1,none⟩=some (.slice A2 l2.length c2) from by have:=HP.out.cell 1;simpa using this) HP1.out;rcases hk' with rfl | rfl | rfl
    ·simp only[if_true] at hacc;obtain⟨A,c',rfl⟩:=hacc.shape;have hs:=((H1.out.below hb).more hb.size).src (fun _=>rfl);have HB:=qK hb;clear hb;go_wp2_with (at_builtin;refine zT3 _ rfl (.tmp 31) (.tmp 32) 44 rfl w.heap.size 9 1 16 elStr _ _ _ rfl hacc _ _ _ _ rfl hs (yH7 _) (by unfold maxLen;omega) qG HB.out.size ?_;intro v' w1 hacc' _ hb' _ hob')
     go_roundw
     case rel=>
      refine⟨1,by omega,by go_num,?_,HB.out.trans hb',fun j hj=>by
       rcases hob' with h | ⟨g2,h,h2⟩
       ·exact HO.out j (h▸hj)
       ·rw[h] at hj;injection hj with hj
        exact hj▸Nat.le_trans HB.out.size h2⟩
      rw[if_neg (by decide),if_pos rfl,if_neg (by decide),if_pos rfl];have:=yH8 [] l1;rw[Nat.zero_add] at hacc';rw[show ([]:List Value)=strs [] from rfl,this] at hacc';exact hacc'
     case measure=>simp[intOf]
    ·simp only[if_true,if_false,Nat.one_ne_zero] at hacc;obtain⟨A,c',rfl⟩:=hacc.shape;have hs:=((H2.out.below hb).more hb.size).src (fun _=>rfl);have HB:=qK hb;clear hb;go_wp2_with (at_builtin;refine zT3 _ rfl (.tmp 31) (.tmp 32) 44 rfl w.heap.size 9 1 16 elStr _ _ _ rfl hacc _ _ _ _ rfl hs (yH7 _) (by unfold maxLen;omega) qG HB.out.size ?_;intro v' w1 hacc' _ hb' _ hob')
     go_roundw
     case rel=>
      refine⟨2,by omega,by go_num,?_,HB.out.trans hb',fun j hj=>by
       rcases hob' with h | ⟨g2,h,h2⟩
       ·exact HO.out j (h▸hj)
       ·rw[h] at hj;injection hj with hj
        exact hj▸Nat.le_trans HB.out.size h2⟩
      rw[if_neg (by decide),if_neg (by decide),if_neg (by decide),if_neg (by decide)];rw[yH8] at hacc';exact hacc'
     case measure=>simp[intOf]
    ·rw[if_neg (by decide),if_neg (by decide),if_neg (by decide),if_neg (by decide)] at hacc;obtain⟨A,c',rfl⟩:=hacc.shape;obtain⟨hn,hS⟩:=hacc.strs_;have HB:=qK hb;have HS:=qK hS;clear hb hacc hn hS;go_wp2;go_ret;refine⟨A,c',?_,⟨HS.out,?_⟩,HB.out,fun a ha=>?_⟩
     ·rw[List.length_append];rfl
     ·rw[List.length_append];omega
     ·subst ha;exact HO.out a.block rfl
theorem Kp.low {B:Nat}{w w':World}(h:Below B w w'):Kp (fun b=>B≤b) w w':=⟨h.os,h.tape,h.output,h.size,fun k _ hn=>h.block k qG⟩
def EnvAt (w:World)(B:Nat):Value→List ScA→Prop
 | v,[]=>v=.pointer none
 | v,x ::r=>v=.pointer (some ⟨x.blk,0,none⟩)∧x.blk < B∧x.bF < B∧x.bL < B∧x.bF≠x.bL∧OMap KS w x.bF x.fields.length (fF x.fields)∧OMap KS w x.bL x.lets.length (fL x.lets)∧
   ∃ o,Blk w x.blk 122 #[.map (some x.bF),.map (some x.bL),o,.int .i64 (r.length:Nat)]∧EnvAt w B o r
def FarEnv (M:Nat→Prop)(env:List ScA):Prop:=∀ x∈env,¬ M x.blk∧¬ M x.bF∧¬ M x.bL
theorem EnvAt.kept {w w':World}{B:Nat}{M:Nat→Prop}(hk:Kp M w w'):∀ {v:Value}{env:List ScA},EnvAt w B v env→FarEnv M env→EnvAt w' B v env
 | _,[],h,_=>h
 | _,x ::r,⟨h1,h2,h3,h4,h4',h5,h6,o,h7,h8⟩,hf=>by
   obtain⟨f1,f2,f3⟩:=hf x (by simp);exact⟨h1,h2,h3,h4,h4',h5.keptK hk f2,h6.keptK hk f3,o,hk.blk h7 f1,h8.kept hk fun y hy=>hf y (by simp[hy])⟩
theorem EnvAt.keep {w w':World}{B:Nat}(hb:Below B w w'):∀ {v:Value}{env:List ScA},EnvAt w B v env→EnvAt w' B v env
 | _,[],h=>h
 | _,x ::r,⟨h1,h2,h3,h4,h4',h5,h6,o,h7,h8⟩=>⟨h1,h2,h3,h4,h4',h5.keptK (Kp.low hb) qG,h6.keptK (Kp.low hb) qG,o,(Kp.low hb).blk h7 qG,h8.keep hb⟩
theorem EnvAt.more {w:World}{B B':Nat}(hB:B≤B'):∀ {v:Value}{env:List ScA},EnvAt w B v env→EnvAt w B' v env
 | _,[],h=>h
 | _,x ::r,⟨h1,h2,h3,h4,h4',h5,h6,o,h7,h8⟩=>⟨h1,by omega,by omega,by omega,h4',h5,h6,o,h7,h8.more hB⟩
structure RF where
 r:Nat
 path:Tx
 FA:Option Addr
 nF:Nat
 cF:Nat
 root:Nat
 Ai:Option Addr
 ci:Nat
 iB:List Nat
 Au:Option Addr
 cu:Nat
 uB:List Nat
 imps:List (List Tx)
 use:Value
def MpSl (w:World)(B:Nat)(A:Option Addr)(bs:List Nat):Prop:=bs=[]∨∃ g cs,A=some ⟨g,0,none⟩∧g < B∧Blk w g 103 cs∧∀ (i:Nat) (h:i < bs.length),cs[i]? = some (.map (some bs[i]))
def obV (o:Ob):Array Value:=(encD o.d++([.pointer (some ⟨o.sc,0,none⟩),.int .i64 (o.file:Nat),.bool o.used,.bool o.act,.int .i64 o.hgt]:List Value)++encE o.ex++([.bool o.done]:List Value)).toArray
structure MpsAt (R:RF)(usedI:List (List Tx))(B:Nat)(w:World):Prop where
 im:MpSl w B R.Ai R.iB
 us:MpSl w B R.Au R.uB
 li:R.imps.length=R.iB.length
 lu:usedI.length=R.uB.length
 lb:R.uB.length=R.iB.length
 iB:∀ b∈R.iB,b < B
 uB:∀ b∈R.uB,b < B
 nu:R.uB.Nodup
 di:∀ b∈R.iB,b∉R.uB
 mi:∀ (i:Nat) (h:i < R.iB.length),OMap KS w R.iB[i] (R.imps.getD i []).length (fF (R.imps.getD i []))
 mu:∀ (i:Nat) (h:i < R.uB.length),OMap KS w R.uB[i] (R.imps.getD i []).length (fF (usedI.getD i []))
 su:∀ (i:Nat) (_h:i < R.uB.length),∀ s∈usedI.getD i [],s∈R.imps.getD i []
 sl:∀ l∈R.imps,l.length≤1099511627776
structure ObsAt (obs:List Ob)(B:Nat)(w:World):Prop where
 at_:∀ o∈obs,Blk w o.blk 102 (obV o)
 lt:∀ o∈obs,o.blk < B
 nd:(obs.map (·.blk)).Nodup
structure RsAt (R:RF)(ρ:RS)(allV:Value)(B:Nat)(w:World):Prop where
 rc:Blk w R.r 86 #[.string ⟨R.path.toArray⟩,.slice R.FA R.nF R.cF,.pointer (some ⟨R.root,0,none⟩),.slice R.Ai R.iB.length R.ci,.slice R.Au R.uB.length R.cu,allV,.bool ρ.twice,.bool ρ.cyc,R.use]
 rl:R.r < B
 mp:MpsAt R ρ.usedI B w
 ob:ObsAt ρ.objs B w
section
variable {R:RF}{ρ:RS}{allV:Value}{B B':Nat}{w w':World}{usedI:List (List Tx)}{obs:List Ob}
theorem MpSl.keep {A:Option Addr}{bs:List Nat}(h:MpSl w B A bs)(hb:Below B w w'):MpSl w' B A bs:=by
 rcases h with h | ⟨g,cs,h1,h2,h3,h4⟩
 ·exact .inl h
 ·exact .inr ⟨g,cs,h1,h2,(Kp.low hb).blk h3 qG,h4⟩
theorem MpSl.more {A:Option Addr}{bs:List Nat}(h:MpSl w B A bs)(hB:B≤B'):MpSl w B' A bs:=by
 rcases h with h | ⟨g,cs,h1,h2,h3,h4⟩
 ·exact .inl h
 ·exact .inr ⟨g,cs,h1,by omega,h3,h4⟩
theorem MpSl.kept {A:Option Addr}{bs:List Nat}{M:Nat→Prop}(h:MpSl w B A bs)(hk:Kp M w w')(hM:∀ g cs,Blk w g 103 cs→¬ M g):MpSl w' B A bs:=by
 rcases h with h | ⟨g,cs,h1,h2,h3,h4⟩
 ·exact .inl h
 ·exact .inr ⟨g,cs,h1,h2,hk.blk h3 (hM g cs h3),h4⟩
theorem MpsAt.keep (h:MpsAt R usedI B w)(hb:Below B w w'):MpsAt R usedI B w':=
 ⟨h.im.keep hb,h.us.keep hb,h.li,h.lu,h.lb,h.iB,h.uB,h.nu,h.di,fun i hi=>(h.mi i hi).keptK (Kp.low hb) (by have:=h.iB _ (List.getElem_mem hi);omega),fun i hi=>(h.mu i hi).keptK (Kp.low hb) (by have:=h.uB _ (List.getElem_mem hi);omega),h.su,h.sl⟩
theorem MpsAt.more (h:MpsAt R usedI B w)(hB:B≤B'):MpsAt R usedI B' w:=
 ⟨h.im.more hB,h.us.more hB,h.li,h.lu,h.lb,fun b hb=>Nat.lt_of_lt_of_le (h.iB b hb) hB,fun b hb=>Nat.lt_of_lt_of_le (h.uB b hb) hB,h.nu,h.di,h.mi,h.mu,h.su,h.sl⟩
theorem MpsAt.kept {M:Nat→Prop}(h:MpsAt R usedI B w)(hk:Kp M w w')(hM:∀ g cs,Blk w g 103 cs→¬ M g)(hMi:∀ b∈R.iB,¬ M b)(hMu:∀ b∈R.uB,¬ M b):MpsAt R usedI B w':=
 ⟨h.im.kept hk hM,h.us.kept hk hM,h.li,h.lu,h.lb,h.iB,h.uB,h.nu,h.di,fun i hi=>(h.mi i hi).keptK hk (hMi _ (List.getElem_mem hi)),fun i hi=>(h.mu i hi).keptK hk (hMu _ (List.getElem_mem hi)),h.su,h.sl⟩
theorem ObsAt.keep (h:ObsAt obs B w)(hb:Below B w w'):ObsAt obs B w':=⟨fun o ho=>(Kp.low hb).blk (h.at_ o ho) (by have:=h.lt o ho;omega),h.lt,h.nd⟩
theorem ObsAt.more (h:ObsAt obs B w)(hB:B≤B'):ObsAt obs B' w:=⟨h.at_,fun o ho=>Nat.lt_of_lt_of_le (h.lt o ho) hB,h.nd⟩
theorem ObsAt.kept {M:Nat→Prop}(h:ObsAt obs B w)(hk:Kp M w w')(hM:∀ o∈obs,¬ M o.blk):ObsAt obs B w':=⟨fun o ho=>hk.blk (h.at_ o ho) (hM o ho),h.lt,h.nd⟩
theorem RsAt.keep (h:RsAt R ρ allV B w)(hb:Below B w w'):RsAt R ρ allV B w':=⟨(Kp.low hb).blk h.rc (by have:=h.rl;omega),h.rl,h.mp.keep hb,h.ob.keep hb⟩
theorem RsAt.more (h:RsAt R ρ allV B w)(hB:B≤B'):RsAt R ρ allV B' w:=⟨h.rc,Nat.lt_of_lt_of_le h.rl hB,h.mp.more hB,h.ob.more hB⟩
theorem ObsAt.use (h:ObsAt obs B w){o:Ob}(_ho:o∈obs):ObsAt (obs.map (zL2 o.blk)) B (w.setCell ⟨o.blk,13,none⟩ (.bool true)):=by
 have hblk:∀ x:Ob,(zL2 o.blk x).blk=x.blk:=fun x=>by unfold zL2;split <;> rfl
 refine⟨fun x hx=>?_,fun x hx=>?_,?_⟩
 ·obtain⟨y,hy,rfl⟩:=List.mem_map.1 hx;rw[hblk];by_cases hb:y.blk=o.blk
  ·have hyo:=h.at_ y hy;have e:obV (zL2 o.blk y)=(obV y).setIfInBounds 13 (.bool true):=by
    unfold zL2;rw[if_pos hb];obtain⟨b1,d1,s1,f1,u1,a1,h1,x1,dn⟩:=y;cases d1 with
    | mk=>cases x1 with
      | mk=>simp[obV,encD,encE]
   rw[e,←hb];exact hyo.set_ 13 (.bool true)
  ·have e:zL2 o.blk y=y:=by unfold zL2;rw[if_neg hb]
   rw[e];exact(h.at_ y hy).far hb _
 ·obtain⟨y,hy,rfl⟩:=List.mem_map.1 hx;rw[hblk];exact h.lt y hy
 ·have e:(obs.map (zL2 o.blk)).map (·.blk)=obs.map (·.blk):=by
   rw[List.map_map];exact List.map_congr_left fun x _=>hblk x
  rw[e];exact h.nd
theorem MpsAt.use (h:MpsAt R usedI B w){file:Nat}(hf:file < R.uB.length){s:Tx}(hs:s∈R.imps.getD file [])(hO:OMap KS w' R.uB[file] ((R.imps.getD file []).length+1) (fun y=>if y=s then some (.bool true) else fF (usedI.getD file []) y))(hg:w.grownBy w' (some R.uB[file])):MpsAt R (usedI.set file (s ::usedI.getD file [])) B w':=by
 have hk:Kp (fun b=>b=R.uB[file]) w w':=(Kp.refl _ _).grown hg fun k hk=>.inl (by injection hk with hk;exact hk.symm);have hlu:=h.lu;have hget:∀ i,(usedI.set file (s ::usedI.getD file [])).getD i []=if i=file then s ::usedI.getD file [] else usedI.getD i []:=fun i=>by
  by_cases hi:i=file
  ·subst hi;rw[if_pos rfl,List.getD_eq_getElem?_getD,List.getElem?_set_self qG];rfl
  ·rw[if_neg hi,List.getD_eq_getElem?_getD,List.getElem?_set_ne (Ne.symm hi),List.getD_eq_getElem?_getD]
 have hnb:∀ g cs,Blk w g 103 cs→¬ g=R.uB[file]:=fun g cs hgc=>zY4 hgc (h.mu file hf);refine⟨h.im.kept hk hnb,h.us.kept hk hnb,h.li,by rw[List.length_set];exact h.lu,h.lb,h.iB,h.uB,h.nu,h.di,fun i hi=>(h.mi i hi).keptK hk (fun e=>h.di _ (List.getElem_mem hi) (e▸List.getElem_mem hf)),fun i hi=>?_,fun i hi x hx=>?_,h.sl⟩
 ·rw[hget];by_cases hif:i=file
  ·subst hif;rw[if_pos rfl];have h1:OMap KS w' R.uB[i] ((R.imps.getD i []).length+1) (fF (s ::usedI.getD i [])):=hO.congr fun y _=>by
    unfold fF;by_cases hy:y=s
    ·subst hy;simp
    ·simp[hy]
   refine h1.tight (R.imps.getD i []) fun y hy=>?_;unfold fF at hy;split at hy
   ·rename_i hm;rcases List.mem_cons.1 hm with rfl | hm
    ·exact hs
    ·exact h.su i hi y hm
   ·cases hy
  ·rw[if_neg hif];refine(h.mu i hi).keptK hk fun e=>hif ?_;exact(List.getElem_inj h.nu).1 e
 ·rw[hget] at hx;split at hx
  ·rename_i e;subst e;rcases List.mem_cons.1 hx with rfl | hx
   ·exact hs
   ·exact h.su i hi x hx
  ·exact h.su i hi x hx
end
end Go.Proofs.YtdgehhgjgifikaaGreatDoor
