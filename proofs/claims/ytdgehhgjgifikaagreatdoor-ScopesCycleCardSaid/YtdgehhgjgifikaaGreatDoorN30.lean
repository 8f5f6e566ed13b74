/- What the claim needs of:ZM TC Shelf3 ZN ZO. -/
import Derived.Test.YtdgehhgjgifikaaGreatDoorN29
import Derived.Test.YtdgehhgjgifikaaGreatDoorN10
import Derived.Test.YtdgehhgjgifikaaGreatDoorN28
import Derived.Shelf.SlIter.Nil
import Derived.Shelf.SortM.Plain
import Derived.Shelf.SortM.SortNone
import Derived.Ground.GgzProg
import Derived.Ground.SlgmProg
import Derived.Test.YtdgehhgjgifikaaGreatDoorProg
import Derived.Shelf.SlMaps.Clone
import Derived.Sort.KeysCollected
import Derived.Sort.Walk0
namespace Go.Proofs.YtdgehhgjgifikaaGreatDoor
open Go.RowKit
set_option maxRecDepth 100000 in
set_option maxHeartbeats 4000000 in
theorem yT8 (rx:Tx→Bool)(p:PA)(w:World)(hP:PkL w p)(hR:∀ f∈p.files,PatDs (RxOk rx) (plDs f.decls))(hG:Glob w)(hs:(∀ f∈p.files,errF rx (plF f)=0)→wF p.files+((p.files.map fun f=>vDs f.decls).sum+(p.files.map fun f=>vDs f.decls).sum)≤1099511627776)
  (hu:∀ f∈p.files,∀ im env lp i,(uDs im (plDs f.decls) env lp i).length≤1048576) :
  Calls Tryz.prog 16 #[.agg #[.string ⟨p.path.toArray⟩,.slice p.A p.files.length p.c]] w (zM5 (zF6 rx (plP p)).1 (zF6 rx (plP p)).2 w):=by
 have hbw:=(Below.refl w.heap.size w).alloc (Nat.le_refl _) (.cells #[.string ⟨p.path.toArray⟩,.slice p.A p.files.length p.c] 24)
 have HB0:=Lib.hid (Blk.new w 24 #[.string ⟨p.path.toArray⟩,.slice p.A p.files.length p.c])
 have HW:=Lib.hid hbw
 have cU:=Lib.hid (yI0 rx p (w.alloc (.cells #[.string ⟨p.path.toArray⟩,.slice p.A p.files.length p.c] 24)) (hP.keep hbw) hR (hG.keep hbw) hs hu)
 have HE:=Lib.hid (show zF6 rx (plP p)=((zS9 rx (plP p)).1.filter fun u=>decide (u.kind=0),(zS9 rx (plP p)).2) from rfl)
 clear hP hR hG hs hbw hu
 generalize zF6 rx (plP p)=U at HE ⊢
 generalize zS9 rx (plP p)=V at HE cU
 obtain⟨us,err⟩:=V
 have hU:=HE.out
 subst hU
 clear HE
 dsimp only at cU ⊢
 go_enter Tryz.func16,Tryz.ntmps16
 go_upto_region 1 with fail
 generalize w.alloc (.cells #[.string ⟨p.path.toArray⟩,.slice p.A p.files.length p.c] 24)=w1 at HB0 HW cU ⊢
 have b0:=HB0.out.cell 0
 have b1:=HB0.out.cell 1
 go_wp2_with fail
 refine cU.out.mono ?_
 rintro e w2 ⟨A,c,rfl,hSl,hul,hb2,hnew⟩
 clear b0 b1 cU
 have HSl:=Lib.hid hSl
 have HW2:=Lib.hid (HW.out.trans (hb2.mono HW.out.size))
 clear hSl hb2 hnew
 go_upto_region 4 with fail
 go_loopw [6,16] (fun vv iv wq=>∃ (i:Nat) (Ao:Option Addr) (lo co:Nat),i≤us.length∧iv=.int .i64 (i:Nat)∧vv=.slice Ao lo co∧Hid (lo=((us.take i).filter fun u=>decide (u.kind=0)).length∧lo≤i)∧Hid (wq.ownsRow w2.heap.size 52 5 (.slice Ao lo co) lo (((us.take i).filter fun u=>decide (u.kind=0)).flatMap encU))∧Hid (Below w2.heap.size w2 wq)) (fun _ iv _=>us.length-(intOf iv).toNat)
 case atStart=>exact⟨0,none,0,0,Nat.zero_le _,rfl,rfl,Lib.hid ⟨rfl,Nat.le_refl _⟩,Lib.hid (World.ownsRow_nil _ _ _ _),Lib.hid (Below.refl _ _)⟩
 case round=>
  obtain⟨i,Ao,lo,co,hi,rfl,rfl,HLo,HRow,Wi⟩:=hrel
  by_cases hlt:i < us.length
  ·have hlt':(i:Int) < (us.length:Int):=by omega
   have HTk:=Lib.hid (List.take_succ_eq_append_getElem hlt)
   obtain⟨bb,off,hA,hbW,hc⟩:=HSl.out.at_ hlt
   generalize us[i]=x at hc HTk
   obtain⟨xf,xp,xn,xk,xd⟩:=x
   have c0:=zY3 Wi.out (hc 0 _ rfl)
   have c1:=zY3 Wi.out (hc 1 _ rfl)
   have c2:=zY3 Wi.out (hc 2 _ rfl)
   have c3:=zY3 Wi.out (hc 3 _ rfl)
   have c4:=zY3 Wi.out (hc 4 _ rfl)
   dsimp only[Nat.add_zero] at c0 c1 c2 c3 c4
   have hba:=(Below.refl wr.heap.size wr).alloc (Nat.le_refl _) (.cells #[.int .i64 xf,.int .i64 xp,.string ⟨xn.toArray⟩,.int .i64 xk,.int .i64 xd] 52)
   have Wb:=Lib.hid (Wi.out.trans (hba.mono Wi.out.size))
   have Rb:=Lib.hid (World.ownsRow.alloc HRow.out (.cells #[.int .i64 xf,.int .i64 xp,.string ⟨xn.toArray⟩,.int .i64 xk,.int .i64 xd] 52))
   have Bb:=Lib.hid (Blk.new wr 52 #[.int .i64 xf,.int .i64 xp,.string ⟨xn.toArray⟩,.int .i64 xk,.int .i64 xd])
   go_upto_region 6 with fail
   clear c0 c1 c2 c3 c4 hA hbW hba hc HRow
   generalize wr.alloc (.cells #[.int .i64 xf,.int .i64 xp,.string ⟨xn.toArray⟩,.int .i64 xk,.int .i64 xd] 52)=wb at Wb Rb Bb ⊢
   obtain⟨u0,u1,u2,u3,u4⟩:=useC Bb.out
   have hlo:=HLo.out.2
   have hbz:=Wb.out.size
   cases hk:(xk == 0)
   ·have HK:=Lib.hid (show (us.take (i+1)).filter (fun u=>decide (u.kind=0))=(us.take i).filter fun u=>decide (u.kind=0) from by
     rw[HTk.out,List.filter_append,List.filter_cons_of_neg (by simpa using hk),List.filter_nil,List.append_nil])
    go_wp2
    go_roundw
    case rel=>exact⟨i+1,Ao,lo,co,by omega,by go_num,rfl,Lib.hid ⟨by rw[HK.out];exact HLo.out.1,by omega⟩,Lib.hid (by rw[HK.out];exact Rb.out),Wb⟩
    case measure=>simp[intOf];omega
   ·have HK:=Lib.hid (show (us.take (i+1)).filter (fun u=>decide (u.kind=0))=((us.take i).filter fun u=>decide (u.kind=0))++ [⟨xf,xp,xn,xk,xd⟩] from by
     rw[HTk.out,List.filter_append,List.filter_cons_of_pos (by simpa using hk),List.filter_nil])
    go_wp2_with (at_builtin;refine zQ4 rfl (.tmp 23) (.tmp 25) 27 rfl w2.heap.size 52 5 48 elUse _ _ _ rfl (World.ownsRow.alloc Rb.out _) _ 1 _ _ rfl (by decide) (Src.lit _ 5 _ _ 1 rfl) (by simp[Value.oneCell']) (by simp only[maxLen];omega) (by omega) (by simp;omega) ?_;intro v' w5 hown' hg' hb' hob')
    obtain⟨A5,c5,hv5⟩:=zV2 hown'
    subst hv5
    have W5:=Lib.hid (Wb.out.trans (((Below.refl wb.heap.size wb).alloc (Nat.le_refl _) _ |>.mono Wb.out.size).trans hb'))
    refine⟨⟨i+1,A5,lo+1,c5,by omega,by go_num,rfl,Lib.hid ⟨by rw[HK.out,List.length_append,←HLo.out.1];rfl,by omega⟩,Lib.hid (by rw[HK.out,List.flatMap_append];simpa[encU] using hown'),W5⟩,by simp[intOf];omega⟩
  ·obtain rfl:i=us.length:=by omega
   have HR:=Lib.hid (show zM5 (us.filter fun u=>decide (u.kind=0)) err w (.returned (.tuple #[.slice Ao lo co,.int .i64 err])) wr from by
    have h1:=HLo.out.1
    have h2:=HRow.out
    rw[List.take_length] at h1 h2
    obtain⟨_,h3⟩:=zO1 (A:=Ao) (m:=lo) (c:=co) yU5 (.inl h2) (by decide)
    refine⟨Ao,co,by rw[h1],h3,Nat.le_trans (List.length_filter_le _ _) hul,HW2.out.trans (Wi.out.mono HW2.out.size),fun a _ ha=>?_⟩
    subst ha
    exact Nat.le_trans HW2.out.size (h2.lt a.block rfl).1)
   go_wp2
   refine bodyPost_ret (v:=.tuple #[.slice Ao lo co,.int .i64 err]) (by simp[results,Tryz.results16,go_sem]) rfl HR.out
def insU (l:List Tx)(x:Tx):List Tx:=
 if (l.dropWhile fun y=>Op.bytesLess y x).head? = some x then l else l.takeWhile (fun y=>Op.bytesLess y x)++x ::l.dropWhile fun y=>Op.bytesLess y x
structure Df where
 file:Int
 pos:Int
 name:Tx
 kind:Int
def befD (a b:Df):Bool:=
 if a.file≠b.file then decide (a.file < b.file)
 else if a.pos≠b.pos then decide (a.pos < b.pos)
 else Op.bytesLess a.name b.name||(decide (a.name=b.name)&&decide (a.kind < b.kind))
def usedI (l:List Fd)(i:Nat)(name:Tx):Bool:=l.any fun u=>decide (u.1.kind=4)&&decide (u.1.file=(i:Int))&&decide (u.1.name=name)
def zP6 (k:Int):Tx:=if k=0 then zT8 else if k=1 then zM0 else if k=2 then wLet else if k=3 then zD0 else zT7
end Go.Proofs.YtdgehhgjgifikaaGreatDoor
namespace Go.Proofs
open Go.Shelf
def Tryz.keysB_ren:Go.Shelf.Ren:=⟨fun | 7=>56 | 10=>89 | n=>n,fun | 23=>103 | 26=>9 | 3=>4 | 28=>125 | 0=>0 | 27=>124 | 33=>153 | 4=>4 | n=>n,fun | n=>n⟩
theorem Tryz.keysB:Go.Proofs.SlLaysZ.n7 Tryz.prog Tryz.keysB_ren:={
 mixed:=by kernel_rfl
 f7:=⟨Tryz.f56.name,by decide,Tryz.func56.trans (congrArg some (by kernel_rfl))⟩
 f10:=⟨Tryz.f89.name,by decide,Tryz.func89.trans (congrArg some (by kernel_rfl))⟩
 t0:=Tryz.underlying0
 a0:=Tryz.isAgg0
 z0:=Tryz.sizeOf0
 v0:=Tryz.zeroValue0
 t4:=Tryz.underlying4
 a4:=Tryz.isAgg4
 z4:=Tryz.sizeOf4
 v4:=Tryz.zeroValue4
 t23:=Tryz.underlying103
 a23:=Tryz.isAgg103
 z23:=Tryz.sizeOf103
 v23:=Tryz.zeroValue103
 t26:=Tryz.underlying9
 a26:=Tryz.isAgg9
 z26:=Tryz.sizeOf9
 v26:=Tryz.zeroValue9
 t27:=Tryz.underlying124
 a27:=Tryz.isAgg124
 z27:=Tryz.sizeOf124
 v27:=Tryz.zeroValue124
 t28:=Tryz.underlying125
 a28:=Tryz.isAgg125
 z28:=Tryz.sizeOf125
 v28:=Tryz.zeroValue125
 t33:=Tryz.underlying153
 a33:=Tryz.isAgg153
 z33:=Tryz.sizeOf153
 v33:=Tryz.zeroValue153}
def Tryz.sortedB_ren:Go.Shelf.Ren:=⟨fun | 6=>55 | 8=>87 | 9=>88 | 11=>127 | 13=>82 | 12=>128 | 23=>124 | 24=>125 | 14=>155 | 15=>156 | 16=>157 | 17=>158 | 18=>159 | 19=>160 | 20=>161 | 21=>162 | 22=>163 | 25=>178 | 26=>151 | 27=>152 | 28=>179 | 29=>180 | 30=>83 | 31=>193 | n=>n,fun | 26=>9 | 28=>125 | 24=>44 | 0=>0 | 3=>3 | 37=>152 | 48=>192 | 50=>194 | 4=>4 | 40=>185 | 39=>184 | 45=>189 | 5=>5 | 9=>9 | 51=>215 | 55=>219 | 57=>243 | 58=>244 | 33=>153 | n=>n,fun | n=>n⟩
theorem Tryz.sortedB:Go.Proofs.SlLaysZ.n6 Tryz.prog Tryz.sortedB_ren:={
 mixed:=by kernel_rfl
 f6:=⟨Tryz.f55.name,by decide,Tryz.func55.trans (congrArg some (by kernel_rfl))⟩
 f8:=⟨Tryz.f87.name,by decide,Tryz.func87.trans (congrArg some (by kernel_rfl))⟩
 f11:=⟨Tryz.f127.name,by decide,Tryz.func127.trans (congrArg some (by kernel_rfl))⟩
 t0:=Tryz.underlying0
 a0:=Tryz.isAgg0
 z0:=Tryz.sizeOf0
 v0:=Tryz.zeroValue0
 t24:=Tryz.underlying44
 a24:=Tryz.isAgg44
 z24:=Tryz.sizeOf44
 v24:=Tryz.zeroValue44
 t26:=Tryz.underlying9
 a26:=Tryz.isAgg9
 z26:=Tryz.sizeOf9
 v26:=Tryz.zeroValue9
 t28:=Tryz.underlying125
 a28:=Tryz.isAgg125
 z28:=Tryz.sizeOf125
 v28:=Tryz.zeroValue125
 i26:=by kernel_rfl}
def Tryz.sortB_ren:Go.Shelf.Ren:=⟨fun | 6=>88 | 8=>82 | 9=>128 | 19=>124 | 20=>125 | 21=>155 | 22=>156 | 23=>157 | 24=>158 | 25=>159 | 26=>160 | 27=>161 | 28=>162 | 29=>163 | 36=>178 | 31=>151 | 32=>152 | 37=>179 | 38=>180 | 39=>83 | 41=>193 | n=>n,fun | 27=>44 | 29=>9 | 3=>3 | 32=>152 | 26=>44 | 0=>0 | 44=>192 | 46=>194 | 4=>4 | 36=>185 | 35=>184 | 41=>189 | 5=>5 | 9=>9 | 53=>215 | 57=>219 | 63=>243 | 64=>244 | n=>n,fun | n=>n⟩
theorem Tryz.sortB:Go.Proofs.SlLaysM.n6 Tryz.prog Tryz.sortB_ren:={
 mixed:=by kernel_rfl
 f6:=⟨Tryz.f88.name,by decide,Tryz.func88.trans (congrArg some (by kernel_rfl))⟩
 f8:=Tryz.func82.trans (congrArg some (by kernel_rfl))
 f9:=⟨Tryz.f128.name,by decide,Tryz.func128.trans (congrArg some (by kernel_rfl))⟩
 f19:=Tryz.func124.trans (congrArg some (by kernel_rfl))
 f20:=Tryz.func125.trans (congrArg some (by kernel_rfl))
 f21:=⟨Tryz.f155.name,by decide,Tryz.func155.trans (congrArg some (by kernel_rfl))⟩
 f22:=⟨Tryz.f156.name,by decide,Tryz.func156.trans (congrArg some (by kernel_rfl))⟩
 f23:=⟨Tryz.f157.name,by decide,Tryz.func157.trans (congrArg some (by kernel_rfl))⟩
 f24:=⟨Tryz.f158.name,by decide,Tryz.func158.trans (congrArg some (by kernel_rfl))⟩
 f25:=⟨Tryz.f159.name,by decide,Tryz.func159.trans (congrArg some (by kernel_rfl))⟩
 f26:=⟨Tryz.f160.name,by decide,Tryz.func160.trans (congrArg some (by kernel_rfl))⟩
 f27:=⟨Tryz.f161.name,by decide,Tryz.func161.trans (congrArg some (by kernel_rfl))⟩
 f28:=⟨Tryz.f162.name,by decide,Tryz.func162.trans (congrArg some (by kernel_rfl))⟩
 f29:=⟨Tryz.f163.name,by decide,Tryz.func163.trans (congrArg some (by kernel_rfl))⟩
 f31:=Tryz.func151.trans (congrArg some (by kernel_rfl))
 f32:=Tryz.func152.trans (congrArg some (by kernel_rfl))
 f36:=⟨Tryz.f178.name,by decide,Tryz.func178.trans (congrArg some (by kernel_rfl))⟩
 f37:=⟨Tryz.f179.name,by decide,Tryz.func179.trans (congrArg some (by kernel_rfl))⟩
 f38:=⟨Tryz.f180.name,by decide,Tryz.func180.trans (congrArg some (by kernel_rfl))⟩
 f39:=⟨Tryz.f83.name,by decide,Tryz.func83.trans (congrArg some (by kernel_rfl))⟩
 f41:=⟨Tryz.f193.name,by decide,Tryz.func193.trans (congrArg some (by kernel_rfl))⟩
 t0:=Tryz.underlying0
 a0:=Tryz.isAgg0
 z0:=Tryz.sizeOf0
 v0:=Tryz.zeroValue0
 t3:=Tryz.underlying3
 a3:=Tryz.isAgg3
 z3:=Tryz.sizeOf3
 v3:=Tryz.zeroValue3
 t4:=Tryz.underlying4
 a4:=Tryz.isAgg4
 z4:=Tryz.sizeOf4
 v4:=Tryz.zeroValue4
 t5:=Tryz.underlying5
 a5:=Tryz.isAgg5
 z5:=Tryz.sizeOf5
 v5:=Tryz.zeroValue5
 t9:=Tryz.underlying9
 a9:=Tryz.isAgg9
 z9:=Tryz.sizeOf9
 v9:=Tryz.zeroValue9
 t26:=Tryz.underlying44
 a26:=Tryz.isAgg44
 z26:=Tryz.sizeOf44
 v26:=Tryz.zeroValue44
 t27:=Tryz.underlying44
 a27:=Tryz.isAgg44
 z27:=Tryz.sizeOf44
 v27:=Tryz.zeroValue44
 t29:=Tryz.underlying9
 a29:=Tryz.isAgg9
 z29:=Tryz.sizeOf9
 v29:=Tryz.zeroValue9
 t32:=Tryz.underlying152
 a32:=Tryz.isAgg152
 z32:=Tryz.sizeOf152
 v32:=Tryz.zeroValue152
 t35:=Tryz.underlying184
 a35:=Tryz.isAgg184
 z35:=Tryz.sizeOf184
 v35:=Tryz.zeroValue184
 t36:=Tryz.underlying185
 a36:=Tryz.isAgg185
 z36:=Tryz.sizeOf185
 v36:=Tryz.zeroValue185
 t41:=Tryz.underlying189
 a41:=Tryz.isAgg189
 z41:=Tryz.sizeOf189
 v41:=Tryz.zeroValue189
 t44:=Tryz.underlying192
 a44:=Tryz.isAgg192
 z44:=Tryz.sizeOf192
 v44:=Tryz.zeroValue192
 t46:=Tryz.underlying194
 a46:=Tryz.isAgg194
 z46:=Tryz.sizeOf194
 v46:=Tryz.zeroValue194
 t53:=Tryz.underlying215
 a53:=Tryz.isAgg215
 z53:=Tryz.sizeOf215
 v53:=Tryz.zeroValue215
 t57:=Tryz.underlying219
 a57:=Tryz.isAgg219
 z57:=Tryz.sizeOf219
 v57:=Tryz.zeroValue219
 t63:=Tryz.underlying243
 a63:=Tryz.isAgg243
 z63:=Tryz.sizeOf243
 v63:=Tryz.zeroValue243
 t64:=Tryz.underlying244
 a64:=Tryz.isAgg244
 z64:=Tryz.sizeOf244
 v64:=Tryz.zeroValue244}
end Go.Proofs
namespace Go.Proofs.YtdgehhgjgifikaaGreatDoor
open Go.RowKit Go.Maps Go.Sort Go.Shelf
theorem asc_uniq {l m:List Tx}(hl:l.Pairwise (· < ·))(hm:m.Pairwise (· < ·))(h:∀ x,x∈l↔x∈m):l=m:=by
 have nd:∀ {l:List Tx},l.Pairwise (· < ·)→l.Nodup:=fun h=>h.imp fun {a b} hab e=>by subst e;exact List.lt_irrefl _ hab
 exact List.Perm.eq_of_pairwise (le:=(· < ·)) (fun a b _ _ h1 h2=>absurd h2 (List.lt_asymm h1)) hl hm ((List.perm_ext_iff_of_nodup (nd hl) (nd hm)).2 h)
theorem xX0 {l:List Tx}(x:Tx)(hl:l.Pairwise (· < ·)):(insU l x).Pairwise (· < ·)∧∀ y,y∈insU l x↔y=x∨y∈l:=by
 unfold insU
 have hb:(fun y:Tx=>Op.bytesLess y x)=fun y=>decide (y < x):=funext fun y=>bytesLess_eq y x
 rw[hb]
 have hL:=List.takeWhile_append_dropWhile (p:=fun y:Tx=>decide (y < x)) (l:=l)
 by_cases hh:(l.dropWhile fun y=>decide (y < x)).head? = some x
 ·rw[if_pos hh]
  refine⟨hl,fun y=>⟨fun h=>.inr h,fun h=>?_⟩⟩
  rcases h with rfl | h
  ·rw[←hL]
   exact List.mem_append_right _ (List.mem_of_mem_head? hh)
  ·exact h
 ·rw[if_neg hh]
  have hp:=hl
  rw[←hL,List.pairwise_append] at hp
  have htake:∀ a∈l.takeWhile (fun y=>decide (y < x)),a < x:=fun a ha=>of_decide_eq_true (zR5 (p:=fun y:Tx=>decide (y < x)) _ _ ha)
  have hdrop:∀ b∈l.dropWhile (fun y=>decide (y < x)),x < b:=by
   intro b hbm
   cases hd:l.dropWhile (fun y=>decide (y < x)) with
   | nil=>rw[hd] at hbm;cases hbm
   | cons q r=>
     have h0:¬ q < x:=of_decide_eq_false (zP5 (p:=fun y:Tx=>decide (y < x)) _ _ _ hd)
     have h1:x < q:=by
      rcases Decidable.em (x < q) with h | h
      ·exact h
      ·rw[hd] at hh
       exact absurd (congrArg some (List.le_antisymm (by simpa using h) (by simpa using h0))) hh
     rw[hd] at hbm hp
     rcases List.mem_cons.1 hbm with rfl | hbm
     ·exact h1
     ·exact List.lt_trans h1 ((List.pairwise_cons.1 hp.2.1).1 b hbm)
  refine⟨?_,fun y=>?_⟩
  ·rw[List.pairwise_append]
   refine⟨hp.1,List.pairwise_cons.2 ⟨hdrop,hp.2.1⟩,fun a ha b hb=>?_⟩
   rcases List.mem_cons.1 hb with rfl | hb
   ·exact htake a ha
   ·exact List.lt_trans (htake a ha) (hdrop b hb)
  ·rw[List.mem_append,List.mem_cons]
   constructor
   ·rintro(h | h | h)
    ·exact .inr (by rw[←hL];exact List.mem_append_left _ h)
    ·exact .inl h
    ·exact .inr (by rw[←hL];exact List.mem_append_right _ h)
   ·rintro(h | h)
    ·exact .inr (.inl h)
    ·rw[←hL] at h
     rcases List.mem_append.1 h with h | h
     ·exact .inl h
     ·exact .inr (.inr h)
theorem yX4:∀ (xs:List Tx)(acc:List Tx),acc.Pairwise (· < ·)→(xs.foldl insU acc).Pairwise (· < ·)∧∀ y,y∈xs.foldl insU acc↔y∈xs∨y∈acc
 | [],acc,h=>⟨h,fun y=>by simp⟩
 | x ::xs,acc,h=>by
   obtain⟨h1,h2⟩:=xX0 x h
   obtain⟨h3,h4⟩:=yX4 xs (insU acc x) h1
   refine⟨h3,fun y=>?_⟩
   rw[List.foldl_cons,h4,h2,List.mem_cons]
   constructor
   ·rintro(h | h | h)
    ·exact .inl (.inr h)
    ·exact .inl (.inl h)
    ·exact .inr h
   ·rintro((h | h) | h)
    ·exact .inr (.inl h)
    ·exact .inl h
    ·exact .inr (.inr h)
theorem yL9 {ss:List Tx}{xs:List Tx}(hn:ss.Nodup)(hm:∀ y,y∈ss↔y∈xs):ss.mergeSort (fun x y=>decide (x≤y))=xs.foldl insU []:=by
 have tr:∀ a b c:Tx,decide (a≤b)=true→decide (b≤c)=true→decide (a≤c)=true:=fun a b c h1 h2=>by simp only[decide_eq_true_eq] at *;exact List.le_trans h1 h2
 have htot:∀ a b:Tx,(decide (a≤b)||decide (b≤a))=true:=fun a b=>by simp only[Bool.or_eq_true,decide_eq_true_eq];exact List.le_total a b
 have hsorted:=List.pairwise_mergeSort tr htot ss
 have hperm:=List.mergeSort_perm ss (fun x y=>decide (x≤y))
 obtain⟨h1,h2⟩:=yX4 xs [] List.Pairwise.nil
 refine asc_uniq ((hsorted.and (hperm.nodup_iff.2 hn)).imp fun {p q} h=>?_) h1 fun y=>by rw[hperm.mem_iff,hm,h2];simp
 rcases Decidable.em (p < q) with h3 | h3
 ·exact h3
 ·exact absurd (List.le_antisymm (of_decide_eq_true h.1) (by simpa using h3)) h.2
theorem yK0 {b n:Nat}{f:Tx→Option Value}{w:World}(h:OMap KS w b n f):Calls Tryz.prog 54 #[.map (some b)] w fun e w'=>e=.returned (.map (some w.heap.size))∧OMap KS w' w.heap.size n f∧Below w.heap.size w w':=by
 obtain⟨D,h1,h2⟩:=h
 refine(AnyW.maps_Clone_owns Tryz.cloneMp 9 Rv b n D w h1).mono ?_
 rintro e w' ⟨rfl,h3,_,h5⟩
 exact⟨rfl,⟨D,h3,h2⟩,h5⟩
theorem sortsB (m:Nat):AnyZ.SortsIn Tryz.prog Tryz.sortedB_ren Fence.wide m:=
 ⟨fun blk off cap ss W hH hblk hsz=>callsIn_wide.2 (AnyM.slices_Sort_string Tryz.sortB blk off cap ss W hH hblk hsz),
  fun p cap W=>callsIn_wide.2 (AnyM.slices_Sort_string_none Tryz.sortB p cap W)⟩
theorem xX1 (mb:Option Nat)(W:World):Calls Tryz.prog 56 #[.map mb] W fun e w'=>e=.returned (.func (.func 89) #[] #[.pointer (some ⟨W.heap.size,0,none⟩)])∧w'=W.alloc (.cells #[.map mb] 103):=
 callsIn_wide.1 (AnyZ.keys_in Tryz.keysB Fence.wide 5 trivial rfl mb W)
set_option maxHeartbeats 1000000 in
theorem yK1 {H:Type}(b nn:Nat)(D0:DataW H)(R:Value→Option (DataW H × List MemPlace))(w:World)(hown:w.ownsMap Tryz.prog 9 R b nn D0)(hmax:Maps.size D0≤maxLen)(hbytes:Maps.size D0*16≤140737488355328) :
  Calls Tryz.prog 55 #[.func (.func 89) #[] #[.pointer (some ⟨w.heap.size,0,none⟩)]] (w.alloc (.cells #[.map (some b)] 103)) fun e w'=>∃ (v:Value) (ss:List (List UInt8)),e=.returned v∧ss.Perm (strKeys D0)∧
   w'.ownsRow (w.alloc (.cells #[.map (some b)] 103)).heap.size 9 1 v ss.length ((ss.mergeSort (fun x y=>decide (x≤y))).map encStr)∧(v=.slice none 0 0↔ss=[])∧Below (w.alloc (.cells #[.map (some b)] 103)).heap.size (w.alloc (.cells #[.map (some b)] 103)) w':=by
 have hbl:=hown.lt
 have hseq:SeqGives Fence.wide 2 Tryz.prog 89 #[.pointer (some ⟨w.heap.size,0,none⟩)] encStr (fun ss=>ss.Perm (strKeys D0)) (Maps.size D0) (w.alloc (.cells #[.map (some b)] 103)):=
  AnyZ.keys_gives (ρ:=Tryz.keysB_ren) {Tryz.keysB with} Fence.wide _ trivial rfl (by omega) w.heap.size b nn D0 _ (by simp) (by simp) (by
   obtain⟨es,clock,hb,Ft,hs,hD⟩:=hown
   exact⟨es,clock,(Below.heap_alloc _ _ b hbl).trans hb,Ft,hs,hD⟩)
 exact callsIn_wide.1 (AnyZ.sorted_in Tryz.sortedB Fence.wide 5 trivial trivial trivial trivial rfl (by omega) (sortsB _) (enters_of Tryz.func88 (by kernel_rfl) rfl) 89 #[.pointer (some ⟨w.heap.size,0,none⟩)] trivial (enters_of Tryz.func89 (by kernel_rfl) rfl) _ _ hmax hbytes _ hseq)
theorem yT9 {b n:Nat}{f:Tx→Option Value}{w:World}(xs:List Tx)(h:OMap KS w b n f)(hn:n≤1099511627776+1099511627776)(hx:∀ y∈xs,y.length≤maxLen)(hm:∀ y,(f y).isSome=true↔y∈xs) :
  Calls Tryz.prog 55 #[.func (.func 89) #[] #[.pointer (some ⟨w.heap.size,0,none⟩)]] (w.alloc (.cells #[.map (some b)] 103)) fun e w'=>∃ A c,e=.returned (.slice A (xs.foldl insU []).length c)∧Sl w' w'.heap.size 1 encS A (xs.foldl insU [])∧Below w.heap.size w w'∧∀ a,A=some a→w.heap.size≤a.block:=by
 obtain⟨D,h1,h2⟩:=h
 obtain⟨k1,k2,k3,k4⟩:=zF4 h1 h2
 have hsz:=h1.size_le
 refine(yK1 b n D Rv w h1 (by have:maxLen=9223372036854775807:=rfl;omega) (by omega)).mono ?_
 rintro e w' ⟨v,ss,rfl,hp,hrow,_,hb⟩
 have hs:ss.mergeSort (fun x y=>decide (x≤y))=xs.foldl insU []:=yL9 (hp.nodup_iff.2 k1) fun y=>by
  rw[hp.mem_iff]
  constructor
  ·intro hy
   exact(hm y).1 ((k3 y (k2 y hy)).1 hy)
  ·intro hy
   exact(k3 y (hx y hy)).2 ((hm y).2 hy)
 have hlen:ss.length=(xs.foldl insU []).length:=by rw[←hs,List.length_mergeSort]
 rw[hs,hlen] at hrow
 obtain⟨A,c,rfl⟩:=zV2 hrow
 have hrow2:w'.ownsRow (w.alloc (.cells #[.map (some b)] 103)).heap.size 9 1 (.slice A (xs.foldl insU []).length c) (xs.foldl insU []).length ((xs.foldl insU []).flatMap encS):=by
  have e:(xs.foldl insU []).map encStr=(xs.foldl insU []).flatMap encS:=by
   induction (xs.foldl insU []) with
   | nil=>rfl
   | cons x l ih=>rw[List.map_cons,ih,List.flatMap_cons];rfl
  rw[←e]
  exact hrow
 obtain⟨_,hSl⟩:=zO1 (k:=1) (enc:=encS) (fun _=>rfl) (.inl hrow2) (by decide)
 refine⟨A,c,rfl,hSl,((Below.refl w.heap.size w).alloc (Nat.le_refl _) _).trans (hb.mono (by simp)),fun a ha=>?_⟩
 subst ha
 have:=(hrow2.lt a.block rfl).1
 simp at this
 omega
def zN8 (rx:Tx→Bool)(p:Pk):List Tx × Int:=if errP rx p≠0 then([],errP rx p) else(((zT5 p.files).1++(zT5 p.files).2).foldl insU [],0)
def zI8 (ts:List Tx)(err:Int)(w:World)(e:Ending)(w':World):Prop:=
 ∃ A c,e=.returned (.tuple #[.slice A ts.length c,.int .i64 err])∧Sl w' w'.heap.size 1 encS A ts∧Below w.heap.size w w'
theorem yD4 {w:World}{B:Nat}{l:List DA}(h:OkAds w B l):∀ x∈zY2 l,x.length≤maxLen:=fun x hx=>by
 unfold zY2 zL3 at hx
 rw[zY7] at hx
 obtain⟨d,hd,e⟩:=List.mem_filterMap.1 hx
 obtain⟨da,hda,rfl⟩:=List.mem_map.1 hd
 have h1:=OkAds.at_ h hda
 split at e
 ·injection e with e
  subst e
  cases da with
  | mk=>exact h1.1.1
 ·cases e
theorem yD5 {w:World}{B:Nat}{p:PA}(h:∀ f∈p.files,OkF w B f):(∀ x∈zW5 p.files,x.length≤maxLen)∧∀ x∈zZ8 p.files,x.length≤maxLen:=by
 refine⟨fun x hx=>?_,fun x hx=>?_⟩
 ·obtain⟨f,hf,hx⟩:=List.mem_flatMap.1 hx
  exact yD4 (h f hf).trees x hx
 ·unfold zZ8 zI4 at hx
  obtain⟨d,hd,e⟩:=List.mem_map.1 hx
  obtain⟨f,hf,hd2⟩:=List.mem_flatMap.1 hd
  exact e▸yX0 (h f hf).trees _ (List.mem_map.2 ⟨d,hd2,rfl⟩)
set_option maxRecDepth 100000 in
set_option maxHeartbeats 4000000 in
theorem yO3 (rx:Tx→Bool)(p:PA)(w:World)(hP:PkL w p)(hR:∀ f∈p.files,PatDs (RxOk rx) (plDs f.decls))(hG:Glob w)(hs:(∀ f∈p.files,errF rx (plF f)=0)→wF p.files+(0+(p.files.map fun f=>vDs f.decls).sum)≤1099511627776) :
  Calls Tryz.prog 21 #[.agg #[.string ⟨p.path.toArray⟩,.slice p.A p.files.length p.c]] w (zI8 (zN8 rx (plP p)).1 (zN8 rx (plP p)).2 w):=by
 have hbw:=(Below.refl w.heap.size w).alloc (Nat.le_refl _) (.cells #[.string ⟨p.path.toArray⟩,.slice p.A p.files.length p.c] 24)
 have HB0:=Lib.hid (Blk.new w 24 #[.string ⟨p.path.toArray⟩,.slice p.A p.files.length p.c])
 have HW:=Lib.hid hbw
 have cL:=Lib.hid (yU4 rx p 0 (w.alloc (.cells #[.string ⟨p.path.toArray⟩,.slice p.A p.files.length p.c] 24)) (hP.keep hbw) hR (hG.keep hbw) hs)
 have HNm:=Lib.hid (yD5 hP.ok.each)
 have HLn:=Lib.hid (show (zW5 p.files).length≤p.files.length*1048576∧(zZ8 p.files).length≤p.files.length*1048576∧p.files.length≤1048576 from⟨by have h:=yP3 hP p.files.length;rw[List.take_length] at h;exact h,by
  have h:=zG4 hP p.files.length (List.replicate (zZ8 p.files).length 0)
  rw[List.take_length,List.length_zip,List.length_replicate,Nat.min_self] at h
  exact h,hP.nf⟩)
 clear hP hR hG hs hbw
 go_enter Tryz.func21,Tryz.ntmps21
 go_upto_region 1 with fail
 generalize w.alloc (.cells #[.string ⟨p.path.toArray⟩,.slice p.A p.files.length p.c] 24)=w1 at HB0 HW cL ⊢
 have b0:=HB0.out.cell 0
 have b1:=HB0.out.cell 1
 go_wp2_with fail
 refine cL.out.mono ?_
 rintro e w2 ⟨hb2,h⟩
 clear b0 b1 cL
 have HB2:=Lib.hid hb2
 rcases h with ⟨h0,rfl⟩ | ⟨h0,hok,R,σ0,σ,env,rs,hRt,hV,h⟩
 ·have HE:=Lib.hid (zI7 h0)
  have H0:=Lib.hid h0
  generalize zV0 rx p=ee at h0 HE H0 ⊢
  have HR:=Lib.hid (show zI8 (zN8 rx (plP p)).1 (zN8 rx (plP p)).2 w (.returned (.tuple #[.slice none 0 0,.int .i64 ee])) w2 from by
   have e:zN8 rx (plP p)=([],ee):=by unfold zN8;rw[if_pos (by rw[HE.out];exact H0.out),HE.out]
   rw[e]
   exact⟨none,0,rfl,.inl rfl,HW.out.trans (HB2.out.mono HW.out.size)⟩)
  go_wp2
  refine bodyPost_ret (v:=.tuple #[.slice none 0 0,.int .i64 ee]) (by simp[results,Tryz.results21,go_sem]) rfl HR.out
 ·have ht:=zP2 hRt hV
  have hE:=zN4 h0
  rw[←ht] at hE
  rcases h with ⟨h6,rfl⟩ | ⟨h6,rfl,Im,hO⟩
  ·rw[h6,if_pos rfl] at hE
   have HR:=Lib.hid (show zI8 (zN8 rx (plP p)).1 (zN8 rx (plP p)).2 w (.returned (.tuple #[.slice none 0 0,.int .i64 6])) w2 from by
    have e:zN8 rx (plP p)=([],6):=by unfold zN8;rw[if_pos (by rw[hE];decide),hE]
    rw[e]
    exact⟨none,0,rfl,.inl rfl,HW.out.trans (HB2.out.mono HW.out.size)⟩)
   clear h0 hok hRt hV ht hE h6 hb2
   go_wp2
   refine bodyPost_ret (v:=.tuple #[.slice none 0 0,.int .i64 6]) (by simp[results,Tryz.results21,go_sem]) rfl HR.out
  ·rw[h6,if_neg (by decide)] at hE
   obtain⟨bF,bL,henv⟩:=hRt.ev
   have hsh:=(yX3 hRt).1
   have HE:=Lib.hid (show zN8 rx (plP p)=((zW5 p.files++zZ8 p.files).foldl insU [],0) from by
    unfold zN8
    rw[if_neg (by rw[hE];decide)]
    have e:(plP p).files=p.files.map plF:=rfl
    rw[e,zG6])
   have hlen:(zZ8 p.files).length=(σ0.ρ.objs.map (·.blk)).length:=by
    have:=congrArg List.length hRt.o2
    rw[List.length_map] at this
    rw[List.length_map,this,zZ8,List.length_map,←zI5 p.files 0,List.length_map]
   have hen:=hO.en.1
   rw[henv] at hen
   obtain⟨_,_,_,_,_,hOF,hOL,ov,hSc,_⟩:=hen
   have hrc:=hO.st.rs.rc
   have r2:=hrc.cell 2
   have HSc:=Lib.hid (show Blk w2 R.root 122 #[.map (some bF),.map (some bL),ov,.int .i64 0] from hSc)
   have s0:=HSc.out.cell 0
   have HRc:=Lib.hid hrc
   generalize σ0.ρ.objs.map (·.blk)=bs at henv hOL hlen
   have HOF:=Lib.hid (show OMap KS w2 bF (zW5 p.files).length (fF (zW5 p.files)) from hOF)
   have HOL:=Lib.hid (show OMap KS w2 bL ((zZ8 p.files).zip bs).length (fL ((zZ8 p.files).zip bs)) from hOL)
   have HBL:=Lib.hid (show bL < w2.heap.size from HOL.out.lt)
   have HMl:=Lib.hid (show ∀ y,(fL ((zZ8 p.files).zip bs) y).isSome=true↔y∈zZ8 p.files from fun y=>by
    unfold fL
    rw[Option.isSome_map,Option.isSome_iff_exists,zN2,List.map_fst_zip (by omega)])
   clear h0 hok hRt hV ht hE h6 hb2 hO henv hsh hlen hOF hOL hSc hrc
   have cC:=yK0 HOF.out
   go_upto_region 5 with (refine cC.mono ?_;rintro e w3 ⟨rfl,hO3,hb3⟩)
   clear r2 s0 cC
   have HB3:=Lib.hid hb3
   have r2:=(HRc.out.keep hb3).cell 2
   have s1:=(HSc.out.keep hb3).cell 1
   have hz3:w2.heap.size < w3.heap.size:=hO3.lt
   have HO3:=Lib.hid hO3
   obtain⟨w4,cnt,hrun4,hR4,hg4,hz4,hcn⟩:=(HOL.out.below hb3).range Tryz.underlying118
   have hrun4':(Instr.range 118 (.map (some bL))).run Tryz.prog w3=.ok (.pointer (some ⟨w3.heap.size,0,none⟩)) w4:=hrun4
   obtain⟨ri,hri⟩:∃ ri,ri=w3.heap.size:=⟨_,rfl⟩
   rw[←hri] at hrun4' hR4
   obtain⟨al,hal⟩:∃ al,al=w2.heap.size:=⟨_,rfl⟩
   rw[←hal] at HO3 ⊢
   have HRi:=Lib.hid (show al≠ri∧w2.heap.size≤al∧w2.heap.size≤ri from⟨by omega,by omega,by omega⟩)
   generalize hMP:fL ((zZ8 p.files).zip bs)=MP at HMl hR4
   have HB4:=Lib.hid (hb3.trans (((Below.refl w3.heap.size w3).grown hg4 (Nat.le_refl _) (by simp)).mono hb3.size))
   have R4:=Lib.hid (ORange.congr (S':=fun x=>(MP x).isSome&& !decide (x∈([]:List Tx))) hR4 (fun a=>by simp))
   have M4:=Lib.hid (show OMap KS w4 al ((zW5 p.files).length+([]:List Tx).length) (fF (zW5 p.files++ [])) from by
    rw[List.append_nil]
    exact HO3.out.keptK (M:=fun _=>False) ((Kp.refl _ w3).grown hg4 fun k hk=>by cases hk) id)
   have HCn:=Lib.hid (show ([]:List Tx).length+cnt≤((zZ8 p.files).zip bs).length from by simpa using hcn)
   have HLz:=Lib.hid (show ((zZ8 p.files).zip bs).length≤(zZ8 p.files).length from by rw[List.length_zip];exact Nat.min_le_left _ _)
   have HSc3:=Lib.hid (HSc.out.keep hb3)
   clear hrun4 hR4 hg4 hz4 hcn hMP hb3 hO3 hz3 hal HOL HOF HO3 hri
   go_upto_region 6 with fail
   clear r2 s1 hrun4'
   go_loopg [] cnt (fun g wx=>∃ V:List Tx,Hid (∀ x∈V,(MP x).isSome=true)∧Hid (V.length+g≤((zZ8 p.files).zip bs).length)∧Hid (OMap KS wx al ((zW5 p.files).length+V.length) (fF (zW5 p.files++V)))∧Hid (ORange KS wx bL ri ((zZ8 p.files).zip bs).length MP (fun x=>(MP x).isSome&& !decide (x∈V)) g)∧Hid (Below w2.heap.size w2 wx))
   case atStart=>exact⟨[],Lib.hid (by simp),HCn,M4,R4,HB4⟩
   case round=>
    clear HCn M4 R4 HB4
    obtain⟨V,HV,HC,HM,HR,HB⟩:=hrel
    rcases HR.out.next 0 with ⟨hg0,hl0,hrun⟩ | ⟨y,u,w5,cnt',hok,hSm,hf,hrun,hR5,hlt5,hg5,hz5,hen⟩
    ·have hmem:∀ y,(fF (zW5 p.files++V) y).isSome=true↔y∈zW5 p.files++zZ8 p.files:=fun y=>by
      unfold fF
      have h1:y∈V↔y∈zZ8 p.files:=by
       constructor
       ·intro h
        exact(HMl.out y).1 (HV.out y h)
       ·intro h
        have h2:=hl0 y (HNm.out.2 y h)
        rw[(HMl.out y).2 h,Bool.true_and] at h2
        simpa using h2
      by_cases hy:y∈zW5 p.files++V
      ·rw[if_pos hy]
       simp only[Option.isSome_some,true_iff,List.mem_append] at hy ⊢
       exact hy.imp id h1.1
      ·rw[if_neg hy]
       simp only[Option.isSome_none,Bool.false_eq_true,false_iff,List.mem_append] at hy ⊢
       exact fun h=>hy (h.imp id h1.2)
     have hcn:=HC.out
     have hnn:(zW5 p.files).length+V.length≤1099511627776+1099511627776:=by
      have h1:=HLn.out
      have h2:=HLz.out
      have h3:p.files.length*1048576≤1048576*1048576:=Nat.mul_le_mul_right _ h1.2.2
      omega
     have cK:=xX1 (some al) wr
     have cS0:=(yT9 (zW5 p.files++zZ8 p.files) HM.out hnn (fun y hy=>by
      rcases List.mem_append.1 hy with h | h
      ·exact HNm.out.1 y h
      ·exact HNm.out.2 y h) hmem)
     obtain⟨Lr,hLr⟩:∃ Lr,Lr=(zW5 p.files++zZ8 p.files).foldl insU []:=⟨_,rfl⟩
     rw[←hLr] at cS0
     have HLr:=Lib.hid hLr
     have cS:=Lib.hid cS0
     clear hLr cS0
     clear hmem hnn hcn hl0 hg0
     go_wp2_with (first
      | (refine cK.mono ?_;rintro e w6 ⟨rfl,rfl⟩)
      | (refine cS.out.mono ?_;rintro e w6 ⟨A6,c6,rfl,hS6,hb6,_⟩))
     have HR6:=Lib.hid (show zI8 (zN8 rx (plP p)).1 (zN8 rx (plP p)).2 w (.returned (.tuple #[.slice A6 Lr.length c6,.int .i64 0])) w6 from by
      rw[HE.out,←HLr.out]
      exact⟨A6,c6,rfl,hS6,(HW.out.trans (HB2.out.mono HW.out.size)).trans ((HB.out.trans (hb6.mono HB.out.size)).mono (Nat.le_trans HW.out.size HB2.out.size))⟩)
     clear hS6 hb6 cK cS
     generalize Lr.length=n6 at HR6 ⊢
     go_wp2
     refine bodyPost_ret (v:=.tuple #[.slice A6 n6 c6,.int .i64 0]) (by simp[results,Tryz.results21,go_sem]) rfl HR6.out
    ·have hrun':(Instr.next (.pointer (some ⟨ri,0,none⟩)) false 0).run Tryz.prog wr=.ok (.tuple #[.bool true,.string ⟨y.toArray⟩,u]) w5:=hrun
     have hen':(Instr.entry (.pointer (some ⟨ri,0,none⟩))).run Tryz.prog w5=.ok (.tuple #[.string ⟨y.toArray⟩,u]) w5:=hen
     have hk5:Kp (· = ri) wr w5:=(Kp.refl _ wr).grown hg5 fun k hk=>.inl (by injection hk with hk;exact hk.symm)
     have hM5:=HM.out.keptK hk5 HRi.out.1
     have hcn:=HC.out
     have hlt:(zW5 p.files).length+V.length < maxLen:=by
      have h1:=HLn.out
      have h2:=HLz.out
      have h3:p.files.length*1048576≤1048576*1048576:=Nat.mul_le_mul_right _ h1.2.2
      have:maxLen=9223372036854775807:=rfl
      omega
     obtain⟨w6,hrun6,hO6,hg6⟩:=hM5.put Tryz.underlying103 hlt y hok (.bool true)
     have hrun6':(Instr.mapUpdate 103 (.map (some al)) (.string ⟨y.toArray⟩) (.bool true)).run Tryz.prog w5=.ok () w6:=hrun6
     have hk6:Kp (· = al) w5 w6:=(Kp.refl _ w5).grown hg6 fun k hk=>.inl (by injection hk with hk;exact hk.symm)
     have HB6:=Lib.hid ((HB.out.trans (hk5.toBelow HB.out.size fun b hb e=>by have:=HRi.out.2.2;omega)).trans (hk6.toBelow (Nat.le_trans HB.out.size hk5.size) fun b hb e=>by have:=HRi.out.2.1;omega))
     have R6:=Lib.hid (ORange.congr (S':=fun x=>(MP x).isSome&& !decide (x∈V++ [y])) (hR5.kept hg6 (by
      intro e
      injection e with e
      have h1:=HBL.out
      have h2:=HRi.out.2.1
      omega) (by intro e;injection e with e;exact HRi.out.1 e.symm)) (fun x=>by
      by_cases hx:x=y
      ·subst hx;simp
      ·simp[hx]))
     have M6:=Lib.hid (show OMap KS w6 al ((zW5 p.files).length+(V++ [y]).length) (fF (zW5 p.files++(V++ [y]))) from by
      have e:(zW5 p.files).length+(V++ [y]).length=(zW5 p.files).length+V.length+1:=by rw[List.length_append];rfl
      rw[e]
      refine hO6.congr fun x _=>?_
      unfold fF
      by_cases hx:x=y
      ·subst hx;simp
      ·simp[hx])
     have HV6:=Lib.hid (show ∀ x∈V++ [y],(MP x).isSome=true from fun x hx=>by
      rcases List.mem_append.1 hx with h1 | h1
      ·exact HV.out x h1
      ·rw[List.mem_singleton.1 h1,hf];rfl)
     have HC6:=Lib.hid (show (V++ [y]).length+cnt'≤((zZ8 p.files).zip bs).length from by rw[List.length_append,List.length_singleton];omega)
     clear hrun hen hR5 hg5 hf hz5 hrun6 hO6 hg6 hk5 hk6 hM5 hlt hcn hSm hok
     go_wp2
     go_roundg cnt'
     case measure=>exact hlt5
     case rel=>exact⟨V++ [y],HV6,HC6,M6,R6,HB6⟩
end Go.Proofs.YtdgehhgjgifikaaGreatDoor
