/- What the claim needs of:OA. -/
import Derived.Test.YtdgehhgjgifikaaGreatDoorK23
namespace Go.Proofs.YtdgehhgjgifikaaGreatDoor
structure UOk (im:List (List Tx))(rt:List Tx × List Tx)(u:Us):Prop where
 inner:u.kind=1∨u.kind=2→0≤u.depth∧(u.depth=0→u.name∈rt.1++rt.2)
 outer:¬ (u.kind=1∨u.kind=2)→u.depth=0
 pkg:u.kind=4→u.name∉rt.1++rt.2∧u.name∈im.getD u.file.toNat []
 unk:u.kind=0→u.name∉rt.1++rt.2∧u.name∉im.getD u.file.toNat []
theorem yV1 (s:Tx)(rt:List Tx × List Tx):∀ env:Shp,env.getLast? = some rt→((zK7 s env).1=0∧(zK7 s env).2=0∧s∉rt.1++rt.2)∨(((zK7 s env).1=1∨(zK7 s env).1=2)∧0≤(zK7 s env).2∧((zK7 s env).2=0→s∈rt.1++rt.2))
 | [],h=>by cases h
 | [x],h=>by
   have hx:x=rt:=by simpa using h
   subst hx;unfold zK7;by_cases h2:s∈x.2
   ·rw[if_pos h2];exact .inr ⟨.inr rfl,Int.le_refl _,fun _=>List.mem_append_right _ h2⟩
   ·rw[if_neg h2];by_cases h1:s∈x.1
    ·rw[if_pos h1];exact .inr ⟨.inl rfl,Int.le_refl _,fun _=>List.mem_append_left _ h1⟩
    ·rw[if_neg h1];exact .inl ⟨rfl,rfl,fun h=>(List.mem_append.1 h).elim h1 h2⟩
 | x ::y ::r,h=>by
   have ih:=yV1 s rt (y ::r) (by simpa using h);rw[zK7];by_cases h2:s∈x.2
   ·rw[if_pos h2];refine .inr ⟨.inr rfl,by show (0:Int)≤((y ::r).length:Int);omega,fun h=>?_⟩;have h:((y ::r).length:Int)=0:=h;simp only[List.length_cons] at h;omega
   ·rw[if_neg h2];by_cases h1:s∈x.1
    ·rw[if_pos h1];refine .inr ⟨.inl rfl,by show (0:Int)≤((y ::r).length:Int);omega,fun h=>?_⟩;have h:((y ::r).length:Int)=0:=h;simp only[List.length_cons] at h;omega
    ·rw[if_neg h1];exact ih
theorem useK_ok (im:List (List Tx))(rt:List Tx × List Tx)(env:Shp)(lp:List Tx)(file:Nat)(s:Tx)(pos:Int)(h:env.getLast? = some rt):UOk im rt (useK im env lp file s pos):=by
 have hf:=yV1 s rt env h;have e:(useK im env lp file s pos)=⟨file,pos,s,(resK (im.getD file []) env lp s).1,(resK (im.getD file []) env lp s).2⟩:=rfl;rw[e];have hfile:((file:Nat):Int).toNat=file:=by simp
 unfold resK;by_cases hlp:s∈lp
 ·rw[if_pos hlp];refine⟨fun h=>?_,fun _=>rfl,fun h=>?_,fun h=>?_⟩
  ·rcases h with h | h <;> cases h
  ·cases h
  ·cases h
 ·rw[if_neg hlp];rcases hf with ⟨h1,h2,h3⟩ | ⟨h1,h2,h3⟩
  ·rw[if_pos h1];by_cases hi:s∈im.getD file []
   ·rw[if_pos hi];refine⟨fun h=>?_,fun _=>rfl,fun _=>⟨h3,?_⟩,fun h=>?_⟩
    ·rcases h with h | h <;> cases h
    ·show s∈im.getD ((file:Nat):Int).toNat [];rw[hfile];exact hi
    ·cases h
   ·rw[if_neg hi];refine⟨fun h=>?_,fun _=>rfl,fun h=>?_,fun _=>⟨h3,?_⟩⟩
    ·rcases h with h | h <;> cases h
    ·cases h
    ·show s∉im.getD ((file:Nat):Int).toNat [];rw[hfile];exact hi
  ·have h0:¬ (zK7 s env).1=0:=by omega
   rw[if_neg h0];refine⟨fun _=>⟨h2,h3⟩,fun h=>absurd h1 h,fun h=>?_,fun h=>?_⟩
   ·have h:(zK7 s env).1=4:=h;omega
   ·have h:(zK7 s env).1=0:=h;omega
theorem uses_ok (im:List (List Tx))(rt:List Tx × List Tx) :
  (∀ e env lp file,env.getLast? = some rt→∀ u∈uE im e env lp file,u.file=(file:Nat)∧UOk im rt u)∧(∀ d env lp file,env.getLast? = some rt→∀ u∈uD im d env lp file,u.file=(file:Nat)∧UOk im rt u)∧
  (∀ l nm i env lp file,env.getLast? = some rt→∀ u∈uEs im nm i l env lp file,u.file=(file:Nat)∧UOk im rt u)∧∀ l env lp file,env.getLast? = some rt→∀ u∈uDs im l env lp file,u.file=(file:Nat)∧UOk im rt u:=by
 refine yV9 ?_ ?_ ?_ ?_ ?_ ?_
 ·intro k t n a b subs decls tail pos g1 g2 env lp file h u hu;rw[uE] at hu;split at hu
  ·rw[List.mem_singleton.1 hu];exact⟨rfl,useK_ok im rt env lp file t pos h⟩
  ·rcases List.mem_append.1 hu with hu | hu
   ·exact g1 _ _ _ _ _ h u hu
   ·refine g2 _ _ _ ?_ u hu;split
    ·rw[List.getLast?_cons,h];rfl
    ·exact h
 ·intro k p l a b subs body tail lead trail pos g1 g2 env lp file h u hu;rw[uD] at hu;rcases List.mem_append.1 hu with hu | hu
  ·exact g1 _ _ _ _ _ h u hu
  ·exact g2 _ _ _ h u hu
 ·intro nm i env lp file h u hu;rw[uEs] at hu;cases hu
 ·intro e l g1 g2 nm i env lp file h u hu;rw[uEs] at hu;rcases List.mem_append.1 hu with hu | hu
  ·exact g1 _ _ _ h u hu
  ·exact g2 _ _ _ _ _ h u hu
 ·intro env lp file h u hu;rw[uDs] at hu;cases hu
 ·intro d l g1 g2 env lp file h u hu;rw[uDs] at hu;rcases List.mem_append.1 hu with hu | hu
  ·exact g1 _ _ _ h u hu
  ·exact g2 _ _ _ h u hu
def stI (l:List Us)(x:Us):List Us:=l.takeWhile (fun y=>decide (y.pos≤x.pos))++x ::l.dropWhile fun y=>decide (y.pos≤x.pos)
theorem xT0 (l:List Us)(x y:Us):y∈stI l x↔y=x∨y∈l:=by
 unfold stI;rw[List.mem_append,List.mem_cons];have h:y∈l↔y∈l.takeWhile (fun y=>decide (y.pos≤x.pos))∨y∈l.dropWhile fun y=>decide (y.pos≤x.pos):=by
  rw[←List.mem_append,List.takeWhile_append_dropWhile]
 rw[h];constructor
 ·rintro(h | h | h)
  ·exact .inr (.inl h)
  ·exact .inl h
  ·exact .inr (.inr h)
 ·rintro(h | h | h)
  ·exact .inr (.inl h)
  ·exact .inl h
  ·exact .inr (.inr h)
theorem yV2:∀ (l:List Us)(x:Us),l.Pairwise (fun a b=>a.pos≤b.pos)→(stI l x).Pairwise fun a b=>a.pos≤b.pos
 | [],x,_=>by simp[stI]
 | y ::l,x,h=>by
   rw[List.pairwise_cons] at h;by_cases hy:y.pos≤x.pos
   ·have e:stI (y ::l) x=y ::stI l x:=by
     unfold stI;rw[List.takeWhile_cons_of_pos (by simpa using hy),List.dropWhile_cons_of_pos (by simpa using hy),List.cons_append]
    rw[e,List.pairwise_cons];refine⟨fun z hz=>?_,yV2 l x h.2⟩;rcases(xT0 l x z).1 hz with rfl | hz
    ·exact hy
    ·exact h.1 z hz
   ·have e:stI (y ::l) x=x ::y ::l:=by
     unfold stI;rw[List.takeWhile_cons_of_neg (by simpa using hy),List.dropWhile_cons_of_neg (by simpa using hy),List.nil_append]
    rw[e,List.pairwise_cons,List.pairwise_cons];refine⟨fun z hz=>?_,h⟩;rcases List.mem_cons.1 hz with rfl | hz
    ·omega
    ·have:=h.1 z hz;omega
theorem yV3:∀ (xs l:List Us),l.Pairwise (fun a b=>a.pos≤b.pos)→(xs.foldl stI l).Pairwise (fun a b=>a.pos≤b.pos)∧∀ y,y∈xs.foldl stI l↔y∈xs∨y∈l
 | [],l,h=>⟨h,fun y=>by simp⟩
 | x ::xs,l,h=>by
   rw[List.foldl_cons];obtain⟨h1,h2⟩:=yV3 xs (stI l x) (yV2 l x h);refine⟨h1,fun y=>?_⟩;rw[h2,xT0,List.mem_cons];constructor
   ·exact xZ
   ·exact xY
theorem stU_ok (l:List Us):(stU l).Pairwise (fun a b=>a.pos≤b.pos)∧∀ y,y∈stU l↔y∈l:=by
 obtain⟨h1,h2⟩:=yV3 l [] List.Pairwise.nil;exact⟨h1,fun y=>(h2 y).trans (by simp)⟩
def ordU (a b:Us):Prop:=a.file < b.file∨(a.file=b.file∧a.pos≤b.pos)
theorem xT1 (fs:List Fl):∀ (l:List Fl)(i:Nat),(∀ u∈usFs fs i l,(i:Int)≤u.file∧u.file < ((i+l.length:Nat):Int)∧UOk (zM7 fs) (zY5 fs) u)∧(usFs fs i l).Pairwise ordU
 | [],i=>⟨(fun u h=>by cases h),List.Pairwise.nil⟩
 | f ::l,i=>by
   obtain⟨h1,h2⟩:=xT1 fs l (i+1);have h3:=stU_ok (uDs (zM7 fs) f.decls [zY5 fs] [] i);have h4:∀ u∈stU (uDs (zM7 fs) f.decls [zY5 fs] [] i),u.file=(i:Nat)∧UOk (zM7 fs) (zY5 fs) u:=fun u hu=>(uses_ok (zM7 fs) (zY5 fs)).2.2.2 f.decls [zY5 fs] [] i rfl u ((h3.2 u).1 hu);rw[usFs];refine⟨fun u hu=>?_,?_⟩
   ·rw[List.length_cons];rcases List.mem_append.1 hu with hu | hu
    ·have:=h4 u hu;exact⟨by omega,by omega,this.2⟩
    ·have:=h1 u hu;exact⟨by omega,by omega,this.2.2⟩
   ·rw[List.pairwise_append];refine⟨h3.1.imp_of_mem fun {a b} ha hb h=>.inr ⟨by rw[(h4 a ha).1,(h4 b hb).1],h⟩,h2,fun a ha b hb=>.inl ?_⟩;have:=(h4 a ha).1;have:=(h1 b hb).1;omega
def xT2 (fs:List Fl)(names:List Tx)(u:Us):Bool:=
 (if u.kind=1∨u.kind=2 then decide (0≤u.depth)&&(!decide (u.depth=0)||decide (u.name∈names)) else decide (u.depth=0)) &&
 ((!decide (u.kind=4)||(!decide (u.name∈names)&&decide (u.name∈(zM7 fs).getD u.file.toNat [])))&&(!decide (u.kind=0)||(!decide (u.name∈names)&& !decide (u.name∈(zM7 fs).getD u.file.toNat []))))
theorem yA5 (fs:List Fl)(x:Tx):x∈((zY5 fs).1++(zY5 fs).2).foldl insU []↔x∈(zY5 fs).1++(zY5 fs).2:=by
 rw[(zE5 _ [] List.Pairwise.nil).2];simp
theorem kinds_ok (rx:Tx→Bool)(p:Pk)(h:errP rx p=0):(∀ u∈(zT0 rx p).1,0≤u.file∧u.file < (p.files.length:Int)∧xT2 p.files (zR0 rx p).1 u=true)∧(zT0 rx p).1.Pairwise ordU:=by
 obtain⟨h1,h2⟩:=xT1 p.files p.files 0;unfold zT0 zR0;rw[if_neg qG,if_neg qG];refine⟨fun u hu=>?_,h2⟩;obtain⟨g1,g2,g3⟩:=h1 u hu;refine⟨by omega,by omega,?_⟩;have hr:=yA5 p.files u.name;show xT2 p.files (((zY5 p.files).1++(zY5 p.files).2).foldl insU []) u=true;unfold xT2;simp only[hr];rw[Bool.and_eq_true,Bool.and_eq_true];refine⟨?_,?_,?_⟩
 ·split
  ·rename_i hk;have:=g3.inner hk;simp only[Bool.and_eq_true,decide_eq_true_eq,Bool.or_eq_true,Bool.not_eq_true',decide_eq_false_iff_not];refine⟨this.1,?_⟩;by_cases hd:u.depth=0
   ·exact .inr (this.2 hd)
   ·exact .inl hd
  ·rename_i hk;simpa using g3.outer hk
 ·by_cases hk:u.kind=4
  ·have:=g3.pkg hk;simp only[hk,decide_true,Bool.not_true,Bool.false_or,Bool.and_eq_true,Bool.not_eq_true',decide_eq_false_iff_not,decide_eq_true_eq];exact this
  ·simp[hk]
 ·by_cases hk:u.kind=0
  ·have:=g3.unk hk;simp only[hk,decide_true,Bool.not_true,Bool.false_or,Bool.and_eq_true,Bool.not_eq_true',decide_eq_false_iff_not];exact this
  ·simp[hk]
end Go.Proofs.YtdgehhgjgifikaaGreatDoor
