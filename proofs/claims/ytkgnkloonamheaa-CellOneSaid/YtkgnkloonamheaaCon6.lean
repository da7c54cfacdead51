/-
  Part 6 of 8.
-/
import Derived.Test.YtkgnkloonamheaaCon5
import Derived.Test.YtkgnkloonamheaaCon2
import Derived.Test.YtkgnkloonamheaaCon3
import Derived.Conc.WgGenN2
set_option linter.unusedVariables false
set_option linter.unusedSimpArgs false
namespace Go.Proofs.Ytkgnkloonamheaa
open Go Go.PB
attribute [local irreducible] Mo Bin Eql Tr Wo Ap Wle
attribute [local instance] Pass.of_no
section
abbrev coFn (tb cb7 s9 ib xb:Nat):Value:=.func (.func 27) #[] #[.pointer (some ⟨tb,0,none⟩),.pointer (some ⟨cb7,0,none⟩),.pointer (some ⟨s9,0,none⟩),.pointer (some ⟨ib,0,none⟩),.pointer (some ⟨xb,0,none⟩)]
structure CoRo (Ro:HProp) (tb cb7 s9 ib xb sb r fr nt k times tl tc v:Nat) (ta:Option Addr):Prop where
 h1:Rd [Ro] tb 0 (.int .u8 (times:Nat))
 h2:Rd [Ro] cb7 (0+0) (.pointer (some ⟨r,0,none⟩))
 h2':Rd [Ro] cb7 (0+1) (.pointer (some ⟨fr,0,none⟩))
 h3:Rd [Ro] s9 0 (.slice (some ⟨sb,0,none⟩) nt nt)
 h4:Rd [Ro] ib 0 (.int .i64 (k:Nat))
 h5:Rd [Ro] xb 0 (.slice ta tl tc)
 h6:k<tl→∃ b o,ta=some ⟨b,o,none⟩∧Rd [Ro] b (o+k) (.int .u64 (v:Nat))
 hC:Rd [Ro] r 0 (.bool true)
 hF:Rd [Ro] fr 0 (.bool true)
 hk:k<nt
 hn:nt≤6
 hm:times≤255
 hv:v<18446744073709551616
section
variable {B:Hand} [Lets B] {gv:Value} {S:Type} {x:S→B.X} {C:Nat→S→HProp} {C0:S→HProp} {J:List (Bool × Nat)→CoSt→Nat→S→Prop} {Ro:HProp} {F:List HProp} {tb cb7 s9 ib xb sb r fr nt k times tl tc v:Nat} {ta:Option Addr}
def coInv (gv:Value) (x:S→B.X) (C:Nat→S→HProp) (J:List (Bool × Nat)→CoSt→Nat→S→Prop) (tb cb7 s9 ib xb m:Nat) (l:List (Bool × Nat)) (Ro:HProp) (F:List HProp):PB.Inv (Nat × Nat × S) B.X where
 e:=fun i=>[(0,gv),(1,.pointer (some ⟨tb,0,none⟩)),(2,.pointer (some ⟨cb7,0,none⟩)),(3,.pointer (some ⟨s9,0,none⟩)),(4,.pointer (some ⟨ib,0,none⟩)),(5,.pointer (some ⟨xb,0,none⟩)),(7,.int .i64 (i.1:Nat))]
 L:=fun i=>C i.2.1 i.2.2::Ro::F
 x:=fun i=>x i.2.2
 ok:=fun i=>i.1≤m∧i.2.1≤i.1∧J (l.drop i.1) .a i.2.1 i.2.2
def coMid (gv:Value) (x:S→B.X) (C:Nat→S→HProp) (J:List (Bool × Nat)→CoSt→Nat→S→Prop) (tb cb7 s9 ib xb i:Nat) (l:List (Bool × Nat)) (st:CoSt) (Ro:HProp) (F:List HProp):PB.Inv (Nat × S) B.X where
 e:=fun z=>[(0,gv),(1,.pointer (some ⟨tb,0,none⟩)),(2,.pointer (some ⟨cb7,0,none⟩)),(3,.pointer (some ⟨s9,0,none⟩)),(4,.pointer (some ⟨ib,0,none⟩)),(5,.pointer (some ⟨xb,0,none⟩)),(7,.int .i64 (i:Nat))]
 L:=fun z=>C z.1 z.2::Ro::F
 x:=fun z=>x z.2
 ok:=fun z=>z.1≤i+1∧J l st z.1 z.2
set_option maxHeartbeats 4000000 in
theorem cot_tr {s0:S} (O:CoRo Ro tb cb7 s9 ib xb sb r fr nt k times tl tc v ta)
  (hop:∀ set s R h,Star (C set s::R) h→Star (coP sb k set::C0 s::R) h) (hsh:∀ set s R h,Star (coP sb k set::C0 s::R) h→Star (C set s::R) h)
  (hSet:∀ y rest set s R,J (y::rest) .a set s→Tr Try.prog B 28 [.pointer (some ⟨fr,0,none⟩),gv] (C set s::R) (x s) fun v L' x'=>∃ q s',J (if y.1=true then y::rest else rest) (if y.1=true then .b else .a) (if q=true then set+1 else set) s'∧v=.tuple #[.bool q,.int .i64 0]∧L'=C set s'::R∧x'=x s')
  (hMax:∀ y rest set s R,y.1=true→y.2<18446744073709551616→J (y::rest) .b set s→Tr Try.prog B 29 [.pointer (some ⟨r,0,none⟩),gv,.int .u64 (y.2:Nat)] (C set s::R) (x s) fun v L' x'=>∃ q s',J rest .a set s'∧v=.tuple #[.bool q,.int .i64 0]∧L'=C set s'::R∧x'=x s')
  (h0:J (coV (decide (k<tl)) v (1+times%20)) .a 0 s0) :
  Tr Try.prog B 27 [gv,.pointer (some ⟨tb,0,none⟩),.pointer (some ⟨cb7,0,none⟩),.pointer (some ⟨s9,0,none⟩),.pointer (some ⟨ib,0,none⟩),.pointer (some ⟨xb,0,none⟩)] (coP sb k 0::C0 s0::Ro::F) (x s0) fun v L' x'=>∃ set s',J [] .a set s'∧v=.tuple #[]∧L'=C set s'::Ro::F∧x'=x s':=by
 have hkn:=O.hk
 have hnt:=O.hn
 have htm:=O.hm
 have hv:=O.hv
 obtain ⟨m,hm⟩:∃ m,1+times%20=m:=⟨_,rfl⟩
 rw [hm] at h0
 have hm20:m≤20:=by omega
 have c1:IntKind.i64.wrap ((times:Nat):Int)=((times:Nat):Int):=wrap_i64 (by omega) (by omega)
 have c2:IntKind.i64.wrap (((times:Nat):Int).tmod 20)=((times%20:Nat):Int):=by rw [Int.tmod_eq_emod_of_nonneg (by omega)];exact (wrap_i64 (by omega) (by omega)).trans (by omega)
 have c2':((times:Nat):Int).tmod 20=((times%20:Nat):Int):=by rw [Int.tmod_eq_emod_of_nonneg (by omega)];omega
 have c3:IntKind.i64.wrap (1+((times%20:Nat):Int))=((m:Nat):Int):=(wrap_i64 (by omega) (by omega)).trans (by omega)
 refine tr_of_body Try.func27 rfl Try.ntmps27 (by simp) fun um Q _ hQ=>?_
 simp only [argE,Nat.zero_add,Nat.reduceAdd]
 have up1:∀ {c:HProp} {b o:Nat} {v:Value},Rd [Ro] b o v→Rd (c::Ro::F) b o v:=fun {c b o v} hr=>.there (Rd.of .here hr)
 have up2:∀ {c d:HProp} {b o:Nat} {v:Value},Rd [Ro] b o v→Rd (c::d::Ro::F) b o v:=fun {c d b o v} hr=>.there (.there (Rd.of .here hr))
 repeat (first | refine we_seq ?_ | (refine wR ?_;try simp only [oS]) | refine wo_nil ?_ | refine wA ?_ | refine we_block ?_)
 refine we_star (C 0 s0::Ro::F) (fun h st=>hsh _ _ _ _ st) ?_
 refine we_loopN (coInv gv x C J tb cb7 s9 ib xb m (coV (decide (k<tl)) v m) Ro F) (fun i=>m-i.1) (0,0,s0) ⟨Nat.zero_le _,Nat.le_refl _,h0⟩ ⟨rfl,rfl,rfl,rfl,rfl,rfl,rfl,trivial⟩ .refl rfl ?_
 clear h0
 rintro ⟨i,set,s⟩ ⟨hi,hset,hJ⟩
 dsimp only at hi hset hJ
 simp only [coInv]
 by_cases hlt:i<m
 ·obtain ⟨y2,hy2⟩:∃ y2,(v+18446744073709551616-i)%18446744073709551616=y2:=⟨_,rfl⟩
  obtain ⟨rest,hrest⟩:∃ rest,(coV (decide (k<tl)) v m).drop (i+1)=rest:=⟨_,rfl⟩
  rw [coV_drop hlt,hy2,hrest] at hJ
  have hy2l:y2<18446744073709551616:=by rw [← hy2];exact Nat.mod_lt _ (by decide)
  have w2:IntKind.u64.wrap (((v:Nat):Int)-((i:Nat):Int))=((y2:Nat):Int):=by rw [← hy2];exact subm (by omega)
  have w1:IntKind.u64.wrap ((i:Nat):Int)=((i:Nat):Int):=wrap_u64 (by omega) (by omega)
  have w3:IntKind.i64.wrap (((i:Nat):Int)+1)=((i+1:Nat):Int):=(wrap_i64 (by omega) (by omega)).trans (by omega)
  have w4:IntKind.i64.wrap (((set:Nat):Int)+1)=((set+1:Nat):Int):=(wrap_i64 (by omega) (by omega)).trans (by omega)
  repeat (first | (apply wo_po;apply mo_load;exact rfl;(first | exact up1 O.h1 | exact up1 O.h2');exact trivial) | (apply wo_po;apply mo_conv;exact rfl;exact c1;exact trivial) | (apply wo_po;apply mo_bin;exact rfl;exact rfl;apply bin_rem;omega;exact c2';exact trivial) | (apply wo_po;apply mo_bin;exact rfl;exact rfl;apply bin_add;exact c3;exact trivial) | refine wlssT ?_ | refine we_seq ?_ | (refine wR ?_;try simp only [oS]) | refine wo_nil ?_ | refine wM ?_ | refine wD ?_ | refine wT ?_ | refine we_skip ?_ | refine we_block ?_)
  refine wo_call (.cons rfl (.cons rfl .nil)) trivial (hSet _ rest set s _ hJ) ?_
  rintro v1 L1 x1 ⟨q,s',hJ',rfl,rfl,rfl⟩
  repeat (first | refine we_seq ?_ | (refine wR ?_;try simp only [oS]) | refine wo_nil ?_ | refine wM ?_ | refine wA ?_ | (apply wo_po;apply mo_extract;exact rfl;exact rfl;exact gY))
  refine we_join (coMid gv x C J tb cb7 s9 ib xb i (if decide (k<tl)=true then (decide (k<tl),y2)::rest else rest) (if decide (k<tl)=true then .b else .a) Ro F) ?_ ?_
  ·cases q with
   | false =>
    repeat (first | refine wF ?_ | refine we_skip ?_)
    refine at_mid (B:=B) (I:=coMid gv x C J tb cb7 s9 ib xb i (if decide (k<tl)=true then (decide (k<tl),y2)::rest else rest) (if decide (k<tl)=true then .b else .a) Ro F) (set,s') ⟨by show set≤i+1;omega,hJ'⟩ ⟨rfl,rfl,rfl,rfl,rfl,rfl,rfl,trivial⟩ .refl rfl
   | true =>
    repeat (first | (refine wR ?_;try simp only [oS]) | refine wT ?_)
    refine wo_star (arr sb k [.int .i64 (set:Nat)]::C0 s'::Ro::F) (fun h st=>hop _ _ _ _ st) ?_
    have u0:Rd (arr sb k [.int .i64 (set:Nat)]::C0 s'::Ro::F) sb (0+k) (.int .i64 (set:Nat)):=Rd.row (k:=0) rfl (by omega)
    repeat (first | (apply wo_po;apply mo_load;exact rfl;(first | exact u0 | exact up2 O.h3 | exact up2 O.h4);exact trivial) | (apply wo_po;apply mo_index1;exact rfl;exact rfl;omega;exact trivial) | (apply wo_po;apply mo_bin;exact rfl;exact rfl;apply bin_add;exact w4;exact trivial) | (apply wo_pm;apply mo_store;exact rfl;exact rfl;exact rfl;apply Wt.row (k:=0) (o:=k) (vs:=[.int .i64 (set:Nat)]);exact Nat.lt_succ_self 0;omega;exact .here;exact trivial) | refine wo_nil ?_)
    refine at_midS (B:=B) (I:=coMid gv x C J tb cb7 s9 ib xb i (if decide (k<tl)=true then (decide (k<tl),y2)::rest else rest) (if decide (k<tl)=true then .b else .a) Ro F) (set+1,s') ⟨by show set+1≤i+1;omega,hJ'⟩ ⟨rfl,rfl,rfl,rfl,rfl,rfl,rfl,trivial⟩ (fun h st=>hsh _ _ _ _ st) rfl
  ·clear hJ hJ' s s' hset
   rintro ⟨set2,s⟩ ⟨hs2,hJ⟩
   dsimp only at hs2 hJ
   simp only [coMid]
   by_cases hkt:k<tl
   ·obtain ⟨ab,ao,rfl,r6⟩:=O.h6 hkt
    rw [if_pos (decide_eq_true hkt),if_pos (decide_eq_true hkt)] at hJ
    repeat (first | (apply wo_po;apply mo_load;exact rfl;(first | exact up1 O.h4 | exact up1 O.h5);exact trivial) | refine wlssT ?_ | refine we_seq ?_ | (refine wR ?_;try simp only [oS]) | refine wo_nil ?_ | refine wE ?_ | refine wT ?_)
    refine we_draw (List.range' 0 11) (by kernel_rfl) ?_
    repeat (first | (apply ap_pure;exact rfl;exact rfl;exact trivial;intro L;apply mo_index1;exact rfl;exact rfl;omega) | (apply ap_read;exact rfl;exact rfl;exact trivial;apply mo_load;exact rfl;(first | exact up1 O.h2 | exact up1 O.h5 | exact up1 O.h4 | exact up1 r6)) | (apply ap_pure;exact rfl;exact rfl;exact trivial;intro L;apply mo_conv;exact rfl;exact w1) | (apply ap_pure;exact rfl;exact rfl;exact trivial;intro L;apply mo_bin;exact rfl;exact rfl;apply bin_sub;exact w2) | refine aM ?_ | refine aD ?_)
    refine ap_callR (Pd':=[]) rfl rfl (by kernel_rfl) trivial rfl rfl (.cons rfl (.cons rfl (.cons rfl .nil))) (hMax (decide (k<tl),y2) rest set2 s _ (decide_eq_true hkt) hy2l hJ) (fun v L' x' _ p hp=>by cases hp) ?_
    rintro v1 L1 x1 ⟨q2,s2,hJ2,rfl,rfl,rfl⟩
    repeat (first | refine ap_end ?_)
    repeat (first | (apply wo_po;apply mo_bin;exact rfl;exact rfl;apply bin_add;exact w3;exact trivial) | (refine wR ?_;try simp only [oS]) | refine wo_nil ?_ | refine wM ?_ | refine wA ?_)
    refine at_round (B:=B) (I:=coInv gv x C J tb cb7 s9 ib xb m (coV (decide (k<tl)) v m) Ro F) (R:=fun z=>m-z.1<m-i) (i+1,set2,s2) (by show m-(i+1)<m-i;omega) ⟨by show i+1≤m;omega,hs2,by show J ((coV (decide (k<tl)) v m).drop (i+1)) .a set2 s2;rw [hrest];exact hJ2⟩ ⟨rfl,rfl,rfl,rfl,rfl,rfl,rfl,trivial⟩ .refl rfl
   ·rw [if_neg (by simpa using hkt),if_neg (by simpa using hkt)] at hJ
    repeat (first | (apply wo_po;apply mo_load;exact rfl;(first | exact up1 O.h4 | exact up1 O.h5);exact trivial) | refine wlssF ?_ | refine we_seq ?_ | (refine wR ?_;try simp only [oS]) | refine wo_nil ?_ | refine wM ?_ | refine wA ?_ | refine wadd ?_ | refine wE ?_ | refine wF ?_ | refine we_skip ?_)
    refine at_round (B:=B) (I:=coInv gv x C J tb cb7 s9 ib xb m (coV (decide (k<tl)) v m) Ro F) (R:=fun z=>m-z.1<m-i) (i+1,set2,s) (by show m-(i+1)<m-i;omega) ⟨by show i+1≤m;omega,hs2,by show J ((coV (decide (k<tl)) v m).drop (i+1)) .a set2 s;rw [hrest];exact hJ⟩ ⟨rfl,rfl,rfl,rfl,rfl,rfl,rfl,trivial⟩ .refl rfl
 ·obtain rfl:i=m:=by omega
  rw [List.drop_of_length_le (by rw [coV_len];exact Nat.le_refl _)] at hJ
  repeat (first | (apply wo_po;apply mo_load;exact rfl;exact up1 O.h1;exact trivial) | (apply wo_po;apply mo_conv;exact rfl;exact c1;exact trivial) | (apply wo_po;apply mo_bin;exact rfl;exact rfl;apply bin_rem;omega;exact c2';exact trivial) | (apply wo_po;apply mo_bin;exact rfl;exact rfl;apply bin_add;exact c3;exact trivial) | refine wlssF ?_ | refine we_seq ?_ | (refine wR ?_;try simp only [oS]) | refine wo_nil ?_ | refine wM ?_ | refine wF ?_ | refine we_exit ?_)
  (first | refine or0 Try.func27 Try.results27 hQ ?_ | refine on0 Try.func27 Try.results27 hQ ?_)
  exact ⟨set,s,hJ,rfl,rfl,rfl⟩
end
section
variable {Ro:HProp} {tb cb7 s9 ib xb sb r fr nt k times tl tc v:Nat} {ta:Option Addr}
theorem coSet_eq {y:Bool × Nat} {rest:List (Bool × Nat)} {set k o:Nat}:coSet y rest set k o=⟨if y.1=true then y::rest else rest,if y.1=true then .b else .a,if (!decide (((o:Nat):Int)=1))=true then set+1 else set,k⟩:=by
 unfold coSet
 by_cases h:o=1
 ·subst h
  split <;> simp
 ·have h2:¬ ((o:Nat):Int)=1:=by omega
  split <;> simp [h,h2]
theorem co_ok (hne:fr≠r) (O:CoRo Ro tb cb7 s9 ib xb sb r fr nt k times tl tc v ta) (hd:Dup Ro) :
  ThrOk ((coW sb).g (oAddr r fr) 2 []) (fun s=>(s,(⟨coV (decide (k<tl)) v (1+times%20),.a,0,k⟩:CoQ))) (coFn tb cb7 s9 ib xb) (all [Ro,coP sb k 0]) where
 run:=by
  refine ⟨_,_,_,rfl,inferInstance,fun sa says turn fin wg (s:Nat × Nat) m F hok=>?_⟩
  let C:Nat→GaS (coW sb)→HProp:=fun set s=>gaC (coW sb) (oAddr r fr) 2 [] sa says turn fin (all [coP sb k set,Ro]) s.f s.c
  let C0:GaS (coW sb)→HProp:=fun s=>gaC (coW sb) (oAddr r fr) 2 [] sa says turn fin Ro s.f s.c
  let X:GaS (coW sb)→TX:=fun s=>tx ((coW sb).g (oAddr r fr) 2 []) says turn fin wg (.busy s.s s.q s.n)
  refine tr_star (coP sb k 0::C0 ⟨coWf s,(),s,(⟨coV (decide (k<tl)) v (1+times%20),.a,0,k⟩:CoQ),m⟩::Ro::F) (fun hp st=>?_) ?_
  ·have s1:Star (wds (oAddr r fr) 2 [] (coWf s)::(fun _=>True)::seatR sa says turn fin::all [Ro,coP sb k 0]::F) hp:=star_open (M:=[_,_]) st
   have s2:Star (all [Ro,coP sb k 0]::wds (oAddr r fr) 2 [] (coWf s)::(fun _=>True)::seatR sa says turn fin::F) hp:=Ent.star (.take (.there (.there (.there .here))) (.take .here (.take .here (.take .here .refl)))) s1
   have s3:Star (Ro::coP sb k 0::wds (oAddr r fr) 2 [] (coWf s)::(fun _=>True)::seatR sa says turn fin::F) hp:=star_open (M:=[_,_]) s2
   have s4:=hd _ _ s3
   have s5:Star (wds (oAddr r fr) 2 [] (coWf s)::(fun _=>True)::seatR sa says turn fin::Ro::coP sb k 0::Ro::F) hp:=Ent.star (.take (.there (.there (.there .here))) (.take (.there (.there (.there .here))) (.take (.there (.there (.there .here))) (.take .here (.take (.there .here) (.take .here .refl)))))) s4
   have s6:Star (C0 ⟨coWf s,(),s,(⟨coV (decide (k<tl)) v (1+times%20),.a,0,k⟩:CoQ),m⟩::coP sb k 0::Ro::F) hp:=star_shut (M:=[_,_,_,_]) s5
   exact star_swap s6
  refine (cot_tr (B:=tH) (S:=GaS (coW sb)) (x:=X) (C:=C) (C0:=C0) (J:=fun rl st set s=>CoS ⟨rl,st,set,k⟩ s) O (fun set s R h st=>cb_opG st) (fun set s R h st=>cb_shG st) (fun y rest set s R hs=>?_) (fun y rest set s R hy hy2 hs=>?_) ⟨rfl,rfl,rfl⟩).mono ?_
  ·refine (fset_tr (A:=coA sb r fr hne sa says turn fin wg (all [coP sb k set,Ro])) (coA_at O.hF) (coA_set hs) .here).mono ?_
   rintro v L' x' ⟨o,s',_,h1,h2,h3,h4⟩
   exact ⟨_,s',by rw [coSet_eq] at h1;exact h1,h2,h3,h4⟩
  ·refine (cmax_tr (A:=coB sb r fr hne sa says turn fin wg (all [coP sb k set,Ro])) (coB_at O.hC) hy2 (coB_max hs) .here).mono ?_
   rintro v L' x' ⟨o,q,s',h1,h2,h3,h4⟩
   exact ⟨q,s',h1,h2,h3,h4⟩
  ·rintro v L' x' ⟨set,s',hs',rfl,rfl,rfl⟩
   refine ⟨s'.s,s'.q,s'.n,rfl,?_,fun hp st=>?_⟩
   ·show coPlan s'.q=none
    rw [hs'.q];rfl
   ·have s1:Star (coP sb k set::C0 s'::Ro::F) hp:=cb_opG st
    have s2:Star (wds (oAddr r fr) 2 [] s'.f::(fun _=>True)::seatR sa says turn fin::Ro::coP sb k set::Ro::F) hp:=star_open (M:=[_,_,_,_]) (star_swap s1)
    have s3:Star (wds (oAddr r fr) 2 [] (coWf (show Nat × Nat from s'.s))::(fun _=>True)::seatR sa says turn fin::Ro::coP sb k set::Ro::F) hp:=star_map s2 (wds_congr (coWf_all hs'.f0 hs'.f1)) fun _ z=>z
    have s4:Star (all [coP sb k set]::wds (oAddr r fr) 2 [] (coWf (show Nat × Nat from s'.s))::(fun _=>True)::seatR sa says turn fin::F) hp:=star_shut (M:=[_]) (Ent.star (.take (.there (.there (.there (.there .here)))) (.take .here (.take .here (.take .here (.drop (.drop .refl)))))) s3)
    have s5:Star (((coW sb).g (oAddr r fr) 2 []).U s'.s::all [coP sb k set]::seatR sa says turn fin::F) hp:=star_shut (M:=[_,_]) (Ent.star (.take (.there .here) (.take (.there .here) (.take .here (.take .here .refl)))) s4)
    show Star (_::_::all [coP sb (show CoQ from s'.q).k (show CoQ from s'.q).set]::F) hp
    rw [hs'.q]
    exact Ent.star (.take .here (.take (.there .here) (.take .here .refl))) s5
theorem co_free {N:Nat} (hne:fr≠r) (O:CoRo Ro tb cb7 s9 ib xb sb r fr nt k times tl tc v ta) (hd:Dup Ro) :
  ThrF ((coW sb).g (oAddr r fr) 2 []) N ⟨coFn tb cb7 s9 ib xb,(⟨coV (decide (k<tl)) v (1+times%20),.a,0,k⟩:CoQ),all [Ro,coP sb k 0]⟩ where
 run:=by
  refine ⟨_,_,_,rfl,inferInstance,fun wg F=>?_⟩
  refine tr_star (coP sb k 0::Ro::Ro::F) (fun hp st=>?_) ?_
  ·have s3:Star (Ro::coP sb k 0::F) hp:=star_open (M:=[_,_]) st
   have s4:=hd _ _ s3
   exact Ent.star (.take (.there (.there .here)) (.take .here (.take .here .refl))) s4
  refine (cot_tr (B:=fH) (S:=FrS (coW sb)) (x:=fun s=>frX (coW sb) (oAddr r fr) 2 [] wg s) (C:=fun set _=>all [coP sb k set,Ro]) (C0:=fun _=>Ro) (J:=fun rl st set s=>CoE ⟨rl,st,set,k⟩ s) (s0:=⟨(⟨coV (decide (k<tl)) v (1+times%20),.a,0,k⟩:CoQ),N⟩) O (fun set s R h st=>star_open (M:=[_,_]) st) (fun set s R h st=>star_shut (M:=[_,_]) st) (fun y rest set s R hs=>?_) (fun y rest set s R hy hy2 hs=>?_) rfl).mono ?_
  ·refine (fset_tr (A:=coF sb r fr hne wg (all [coP sb k set,Ro])) (coF_at O.hF) (coF_set hs) .here).mono ?_
   rintro v L' x' ⟨o,s',_,h1,h2,h3,h4⟩
   exact ⟨_,s',by rw [coSet_eq] at h1;exact h1,h2,h3,h4⟩
  ·refine (cmax_tr (A:=coG sb r fr hne wg (all [coP sb k set,Ro])) (coG_at O.hC) hy2 (coG_max hs) .here).mono ?_
   rintro v L' x' ⟨o,q,s',h1,h2,h3,h4⟩
   exact ⟨q,s',h1,h2,h3,h4⟩
  ·rintro v L' x' ⟨set,s',hs',rfl,rfl,rfl⟩
   refine ⟨s'.q,s'.n,rfl,?_,fun hp st=>?_⟩
   ·show coPlan s'.q=none
    rw [show s'.q=_ from hs'];rfl
   ·show Star (all [coP sb (show CoQ from s'.q).k (show CoQ from s'.q).set]::F) hp
    rw [show s'.q=_ from hs']
    have s1:Star (coP sb k set::Ro::Ro::F) hp:=star_open (M:=[_,_]) st
    exact star_shut (M:=[_]) (Ent.star (.take .here (.drop (.drop .refl))) s1)
end
end
end Go.Proofs.Ytkgnkloonamheaa
namespace Go.Proofs.Ytkgnkloonamheaa
open Go Go.PB
attribute [local irreducible] Mo Bin Eql Tr Wo Ap Wle
section
section
variable {B:Hand} [Lets B] {gv:Value} {A:Acc B gv} {r cb nb b c v num n u:Nat} {L F L1:List HProp} {x:B.X}
instance:Und Try.prog 150 (.pointer 158):=⟨by kernel_rfl⟩
theorem lies_content:liesAt Try.prog (Try.prog).depth 158 (2/(Try.prog).cellsOf 158) 0 158 1=true:=by kernel_rfl
theorem pload_tr (hr:Rd L b c (.pointer (some ⟨cb,0,none⟩))) (hs:∀ h,Star L h→h.shp cb=some (158,2)) :
  Tr Try.prog B 77 [.pointer (some ⟨b,c,none⟩)] L x fun w L' x'=>w=.pointer (some ⟨cb,0,none⟩)∧L'=L∧x'=x:=by
 refine tr_of_body Try.func77 rfl Try.ntmps77 (by simp) fun um Q _ hQ=>?_
 simp only [argE,Nat.zero_add,Nat.reduceAdd]
 repeat (first | (apply wo_po;apply mo_ext (args:=[_]);exact .cons rfl .nil;exact at_loadP hr;exact trivial) | (apply wo_po;apply mo_convUP (by decide:(2:Nat)≠0);exact rfl;exact hs;exact lies_content;exact trivial) | refine we_seq ?_ | (refine wR ?_;try simp only [oS]) | refine wo_nil ?_ | refine wM ?_ | refine wA ?_ | refine wN ?_ | refine wD ?_ | refine we_ret ?_)
 (first | refine or1 Try.func77 Try.results77 hQ rfl ?_ | refine on1 Try.func77 Try.results77 hQ rfl ?_)
 exact ⟨rfl,rfl,rfl⟩
theorem pcas_tr (hr:Rd L b c (.pointer (some ⟨cb,0,none⟩))) (hw:Wt L b c (.pointer (some ⟨nb,0,none⟩)) L1) (hs:∀ h,Star L h→h.shp cb=some (158,2)) (hs2:∀ h,Star L h→h.shp nb=some (158,2)) :
  Tr Try.prog B 78 [.pointer (some ⟨b,c,none⟩),.pointer (some ⟨cb,0,none⟩),.pointer (some ⟨nb,0,none⟩)] L x fun w L' x'=>w=.bool true∧L'=L1∧x'=x:=by
 refine tr_of_body Try.func78 rfl Try.ntmps78 (by simp) fun um Q _ hQ=>?_
 simp only [argE,Nat.zero_add,Nat.reduceAdd]
 repeat (first | (apply wo_po;apply mo_convPU (by decide:(2:Nat)≠0);exact rfl;(first | exact hs | exact hs2);exact (by decide:(2:Nat)≠0);exact trivial) | (apply wo_pm;apply mo_ext (args:=[_,_,_]);exact .cons rfl (.cons rfl (.cons rfl .nil));exact at_casPT hr hw;exact trivial) | refine we_seq ?_ | (refine wR ?_;try simp only [oS]) | refine wo_nil ?_ | refine wM ?_ | refine wA ?_ | refine wN ?_ | refine wD ?_ | refine we_ret ?_)
 (first | refine or1 Try.func78 Try.results78 hQ rfl ?_ | refine on1 Try.func78 Try.results78 hQ rfl ?_)
 exact ⟨rfl,rfl,rfl⟩
theorem pstore_tr (hw:Wt L b c (.pointer (some ⟨nb,0,none⟩)) L1) (hs:∀ h,Star L h→h.shp nb=some (158,2)) :
  Tr Try.prog B 68 [.pointer (some ⟨b,c,none⟩),.pointer (some ⟨nb,0,none⟩)] L x fun w L' x'=>w=.tuple #[]∧L'=L1∧x'=x:=by
 refine tr_of_body Try.func68 rfl Try.ntmps68 (by simp) fun um Q _ hQ=>?_
 simp only [argE,Nat.zero_add,Nat.reduceAdd]
 repeat (first | (apply wo_po;apply mo_convPU (by decide:(2:Nat)≠0);exact rfl;exact hs;exact (by decide:(2:Nat)≠0);exact trivial) | (apply wo_pm;apply mo_ext (args:=[_,_]);exact .cons rfl (.cons rfl .nil);exact at_storeI rfl hw;exact trivial) | (refine wR ?_;try simp only [oS]) | refine wo_nil ?_ | refine wM ?_ | refine wN ?_ | refine wD ?_)
 (first | refine or0 Try.func68 Try.results68 hQ ?_ | refine on0 Try.func68 Try.results68 hQ ?_)
 exact ⟨rfl,rfl,rfl⟩
theorem bthere_tr (hr:Rd L r 0 (.pointer (some ⟨cb,0,none⟩))) (hs:∀ h,Star L h→h.shp cb=some (158,2)):Tr Try.prog B 76 [.pointer (some ⟨r,0,none⟩)] L x fun v L' x'=>v=.bool true∧L'=L∧x'=x:=by
 refine tr_of_body Try.func76 rfl Try.ntmps76 (by simp) fun um Q _ hQ=>?_
 simp only [argE,Nat.zero_add,Nat.reduceAdd]
 repeat (first | refine we_seq ?_ | (refine wR ?_;try simp only [oS]) | refine wo_nil ?_ | refine wM ?_ | refine wA ?_ | refine wN ?_ | refine wD ?_ | (apply wo_po;apply mo_bin;exact rfl;exact rfl;apply bin_ne;apply eql_ptr_nil;exact gY))
 refine wo_call (.cons rfl .nil) (by first | exact trivial | exact rfl) (pload_tr hr hs) ?_
 rintro v1 L1 x1 ⟨rfl,rfl,rfl⟩
 repeat (first | refine wo_nil ?_ | refine wA ?_ | refine wK ?_ | (apply wo_po;apply mo_bin;exact rfl;exact rfl;apply bin_ne;apply eql_ptr_nil;exact gY) | refine we_ret ?_)
 (first | refine or1 Try.func76 Try.results76 hQ rfl ?_ | refine on1 Try.func76 Try.results76 hQ rfl ?_)
 exact ⟨rfl,rfl,rfl⟩
theorem bget_tr {s:A.S} {Q:A.S→Prop} (hq:A.step 1 0 s Q) :
  Tr Try.prog B 50 [.pointer (some ⟨r,0,none⟩),gv] (A.C s::arr r 0 [.pointer (some ⟨cb,0,none⟩)]::arr cb 0 [.int .u32 (v:Nat),.int .u64 (num:Nat)]::shpC cb 158 2::F) (A.x s) fun w L' x'=>∃ s',Q s'∧w=.tuple #[.int .u32 (v:Nat),.int .u64 (num:Nat),.int .i64 0]∧L'=A.C s'::arr r 0 [.pointer (some ⟨cb,0,none⟩)]::arr cb 0 [.int .u32 (v:Nat),.int .u64 (num:Nat)]::shpC cb 158 2::F∧x'=A.x s':=by
 refine tr_of_body Try.func50 rfl Try.ntmps50 (by simp) fun um Q _ hQ=>?_
 simp only [argE,Nat.zero_add,Nat.reduceAdd]
 repeat (first | refine we_seq ?_ | (refine wR ?_;try simp only [oS]) | refine wo_nil ?_ | refine wM ?_ | refine wA ?_)
 refine wo_call (.cons rfl .nil) trivial (bthere_tr (.there (.row (k:=0) rfl rfl)) (fun h st=>shp_of (.there (.there (.there .here))) st)) ?_
 rintro v1 L1 x1 ⟨rfl,rfl,rfl⟩
 repeat (first | refine we_seq ?_ | (refine wR ?_;try simp only [oS]) | refine wo_nil ?_ | refine wM ?_ | (apply wo_po;apply mo_not;exact rfl;exact gY) | refine wF ?_ | refine we_skip ?_)
 refine wo_call (.cons rfl (.cons rfl .nil)) trivial (step_tr hq .here) ?_
 rintro v1 L1 x1 ⟨s1,h1,rfl,rfl,rfl⟩
 repeat (first | refine we_seq ?_ | (refine wR ?_;try simp only [oS]) | refine wo_nil ?_ | refine wM ?_ | refine wN ?_ | refine wD ?_)
 refine wo_call (.cons rfl .nil) trivial (pload_tr (.there (.row (k:=0) rfl rfl)) (fun h st=>shp_of (.there (.there (.there .here))) st)) ?_
 rintro v1 L1 x1 ⟨rfl,rfl,rfl⟩
 have q0:Rd (A.C s1::arr r 0 [.pointer (some ⟨cb,0,none⟩)]::arr cb 0 [.int .u32 (v:Nat),.int .u64 (num:Nat)]::shpC cb 158 2::F) cb 0 (.int .u32 (v:Nat)):=.there (.there (.row (k:=0) rfl rfl))
 have q1:Rd (A.C s1::arr r 0 [.pointer (some ⟨cb,0,none⟩)]::arr cb 0 [.int .u32 (v:Nat),.int .u64 (num:Nat)]::shpC cb 158 2::F) cb 1 (.int .u64 (num:Nat)):=.there (.there (.row (k:=1) rfl rfl))
 repeat (first | refine we_seq ?_ | refine wo_nil ?_ | refine wA ?_)
 refine we_draw (List.range' 0 11) (by kernel_rfl) ?_
 repeat (first | (apply ap_read;exact rfl;exact rfl;exact gY;apply mo_load;exact rfl;(first | exact q0 | exact q1)) | refine aM ?_ | refine aA ?_ | refine aN ?_ | refine aD ?_ | refine ap_end ?_)
 repeat (first | refine we_ret ?_)
 (first | refine or3 Try.func50 Try.results50 hQ rfl rfl rfl ?_ | refine on3 Try.func50 Try.results50 hQ rfl rfl rfl ?_)
 exact ⟨s1,h1,rfl,rfl,rfl⟩
def putInv (A:Acc B gv) (s:A.S) (r cb v num u:Nat) (F:List HProp):Inv Unit B.X where
 e:=fun _=>[(0,.pointer (some ⟨r,0,none⟩)),(1,gv),(2,.int .u32 (u:Nat))]
 L:=fun _=>A.C s::arr r 0 [.pointer (some ⟨cb,0,none⟩)]::arr cb 0 [.int .u32 (v:Nat),.int .u64 (num:Nat)]::shpC cb 158 2::F
 x:=fun _=>A.x s
 ok:=fun _=>True
theorem bput_tr (hn:num+1<18446744073709551616) {s:A.S} {Q:A.S→Prop} (hq:A.step 1 0 s fun s=>A.step 5 0 s Q) :
  Tr Try.prog B 49 [.pointer (some ⟨r,0,none⟩),gv,.int .u32 (u:Nat)] (A.C s::arr r 0 [.pointer (some ⟨cb,0,none⟩)]::arr cb 0 [.int .u32 (v:Nat),.int .u64 (num:Nat)]::shpC cb 158 2::F) (A.x s) fun w L' x'=>∃ s' nb,Q s'∧w=.tuple #[.int .u64 ((num+1:Nat):Int),.int .i64 0]∧L'=A.C s'::arr r 0 [.pointer (some ⟨nb,0,none⟩)]::arr nb 0 [.int .u32 (u:Nat),.int .u64 (num+1:Nat)]::shpC nb 158 2::F∧x'=A.x s':=by
 refine Tr.post (R:=fun w L' x'=>∃ s' nb,Q s'∧w=.tuple #[.int .u64 ((num+1:Nat):Int),.int .i64 0]∧x'=A.x s'∧∀ h,Star L' h→Star (A.C s'::arr r 0 [.pointer (some ⟨nb,0,none⟩)]::arr nb 0 [.int .u32 (u:Nat),.int .u64 (num+1:Nat)]::shpC nb 158 2::F) h) ?_ (by rintro v L' x' ⟨s',nb,h1,rfl,rfl,hs⟩;exact ⟨_,⟨s',nb,h1,rfl,rfl,rfl⟩,hs⟩)
 have a1:IntKind.u64.wrap ((num:Int)+(1:Int))=((num+1:Nat):Int):=(wrap_u64 (by omega) (by omega)).trans (by omega)
 refine tr_of_body Try.func49 rfl Try.ntmps49 (by simp) fun um Q _ hQ=>?_
 simp only [argE,Nat.zero_add,Nat.reduceAdd]
 repeat (first | refine we_seq ?_ | (refine wR ?_;try simp only [oS]) | refine wo_nil ?_ | refine wM ?_ | refine wA ?_ | refine we_scope ?_)
 refine wo_call (.cons rfl .nil) trivial (bthere_tr (.there (.row (k:=0) rfl rfl)) (fun h st=>shp_of (.there (.there (.there .here))) st)) ?_
 rintro v1 L1 x1 ⟨rfl,rfl,rfl⟩
 repeat (first | refine we_seq ?_ | refine wo_nil ?_ | (apply wo_po;apply mo_not;exact rfl;exact gY) | refine wF ?_ | refine we_skip ?_ | refine we_label ?_ | refine we_block ?_)
 refine we_loopN (putInv A s r cb v num u F) (fun _=>0) () trivial ⟨rfl,rfl,rfl,trivial⟩ .refl rfl ?_
 intro _ _
 dsimp only [putInv]
 repeat (first | refine we_seq ?_ | (refine wR ?_;try simp only [oS]) | refine wM ?_ | refine we_block ?_)
 refine wo_call (.cons rfl (.cons rfl .nil)) trivial (step_tr hq .here) ?_
 rintro v1 L1 x1 ⟨s1,h1,rfl,rfl,rfl⟩
 repeat (first | refine we_seq ?_ | (refine wR ?_;try simp only [oS]) | refine wo_nil ?_ | refine wM ?_ | refine wN ?_ | refine wD ?_)
 refine wo_call (.cons rfl .nil) trivial (pload_tr (.there (.row (k:=0) rfl rfl)) (fun h st=>shp_of (.there (.there (.there .here))) st)) ?_
 rintro v1 L1 x1 ⟨rfl,rfl,rfl⟩
 have q1:Rd (A.C s1::arr r 0 [.pointer (some ⟨cb,0,none⟩)]::arr cb 0 [.int .u32 (v:Nat),.int .u64 (num:Nat)]::shpC cb 158 2::F) cb 1 (.int .u64 (num:Nat)):=.there (.there (.row (k:=1) rfl rfl))
 repeat (first | (apply wo_po;apply mo_load;exact rfl;exact q1;exact trivial) | (apply wo_po;apply mo_bin;exact rfl;exact rfl;apply bin_add;exact a1;exact trivial) | (apply wo_po;apply mo_build (pv:=[(0,_),(1,_)]);exact rfl;exact .cons rfl (.cons rfl .nil);exact rfl;exact trivial) | (apply wo_mo;apply mo_boxS;exact rfl;exact trivial) | refine we_seq ?_ | (refine wR ?_;try simp only [oS]) | refine wo_nil ?_ | refine wM ?_ | refine wA ?_ | refine wN ?_ | refine wD ?_)
 rintro v' L' ⟨nb,rfl,rfl⟩
 refine wo_star (A.C s1::arr nb 0 [.int .u32 (u:Nat),.int .u64 ((num+1:Nat):Int)]::shpC nb 158 2::arr r 0 [.pointer (some ⟨cb,0,none⟩)]::arr cb 0 [.int .u32 (v:Nat),.int .u64 (num:Nat)]::shpC cb 158 2::F) (fun h st=>Ent.star (.take (.there (.there .here)) (.take .here (.take .here .refl))) st) ?_
 repeat (first | refine we_seq ?_ | (refine wR ?_;try simp only [oS]) | refine wo_nil ?_ | refine wM ?_ | refine wA ?_)
 refine wo_call (.cons rfl (.cons rfl .nil)) trivial (step_tr h1 .here) ?_
 rintro v1 L1 x1 ⟨s2,h2,rfl,rfl,rfl⟩
 repeat (first | refine we_seq ?_ | (refine wR ?_;try simp only [oS]) | refine wo_nil ?_ | refine wM ?_ | refine wN ?_ | refine wD ?_)
 refine wo_call (.cons rfl (.cons rfl (.cons rfl .nil))) trivial (pcas_tr (.there (.there (.there (.row (k:=0) rfl rfl)))) (Wt.row0 (k:=0) (.there (.there (.there .here))) (by simp)) (fun h st=>shp_of (.there (.there (.there (.there (.there .here))))) st) (fun h st=>shp_of (.there (.there .here)) st)) ?_
 rintro v1 L1 x1 ⟨rfl,rfl,rfl⟩
 have q2:∀ {c1 c2:HProp} {F:List HProp},Rd (c1::c2::arr nb 0 [.int .u32 (u:Nat),.int .u64 ((num+1:Nat):Int)]::F) nb 1 (.int .u64 ((num+1:Nat):Int)):=fun {c1 c2 F}=>.there (.there (.row (k:=1) rfl rfl))
 repeat (first | refine we_seq ?_ | (refine wR ?_;try simp only [oS]) | refine wo_nil ?_ | refine wM ?_ | refine wA ?_ | refine wN ?_ | refine wD ?_ | (apply wo_po;apply mo_not;exact rfl;exact gY) | refine wL ?_ | refine wF ?_ | refine we_ret ?_ | refine we_skip ?_)
 (first | refine or2 Try.func49 Try.results49 hQ rfl rfl ?_ | refine on2 Try.func49 Try.results49 hQ rfl rfl ?_)
 exact ⟨s2,nb,h2,rfl,rfl,fun h st=>Ent.star (.take .here (.take (.there (.there .here)) (.take .here (.take .here (.drop (.drop .refl)))))) st⟩
theorem newc_tr (hv:v<18446744073709551616):Tr Try.prog B 31 [.int .u64 (v:Nat)] L x fun w L' x'=>∃ r,w=.pointer (some ⟨r,0,none⟩)∧L'=arr r 0 [.bool true,.int .u64 (v:Nat)]::L∧x'=x:=by
 refine tr_of_body Try.func31 rfl Try.ntmps31 (by simp) fun um Q _ hQ=>?_
 simp only [argE,Nat.zero_add,Nat.reduceAdd]
 repeat (first | (apply wo_po;apply mo_build (pv:=[(0,_)]);exact rfl;exact .cons rfl .nil;exact rfl;exact trivial) | (apply wo_mo;apply mo_box;exact rfl;exact trivial) | refine we_seq ?_ | (refine wR ?_;try simp only [oS]) | refine wo_nil ?_ | refine wA ?_)
 rintro v' L' ⟨r,rfl,rfl⟩
 refine wo_ent (arr r 0 [.bool true,.int .u64 0]::L) .refl ?_
 repeat (first | refine we_seq ?_ | (refine wR ?_;try simp only [oS]) | refine wo_nil ?_ | refine wM ?_ | refine wA ?_ | refine wN ?_ | refine wD ?_)
 refine wo_call (.cons rfl (.cons rfl .nil)) trivial (store_lone (Wt.row0 (k:=1) .here (by simp))) ?_
 rintro v1 L1 x1 ⟨rfl,rfl,rfl⟩
 repeat (first | refine we_seq ?_ | (refine wR ?_;try simp only [oS]) | refine wo_nil ?_ | refine wM ?_ | refine wA ?_ | refine we_ret ?_)
 (first | refine or1 Try.func31 Try.results31 hQ rfl ?_ | refine on1 Try.func31 Try.results31 hQ rfl ?_)
 exact ⟨r,rfl,rfl,rfl⟩
theorem newf_tr:Tr Try.prog B 32 [] L x fun w L' x'=>∃ r,w=.pointer (some ⟨r,0,none⟩)∧L'=arr r 0 [.bool true,.int .u64 0]::L∧x'=x:=by
 refine tr_of_body Try.func32 rfl Try.ntmps32 (by simp) fun um Q _ hQ=>?_
 simp only [argE,Nat.zero_add,Nat.reduceAdd]
 repeat (first | (apply wo_po;apply mo_build (pv:=[(0,_)]);exact rfl;exact .cons rfl .nil;exact rfl;exact trivial) | (apply wo_mo;apply mo_box;exact rfl;exact trivial) | refine we_seq ?_ | (refine wR ?_;try simp only [oS]) | refine wo_nil ?_ | refine wA ?_)
 rintro v' L' ⟨r,rfl,rfl⟩
 repeat (first | refine wo_nil ?_ | refine wA ?_ | refine we_ret ?_)
 (first | refine or1 Try.func32 Try.results32 hQ rfl ?_ | refine on1 Try.func32 Try.results32 hQ rfl ?_)
 exact ⟨r,rfl,rfl,rfl⟩
theorem newb_tr:Tr Try.prog B 33 [.int .u32 (v:Nat)] L x fun w L' x'=>∃ r cb,w=.pointer (some ⟨r,0,none⟩)∧L'=arr r 0 [.pointer (some ⟨cb,0,none⟩)]::arr cb 0 [.int .u32 (v:Nat),.int .u64 (0:Nat)]::shpC cb 158 2::L∧x'=x:=by
 refine tr_of_body Try.func33 rfl Try.ntmps33 (by simp) fun um Q _ hQ=>?_
 simp only [argE,Nat.zero_add,Nat.reduceAdd]
 repeat (first | (apply wo_po;apply mo_build (pv:=[]);exact rfl;exact .nil;exact rfl;exact trivial) | (apply wo_mo;apply mo_box;exact rfl;exact trivial) | refine we_seq ?_ | (refine wR ?_;try simp only [oS]) | refine wo_nil ?_ | refine wA ?_)
 rintro v' L' ⟨r,rfl,rfl⟩
 refine wo_ent (arr r 0 [.pointer none]::L) .refl ?_
 repeat (first | (apply wo_po;apply mo_build (pv:=[(0,_)]);exact rfl;exact .cons rfl .nil;exact rfl;exact trivial) | (apply wo_mo;apply mo_boxS;exact rfl;exact trivial) | refine we_seq ?_ | (refine wR ?_;try simp only [oS]) | refine wo_nil ?_ | refine wM ?_ | refine wA ?_ | refine wN ?_ | refine wD ?_)
 rintro v' L' ⟨cb,rfl,rfl⟩
 refine wo_star (arr r 0 [.pointer none]::arr cb 0 [.int .u32 (v:Nat),.int .u64 (0:Nat)]::shpC cb 158 2::L) (fun h st=>Ent.star (.take (.there (.there .here)) (.take .here (.take .here .refl))) st) ?_
 skip
 refine wo_call (.cons rfl (.cons rfl .nil)) trivial (pstore_tr (Wt.row0 (k:=0) .here (by simp)) (fun h st=>shp_of (.there (.there .here)) st)) ?_
 rintro v1 L1 x1 ⟨rfl,rfl,rfl⟩
 repeat (first | refine we_seq ?_ | (refine wR ?_;try simp only [oS]) | refine wo_nil ?_ | refine wM ?_ | refine wA ?_ | refine we_ret ?_)
 (first | refine or1 Try.func33 Try.results33 hQ rfl ?_ | refine on1 Try.func33 Try.results33 hQ rfl ?_)
 exact ⟨r,cb,rfl,rfl,rfl⟩
theorem made_tr (hv:c<18446744073709551616):Tr Try.prog B 7 [.int .u64 (c:Nat),.int .u32 (v:Nat)] L x fun w L' x'=>∃ cr fr r cb,w=.agg #[.pointer (some ⟨cr,0,none⟩),.pointer (some ⟨fr,0,none⟩),.pointer (some ⟨r,0,none⟩)]∧L'=arr r 0 [.pointer (some ⟨cb,0,none⟩)]::arr cb 0 [.int .u32 (v:Nat),.int .u64 (0:Nat)]::shpC cb 158 2::arr fr 0 [.bool true,.int .u64 0]::arr cr 0 [.bool true,.int .u64 (c:Nat)]::L∧x'=x:=by
 refine Tr.post (R:=fun w L' x'=>∃ cr fr r cb,w=.agg #[.pointer (some ⟨cr,0,none⟩),.pointer (some ⟨fr,0,none⟩),.pointer (some ⟨r,0,none⟩)]∧x'=x∧∀ h,Star L' h→Star (arr r 0 [.pointer (some ⟨cb,0,none⟩)]::arr cb 0 [.int .u32 (v:Nat),.int .u64 (0:Nat)]::shpC cb 158 2::arr fr 0 [.bool true,.int .u64 0]::arr cr 0 [.bool true,.int .u64 (c:Nat)]::L) h) ?_ (by rintro w L' x' ⟨cr,fr,r,cb,rfl,rfl,hs⟩;exact ⟨_,⟨cr,fr,r,cb,rfl,rfl,rfl⟩,hs⟩)
 refine tr_of_body Try.func7 rfl Try.ntmps7 (by simp) fun um Q _ hQ=>?_
 simp only [argE,Nat.zero_add,Nat.reduceAdd]
 repeat (first | (apply wo_mo;apply mo_alloc;exact trivial) | refine we_seq ?_ | (refine wR ?_;try simp only [oS]))
 rintro v' L' ⟨zb,rfl,rfl⟩
 repeat (first | refine we_seq ?_ | (refine wR ?_;try simp only [oS]) | refine wo_nil ?_ | refine wM ?_)
 refine wo_call (.cons rfl .nil) trivial (newc_tr hv) ?_
 rintro v1 L1 x1 ⟨cr,rfl,rfl,rfl⟩
 skip
 refine wo_call .nil trivial newf_tr ?_
 rintro v1 L1 x1 ⟨fr,rfl,rfl,rfl⟩
 repeat (first | refine wM ?_)
 refine wo_call (.cons rfl .nil) trivial newb_tr ?_
 rintro v1 L1 x1 ⟨r,cb,rfl,rfl,rfl⟩
 repeat (first | (apply wo_po;apply mo_build (pv:=[(0,_),(1,_),(2,_)]);exact rfl;exact .cons rfl (.cons rfl (.cons rfl .nil));exact rfl;exact trivial) | (apply wo_pm;apply mo_storeA (b:=zb) (c:=0) (k:=0) (a:=0) (vs:=[.pointer none,.pointer none,.pointer none]);exact rfl;exact rfl;exact rfl;(intro w hw;simp [Value.cells] at hw;rcases hw with rfl | rfl | rfl <;> rfl);exact rfl;exact Nat.le_refl 3;exact (.there (.there (.there (.there (.there .here)))));exact trivial) | refine wo_nil ?_ | refine we_ret ?_)
 refine at_leaveM (rs:=[.cell 4 31]) Try.func7 Try.results7 hQ (.inl rfl) (.cons (.cell (vs:=[.pointer (some ⟨cr,0,none⟩),.pointer (some ⟨fr,0,none⟩),.pointer (some ⟨r,0,none⟩)]) rfl rfl (Rds.all (.there (.there (.there (.there (.there .here))))))) .nil) ?_
 exact ⟨cr,fr,r,cb,rfl,rfl,fun h st=>Ent.star (.take .here (.take .here (.take .here (.take .here (.take .here (.drop .refl)))))) st⟩
end
end
end Go.Proofs.Ytkgnkloonamheaa
namespace Go.PB.Mach
section
def T (cs:List Cl) (c p:Nat) (r:Nat→Nat) (pre:List (Bool × List Nat)) (said:List Nat):Th:={ calls:=cs,call:=c,pc:=p,r:=r,ans:=pre++[(false,said)],over:=false }
def Goes (k:Nat) (t t':Th):Prop:=∀ f,onF (f+k) t=onF f t'
theorem Goes.trans {k k':Nat} {t t' t'':Th} (a:Goes k t t') (b:Goes k' t' t''):Goes (k'+k) t t'':=fun f=>by
 rw [← Nat.add_assoc,a,b]
theorem Goes.on {k f:Nat} {t t' t'':Th} (a:Goes k t t') (h:onF f t'=some t''):onF (f+k) t=some t'':=by rw [a,h]
theorem Goes.on1 {f:Nat} {t t' t'':Th} (a:Goes 1 t t') (h:onF f t'=some t''):onF (f+1) t=some t'':=a.on h
section
variable {cs:List Cl} {cl:Cl} {c p:Nat} {r:Nat→Nat} {pre:List (Bool × List Nat)} {said:List Nat} {x:In}
variable {on a b cc d n:Nat}
end
section
variable {cs:List Cl} {cl:Cl} {c p:Nat} {r:Nat→Nat} {pre:List (Bool × List Nat)} {said:List Nat} {x:In} {on a b cc d n vb vc v:Nat}
variable {f:Nat} {w:Wd} {l:List Nat} {q:Nat} {ws:List (List Nat)} {t':Th}
structure Op (f:Nat) (w:Wd) (t:Th) (m:Nat × Nat) (w':Wd) (t':Th):Prop where
 over:t.over=false
 on:opF f w t=some (w',t')
 mark:t.mark=m
end
inductive Runs (f:Nat):Wd→Th→List (Nat × Nat)→Wd→Th→Prop
 | nil {w:Wd} {t:Th}:Runs f w t [] w t
 | cons {w w1 w2:Wd} {t t1 t2:Th} {m:Nat × Nat} {ms:List (Nat × Nat)}:Op f w t m w1 t1→Runs f w1 t1 ms w2 t2→Runs f w t (m::ms) w2 t2
theorem Runs.trans {f:Nat} {w w1 w2:Wd} {t t1 t2:Th} {ms ms':List (Nat × Nat)} (a:Runs f w t ms w1 t1) (b:Runs f w1 t1 ms' w2 t2):Runs f w t (ms++ms') w2 t2:=by
 induction a with
 | nil=>exact b
 | cons h _ ih=>exact .cons h (ih b)
end
end Go.PB.Mach
namespace Go.Proofs.Ytkgnkloonamheaa
open Go Go.PB
attribute [local irreducible] Mo Bin Eql Tr Wo Ap
section
variable {B:Hand} [Lets B] {L F:List HProp} {x:B.X}
def inC (x:Mach.In):List Value:=[.int .i64 (x.op:Nat),.int .i64 (x.on:Nat),.int .i64 (x.a:Nat),.int .i64 (x.b:Nat),.int .i64 (x.c:Nat),.int .i64 (x.d:Nat),.int .u64 (x.n:Nat)]
end
section
variable {B:Hand} [Lets B] {L F G:List HProp} {x:B.X}
structure CW where
 a:Option Addr
 c:Nat
 k:Nat→Option Addr × Nat
 d:Nat→Option Addr × Nat
def CW.v (w:CW) (n:Nat):Value:=.slice w.a n w.c
def codeC (w:CW) (cs:List Mach.Cl):HProp:=fun h=>∀ i cl,cs[i]?=some cl→∃ cb co,w.a=some ⟨cb,co,none⟩ ∧
 h.can ⟨cb,co+2*i,none⟩ (.slice (w.k i).1 cl.code.length (w.k i).2)∧h.can ⟨cb,co+2*i+1,none⟩ (.slice (w.d i).1 cl.data.length (w.d i).2) ∧
 (∀ j y,cl.code[j]?=some y→∃ kb ko,(w.k i).1=some ⟨kb,ko,none⟩∧∀ m v,(inC y)[m]?=some v→h.can ⟨kb,ko+7*j+m,none⟩ v) ∧
 (∀ j v,cl.data[j]?=some v→∃ db dq,(w.d i).1=some ⟨db,dq,none⟩∧h.can ⟨db,dq+j,none⟩ (num v))
section
variable {w:CW} {cs:List Mach.Cl} {cl:Mach.Cl} {i:Nat}
theorem can_mono {h h1 h2:Hp} (s:Split h h1 h2) {a:Addr} {v:Value} (c:h1.can a v):h.can a v:=⟨c.1,c.2.elim (fun e=>.inl (s.o1 _ _ _ e)) (fun e=>.inr (s.r1 _ _ _ e))⟩
def Obs (L:List HProp) (c:HProp):Prop:=∀ h,Star L h→c h
theorem code_mono {h h1 h2:Hp} (s:Split h h1 h2) (c:codeC w cs h1):codeC w cs h:=by
 intro i cl hi
 obtain ⟨cb,co,q1,q2,q3,q4,q5⟩:=c i cl hi
 refine ⟨cb,co,q1,can_mono s q2,can_mono s q3,fun j y hj=>?_,fun j v hj=>?_⟩
 ·obtain ⟨kb,ko,q6,q7⟩:=q4 j y hj
  exact ⟨kb,ko,q6,fun m v hm=>can_mono s (q7 m v hm)⟩
 ·obtain ⟨db,dq,q6,q7⟩:=q5 j v hj
  exact ⟨db,dq,q6,can_mono s q7⟩
theorem Obs.there {d:HProp} (o:Obs L (codeC w cs)):Obs (d::L) (codeC w cs):=fun h s=>by
 obtain ⟨h1,h2,s1,_,hL⟩:=s
 exact code_mono s1.swap (o h2 hL)
end
theorem own_calls {t:Mach.Th} {i:Mach.In}:(Mach.own t i).calls=t.calls∧(Mach.own t i).call=t.call∧(Mach.own t i).over=t.over:=by
 unfold Mach.own Mach.Th.put Mach.Th.tell
 dsimp only
 split <;> (try split) <;> exact ⟨rfl,rfl,rfl⟩
theorem own_ans {t:Mach.Th} {i:Mach.In} (h:i.op≠22):(Mach.own t i).ans=t.ans:=by
 unfold Mach.own Mach.Th.put Mach.Th.tell
 dsimp only
 split <;> (try split) <;> first | rfl | exact absurd (by assumption) h
end
section
structure Good (cs:List Mach.Cl) (t:Mach.Th) (k:Nat):Prop where
 calls:t.calls=cs
 ok:(cs.all Mach.Cl.ok)=true
 len:cs.length<1000000
 pc:t.pc<1000000
 call:t.call≤cs.length
 ans1:t.call≤t.ans.length
 ans2:t.ans.length≤t.call+1
 room:∀ y∈t.ans,y.2.length+k<1000000000
theorem Good.begun {cs:List Mach.Cl} {t:Mach.Th} {k:Nat} (g:Good cs t k) (hk:k<1000000000):Good cs t.begun k:=by
 unfold Mach.Th.begun
 split
 ·refine ⟨g.calls,g.ok,g.len,g.pc,g.call,by simp;omega,by simp;omega,fun y hy=>?_⟩
  rcases List.mem_append.1 hy with hy | hy
  ·exact g.room y hy
  ·cases List.mem_singleton.1 hy;simpa using hk
 ·exact g
theorem begun_ans {cs:List Mach.Cl} {t:Mach.Th} {k:Nat} (g:Good cs t k):t.begun.call=t.call∧t.call<t.begun.ans.length:=by
 unfold Mach.Th.begun
 split
 ·exact ⟨rfl,by simp;omega⟩
 ·exact ⟨rfl,by have:=g.ans1;omega⟩
theorem mem_modify {α:Type} {f:α→α}:∀ {l:List α} {i:Nat} {y:α},y∈l.modify i f→y∈l∨∃ z∈l,y=f z:=by
 intro l
 induction l with
 | nil=>intro i y h;simp at h
 | cons a l ih =>
  intro i y h
  cases i with
  | zero =>
   simp only [List.modify_zero_cons,List.mem_cons] at h
   rcases h with h | h
   ·exact .inr ⟨a,by simp,h⟩
   ·exact .inl (by simp [h])
  | succ i =>
   simp only [List.modify_succ_cons,List.mem_cons] at h
   rcases h with h | h
   ·exact .inl (by simp [h])
   ·rcases ih h with h | ⟨z,h1,h2⟩
    ·exact .inl (by simp [h])
    ·exact .inr ⟨z,by simp [h1],h2⟩
theorem Good.done {cs:List Mach.Cl} {t:Mach.Th} {k:Nat} (g:Good cs t k) (h:t.call<t.ans.length) (hl:t.call<cs.length):Good cs t.done k:=by
 refine ⟨g.calls,g.ok,g.len,by show 0<1000000;omega,by show t.call+1≤_;omega,?_,?_,fun y hy=>?_⟩
 ·show t.call+1≤(t.ans.modify _ _).length;rw [List.length_modify];omega
 ·show (t.ans.modify _ _).length≤t.call+1+1;rw [List.length_modify];have:=g.ans2;omega
 ·rcases mem_modify hy with h | ⟨z,h1,rfl⟩
  ·exact g.room y h
  ·exact g.room z h1
theorem own_pc {t:Mach.Th} {i:Mach.In}:(Mach.own t i).pc=t.pc+1∨(Mach.own t i).pc=i.n∧18≤i.op∧i.op≤21:=by
 obtain ⟨op,on,a,b,c,d,n⟩:=i
 unfold Mach.own Mach.Th.put Mach.Th.tell
 dsimp only
 split <;> (try split) <;> first | exact .inl rfl | exact .inr ⟨rfl,by omega,by omega⟩
theorem own_told {t:Mach.Th} {i:Mach.In} {k:Nat} (h:∀ y∈t.ans,y.2.length+(k+1)<1000000000):∀ y∈(Mach.own t i).ans,y.2.length+k<1000000000:=by
 intro y hy
 by_cases e:i.op=22
 ·have e2:(Mach.own t i).ans=(t.tell (t.r i.a)).ans:=by
   obtain ⟨op,on,a,b,c,dd,n⟩:=i
   simp only at e
   subst e
   rfl
  rw [e2] at hy
  rcases mem_modify hy with h1 | ⟨z,h1,rfl⟩
  ·have:=h y h1;omega
  ·have:=h z h1
   simp only [List.length_append,List.length_cons,List.length_nil];omega
 ·rw [own_ans e] at hy
  have:=h y hy;omega
theorem own_len {t:Mach.Th} {i:Mach.In}:(Mach.own t i).ans.length=t.ans.length:=by
 by_cases e:i.op=22
 ·have e2:(Mach.own t i).ans=(t.tell (t.r i.a)).ans:=by
   obtain ⟨op,on,a,b,c,dd,n⟩:=i
   simp only at e
   subst e
   rfl
  rw [e2]
  show (t.ans.modify _ _).length=_
  rw [List.length_modify]
 ·rw [own_ans e]
theorem Good.next {cs:List Mach.Cl} {t:Mach.Th} {k:Nat} (g:Good cs t k) (hl:t.call<cs.length):t.next=Mach.fin∨t.next.ok=true∧t.pc+1<1000000:=by
 unfold Mach.Th.next Mach.Th.cl
 obtain ⟨cl,hcl⟩:∃ cl,t.calls[t.call]?=some cl:=⟨t.calls[t.call]'(by rw [g.calls];omega),by simp⟩
 rw [List.getD_eq_getElem?_getD,List.getD_eq_getElem?_getD,hcl,Option.getD_some]
 have hok:=List.all_eq_true.1 g.ok cl (by rw [← g.calls];exact List.mem_of_getElem? hcl)
 simp only [Mach.Cl.ok,Bool.and_eq_true,decide_eq_true_eq] at hok
 cases hp:cl.code[t.pc]? with
 | none=>exact .inl rfl
 | some y =>
  have:=(List.getElem?_eq_some_iff.1 hp).1
  exact .inr ⟨List.all_eq_true.1 hok.1.1.1 y (List.mem_of_getElem? hp),by omega⟩
theorem Good.own {cs:List Mach.Cl} {t:Mach.Th} {k:Nat} (g:Good cs t (k+1)) (hl:t.call<cs.length) (hn:t.next.op≠23):Good cs (Mach.own t t.next) k:=by
 obtain ⟨o1,o2,o3⟩:=own_calls (t:=t) (i:=t.next)
 rcases g.next hl with hf | ⟨hok,hpc⟩
 ·rw [hf] at hn;exact absurd rfl hn
 refine ⟨o1.trans g.calls,g.ok,g.len,?_,by rw [o2];exact g.call,by rw [o2,own_len];exact g.ans1,by rw [o2,own_len];exact g.ans2,own_told g.room⟩
 rcases own_pc (t:=t) (i:=t.next) with h | ⟨h,h2,h3⟩
 ·rw [h];exact hpc
 ·rw [h]
  simp only [Mach.In.ok,Bool.and_eq_true,decide_eq_true_eq,Bool.or_eq_true,Bool.not_eq_true',decide_eq_false_iff_not] at hok
  obtain ⟨⟨⟨_,hj⟩,_⟩,_⟩:=hok
  rcases hj with hj | hj
  ·simp at hj;omega
  ·exact hj
theorem Good.onF {cs:List Mach.Cl}:∀ {f:Nat} {t t':Mach.Th} {k:Nat},Good cs t (k+f)→k+f<1000000000→Mach.onF f t=some t'→Good cs t' k:=by
 intro f
 induction f with
 | zero=>intro t t' k g hk h;cases h
 | succ f ih =>
  intro t t' k g hk h
  have weak:∀ {t:Mach.Th} {m:Nat},Good cs t m→k≤m→Good cs t k:=fun g hm=>⟨g.calls,g.ok,g.len,g.pc,g.call,g.ans1,g.ans2,fun y hy=>by have:=g.room y hy;omega⟩
  unfold Mach.onF at h
  split at h
  ·cases h;exact weak g (by omega)
  split at h
  ·cases h;exact ⟨g.calls,g.ok,g.len,g.pc,g.call,g.ans1,g.ans2,fun y hy=>by have:=g.room y hy;omega⟩
  rename_i h1 h2
  have hl:t.call<cs.length:=by rw [← g.calls];omega
  have gb:=g.begun hk
  obtain ⟨b1,b2⟩:=begun_ans g
  split at h
  ·cases h;exact weak gb (by omega)
  split at h
  ·exact ih (k:=k) ⟨(gb.done (by rw [b1];exact b2) (by rw [b1];exact hl)).calls,g.ok,g.len,by show 0<1000000;omega,(gb.done (by rw [b1];exact b2) (by rw [b1];exact hl)).call,(gb.done (by rw [b1];exact b2) (by rw [b1];exact hl)).ans1,(gb.done (by rw [b1];exact b2) (by rw [b1];exact hl)).ans2,fun y hy=>by have:=(gb.done (by rw [b1];exact b2) (by rw [b1];exact hl)).room y hy;omega⟩ (by omega) h
  ·rename_i h3
   exact ih (k:=k) (Good.own (k:=k+f) gb (by rw [b1];exact hl) h3) (by omega) h
variable {B:Hand} [Lets B] {L F G:List HProp} {x:B.X}
end
section
structure PT where
 tb:Nat
 cw:CW
 cs:List Mach.Cl
def PT.cv (p:PT):Value:=p.cw.v p.cs.length
abbrev Calls:=List (CW × List Mach.Cl)
structure CallsOk (F:List HProp) (cc:Calls):Prop where
 n:cc.length<1000
 obs:∀ y∈cc,Obs F (codeC y.1 y.2)
 ok:∀ y∈cc,(y.2.all Mach.Cl.ok)=true
 len:∀ y∈cc,y.2.length<1000000
theorem CallsOk.there {F:List HProp} {cc:Calls} {d:HProp} (c:CallsOk F cc):CallsOk (d::F) cc:=⟨c.n,fun y hy=>(c.obs y hy).there,c.ok,c.len⟩
variable {B:Hand} [Lets B] {L F G:List HProp} {x:B.X}
end
section
def Stands (t:Mach.Th):Prop:=t.over=true∨Mach.told t.next.op=true∧t.call<t.calls.length
structure PlayOk (f:Nat) (s:Mach.St) (q:List (PT × Mach.Th)):Prop where
 l:q.map (·.2)=s.l
 tr:s.tr.length≤16384
 good:∀ y∈q,Good y.1.cs y.2 ((16384-s.tr.length)*(f+1))
 st:∀ y∈q,Stands y.2
variable {B:Hand} [Lets B] {L F G:List HProp} {x:B.X}
end
end Go.Proofs.Ytkgnkloonamheaa
namespace Go.PB.Mach
def St.cut (s:St):List Nat:=(List.range s.l.length).filter fun k=>match s.l[k]? with | some t=>!t.over | none=>false
end Go.PB.Mach
namespace Go.Proofs.Ytkgnkloonamheaa
open Go Go.PB
attribute [local irreducible] Mo Bin Eql Tr Wo Ap
variable {B:Hand} [Lets B] {L F G:List HProp} {x:B.X}
end Go.Proofs.Ytkgnkloonamheaa
namespace Go.Proofs.Ytkgnkloonamheaa
open Go Go.PB
attribute [local irreducible] Mo Bin Eql Tr Wo Ap
section
section
variable {B:Hand} [Lets B] {L F G:List HProp} {x:B.X} {n k v:Nat}
def yes (q:Bool):Nat:=if q then 1 else 0
end
end
end Go.Proofs.Ytkgnkloonamheaa
set_option maxRecDepth 4000
namespace Go.PB.Mach
structure CSt where
 c:Nat
 f:Nat
 v:Nat
 num:Nat
structure COk (k:Nat) (s:CSt):Prop where
 c:s.c<18446744073709551616
 f:s.f≤1
 v:s.v<4294967296
 num:s.num≤k
def CSt.words (s:CSt):List (List Nat):=[[s.c],[s.f],[s.num*4294967296+s.v]]
end Go.PB.Mach
namespace Go.Proofs.Ytkgnkloonamheaa
open Go Go.PB
attribute [local irreducible] Mo Bin Eql Tr Wo Ap Wle
section
section
variable {B:Hand} [Lets B] {x:B.X} {r nb c n mo cb v u nm:Nat} {L F:List HProp} {s:Nat→Nat} {ms:List (Int × Nat)}
def cAddr (r:Nat) (_:Nat):Nat × Nat:=(r,1)
def cK (r:Nat):List (Nat × Nat × Value):=[(r,0,.bool true)]
theorem c_apart (r:Nat):Apart (cAddr r) 1 (cK r) where
 inj:=fun i j hi hj _=>by omega
 fix:=fun i _ k hk=>by simp only [cK,List.mem_singleton] at hk;subst hk;simp [cAddr]
end
section
variable {B:Hand} [Lets B] {x:B.X} {cr fr r cb nb N mo V k:Nat} {L F:List HProp} {kind:Int} {st:Mach.CSt}
end
end
section
section
variable {B:Hand} [Lets B] {x:B.X} {r c n mo cb v u nm:Nat} {L F:List HProp} {s:Nat→Nat}
def cLone (x:B.X) (r:Nat):Acc B .nilIface:=loneAcc x (cAddr r) 1 (cK r) (c_apart r)
theorem cl_at:CntAt (cLone x r) r:=⟨fun s h st=>by
  obtain ⟨h1,h2,s1,hc,_⟩:=st
  exact ⟨rfl,.inl (s1.o1 _ _ _ (hc.2 (r,0,.bool true) (List.mem_singleton.2 rfl)))⟩,rfl⟩
theorem lone_in (hc:c<18446744073709551616) {h:Hp} (st:Star (arr r 0 [.bool true,.int .u64 (c:Nat)]::F) h):Star ((cLone x r).C (fun _=>c)::F) h:=by
 refine star_map st (fun h a=>⟨fun w hw=>⟨hc,a 1 _ rfl⟩,fun k hk=>?_⟩) (fun _ y=>y)
 simp only [cK,List.mem_singleton] at hk
 subst hk
 exact a 0 _ rfl
theorem lone_out {h:Hp} (st:Star ((cLone x r).C s::F) h):Star (arr r 0 [.bool true,.int .u64 (s 0:Nat)]::F) h:=by
 refine star_map st (fun h a i v hv=>?_) (fun _ y=>y)
 match i,hv with
 | 0,hv=>cases hv;exact a.2 (r,0,.bool true) (List.mem_singleton.2 rfl)
 | 1,hv=>cases hv;exact (a.1 0 (by omega)).2
def nilOnly (x:B.X):Acc B .nilIface:=loneAcc x (fun _=>(0,0)) 0 [] ⟨fun i j hi _ _=>by omega,fun i hi _ _=>by omega⟩
theorem nil_in {h:Hp} (st:Star F h):Star ((nilOnly x).C (fun _=>0)::F) h :=
 star_map (vec_nil (sz:=1) st) (fun _ _=>⟨fun w hw=>by omega,fun k hk=>by cases hk⟩) (fun _ y=>y)
theorem changeT_l {G:Nat→Nat × Bool} {T:Nat→Bool→(cLone x r).S→Prop} (h:if (G c).2=true then T (G c).1 true (upd (fun _=>c) 0 (G c).1) else T c false (fun _=>c)):ChangeT (cLone x r) G (fun _=>c) T:=by
 intro X hX
 refine hX _ ⟨by show 0<1;omega,?_⟩
 show if (G c).2=true then _ else _
 by_cases g:(G c).2=true
 ·rw [if_pos g] at h ⊢
  refine ⟨by show 0<1;omega,?_⟩
  rw [if_pos rfl]
  exact (iff_of_eq (if_pos rfl)).mpr h
 ·rw [if_neg g] at h ⊢
  exact h
theorem up_l {q:Bool} {c':Nat} (hc:c<18446744073709551616) (hn:n<18446744073709551616) (hm:mo<18446744073709551616) (hG:(if (upG n mo c).2=true then ((upG n mo c).1,true) else (c,false))=(c',q)) :
  Tr Try.prog B 25 [.pointer (some ⟨r,0,none⟩),.nilIface,.int .u64 (n:Nat),.int .u64 (mo:Nat)] (arr r 0 [.bool true,.int .u64 (c:Nat)]::F) x fun w L' x'=>w=.tuple #[.int .u64 (c':Nat),.bool q,.int .i64 0]∧L'=arr r 0 [.bool true,.int .u64 (c':Nat)]::F∧x'=x:=by
 refine tr_star ((cLone x r).C (fun _=>c)::F) (fun h st=>lone_in hc st) ?_
 refine (cup_tr (A:=cLone x r) cl_at hn hm (s:=fun _=>c) (Q:=fun o q' s'=>o=c'∧q'=q∧s' 0=c') (changeT_l ?_) .here).post ?_
 ·by_cases g:(upG n mo c).2=true
  ·rw [if_pos g] at hG ⊢
   cases hG
   exact ⟨rfl,rfl,upd_same⟩
  ·rw [if_neg g] at hG ⊢
   cases hG
   exact ⟨rfl,rfl,rfl⟩
 ·rintro w L' x' ⟨o,q',s',⟨rfl,rfl,h0⟩,rfl,rfl,rfl⟩
  exact ⟨_,⟨rfl,rfl,rfl⟩,fun h st=>by have:=lone_out st;rwa [h0] at this⟩
theorem set_l (hc:c<18446744073709551616):Tr Try.prog B 28 [.pointer (some ⟨r,0,none⟩),.nilIface] (arr r 0 [.bool true,.int .u64 (c:Nat)]::F) x fun w L' x'=>w=.tuple #[.bool (!decide (((c:Nat):Int)=1)),.int .i64 0]∧L'=arr r 0 [.bool true,.int .u64 (1:Nat)]::F∧x'=x:=by
 refine tr_star ((cLone x r).C (fun _=>c)::F) (fun h st=>lone_in hc st) ?_
 refine (fset_tr (A:=cLone x r) cl_at (s:=fun _=>c) (Q:=fun o s'=>o=c∧s' 0=1) ⟨by show 0<1;omega,rfl,upd_same⟩ .here).post ?_
 rintro w L' x' ⟨o,s',_,⟨rfl,h0⟩,rfl,rfl,rfl⟩
 exact ⟨_,⟨rfl,rfl,rfl⟩,fun h st=>by have:=lone_out st;rwa [h0] at this⟩
theorem put_l (hn:nm+1<18446744073709551616):Tr Try.prog B 49 [.pointer (some ⟨r,0,none⟩),.nilIface,.int .u32 (u:Nat)] (arr r 0 [.pointer (some ⟨cb,0,none⟩)]::arr cb 0 [.int .u32 (v:Nat),.int .u64 ((nm:Nat):Int)]::shpC cb 158 2::F) x fun w L' x'=>∃ cb',w=.tuple #[.int .u64 ((nm+1:Nat):Int),.int .i64 0]∧L'=arr r 0 [.pointer (some ⟨cb',0,none⟩)]::arr cb' 0 [.int .u32 (u:Nat),.int .u64 ((nm+1:Nat):Int)]::shpC cb' 158 2::F∧x'=x:=by
 refine tr_star ((nilOnly x).C (fun _=>0)::arr r 0 [.pointer (some ⟨cb,0,none⟩)]::arr cb 0 [.int .u32 (v:Nat),.int .u64 ((nm:Nat):Int)]::shpC cb 158 2::F) (fun h st=>nil_in st) ?_
 refine (bput_tr (A:=nilOnly x) (cb:=cb) (v:=v) (num:=nm) (F:=F) hn (s:=fun _=>0) (Q:=fun _=>True) trivial).post ?_
 rintro w L' x' ⟨s',cb',_,rfl,rfl,rfl⟩
 exact ⟨_,⟨cb',rfl,rfl,rfl⟩,fun h st=>star_drop st⟩
theorem bget_l:Tr Try.prog B 50 [.pointer (some ⟨r,0,none⟩),.nilIface] (arr r 0 [.pointer (some ⟨cb,0,none⟩)]::arr cb 0 [.int .u32 (v:Nat),.int .u64 ((nm:Nat):Int)]::shpC cb 158 2::F) x fun w L' x'=>w=.tuple #[.int .u32 (v:Nat),.int .u64 (nm:Nat),.int .i64 0]∧L'=arr r 0 [.pointer (some ⟨cb,0,none⟩)]::arr cb 0 [.int .u32 (v:Nat),.int .u64 ((nm:Nat):Int)]::shpC cb 158 2::F∧x'=x:=by
 refine tr_star ((nilOnly x).C (fun _=>0)::arr r 0 [.pointer (some ⟨cb,0,none⟩)]::arr cb 0 [.int .u32 (v:Nat),.int .u64 ((nm:Nat):Int)]::shpC cb 158 2::F) (fun h st=>nil_in st) ?_
 refine (bget_tr (A:=nilOnly x) (cb:=cb) (v:=v) (num:=nm) (F:=F) (s:=fun _=>0) (Q:=fun _=>True) trivial).post ?_
 rintro w L' x' ⟨s',_,rfl,rfl,rfl⟩
 exact ⟨_,⟨rfl,rfl,rfl⟩,fun h st=>star_drop st⟩
theorem works_tr:Tr Try.prog B 17 [] L x fun v L' x'=>v=.bool true∧L'=L∧x'=x:=by
 refine Tr.post (R:=fun v L' x'=>v=.bool true∧x'=x∧∀ h,Star L' h→Star L h) ?_ (by rintro v L' x' ⟨h0,rfl,hs⟩;exact ⟨L,⟨h0,rfl,rfl⟩,hs⟩)
 refine tr_of_body Try.func17 rfl Try.ntmps17 (by simp) fun um Q _ hQ=>?_
 simp only [argE,Nat.zero_add,Nat.reduceAdd]
 repeat (first | refine we_seq ?_ | (refine wR ?_;try simp only [oS]) | refine wo_nil ?_ | refine wA ?_)
 refine wo_call (.cons rfl (.cons rfl .nil)) trivial (made_tr (c:=5) (v:=7) (by omega)) ?_
 rintro v' L' x' ⟨cr,fr,r,cb,rfl,rfl,rfl⟩
 repeat (first | (apply wo_mo;apply mo_alloc;exact trivial))
 rintro v' L' ⟨zb,rfl,rfl⟩
 repeat (first | (apply wo_pm;apply mo_storeA (b:=zb) (c:=0) (k:=0) (a:=0) (vs:=[.pointer none,.pointer none,.pointer none]);exact rfl;exact rfl;exact rfl;(intro w hw;simp [Value.cells] at hw;rcases hw with rfl | rfl | rfl <;> rfl);exact rfl;exact Nat.le_refl 3;exact .here;exact trivial) | refine we_seq ?_ | (refine wR ?_;try simp only [oS]) | refine wo_nil ?_ | refine wD ?_ | refine wL ?_)
 refine wo_star (arr cr 0 [.bool true,.int .u64 (5:Nat)]::arr zb 0 [.pointer (some ⟨cr,0,none⟩),.pointer (some ⟨fr,0,none⟩),.pointer (some ⟨r,0,none⟩)]::arr fr 0 [.bool true,.int .u64 0]::arr r 0 [.pointer (some ⟨cb,0,none⟩)]::arr cb 0 [.int .u32 (7:Nat),.int .u64 ((0:Nat):Int)]::shpC cb 158 2::L) (fun h st=>Ent.star (.take (.there (.there (.there (.there (.there .here))))) (.take .here (.take (.there (.there (.there .here))) .refl))) st) ?_
 refine wo_call (.cons rfl (.cons rfl (.cons rfl (.cons rfl .nil)))) trivial (up_l (c:=5) (n:=3) (mo:=8) (q:=true) (c':=8) (by omega) (by omega) (by omega) (by decide)) ?_
 rintro v' L' x' ⟨rfl,rfl,rfl⟩
 repeat (first | refine we_seq ?_ | (refine wR ?_;try simp only [oS]) | refine wo_nil ?_ | refine wM ?_ | refine wA ?_ | refine wD ?_ | (apply wo_po;apply mo_extract;exact rfl;exact rfl;exact gY) | refine wL ?_)
 refine wo_call (.cons rfl (.cons rfl (.cons rfl (.cons rfl .nil)))) trivial (up_l (c:=8) (n:=1) (mo:=8) (q:=false) (c':=8) (by omega) (by omega) (by omega) (by decide)) ?_
 rintro v' L' x' ⟨rfl,rfl,rfl⟩
 repeat (first | refine we_seq ?_ | (refine wR ?_;try simp only [oS]) | refine wo_nil ?_ | refine wM ?_ | refine wA ?_ | refine wD ?_ | (apply wo_po;apply mo_extract;exact rfl;exact rfl;exact gY) | refine wL ?_)
 refine wo_star (arr fr 0 [.bool true,.int .u64 (0:Nat)]::arr cr 0 [.bool true,.int .u64 (8:Nat)]::arr zb 0 [.pointer (some ⟨cr,0,none⟩),.pointer (some ⟨fr,0,none⟩),.pointer (some ⟨r,0,none⟩)]::arr r 0 [.pointer (some ⟨cb,0,none⟩)]::arr cb 0 [.int .u32 (7:Nat),.int .u64 ((0:Nat):Int)]::shpC cb 158 2::L) (fun h st=>Ent.star (.take (.there (.there .here)) (.take .here (.take .here .refl))) st) ?_
 refine wo_call (.cons rfl (.cons rfl .nil)) trivial (set_l (c:=0) (by omega)) ?_
 rintro v' L' x' ⟨rfl,rfl,rfl⟩
 repeat (first | refine we_seq ?_ | (refine wR ?_;try simp only [oS]) | refine wo_nil ?_ | refine wM ?_ | refine wA ?_ | refine wD ?_ | (apply wo_po;apply mo_extract;exact rfl;exact rfl;exact gY) | refine wL ?_)
 refine wo_call (.cons rfl (.cons rfl .nil)) trivial (set_l (c:=1) (by omega)) ?_
 rintro v' L' x' ⟨rfl,rfl,rfl⟩
 repeat (first | refine we_seq ?_ | (refine wR ?_;try simp only [oS]) | refine wo_nil ?_ | refine wM ?_ | refine wA ?_ | refine wD ?_ | (apply wo_po;apply mo_extract;exact rfl;exact rfl;exact gY) | refine wL ?_)
 refine wo_star (arr r 0 [.pointer (some ⟨cb,0,none⟩)]::arr cb 0 [.int .u32 (7:Nat),.int .u64 ((0:Nat):Int)]::shpC cb 158 2::arr fr 0 [.bool true,.int .u64 (1:Nat)]::arr cr 0 [.bool true,.int .u64 (8:Nat)]::arr zb 0 [.pointer (some ⟨cr,0,none⟩),.pointer (some ⟨fr,0,none⟩),.pointer (some ⟨r,0,none⟩)]::L) (fun h st=>Ent.star (.take (.there (.there (.there .here))) (.take (.there (.there (.there .here))) (.take (.there (.there (.there .here))) .refl))) st) ?_
 refine wo_call (.cons rfl (.cons rfl (.cons rfl .nil))) trivial (put_l (v:=7) (nm:=0) (u:=9) (by omega)) ?_
 rintro v' L' x' ⟨cb',rfl,rfl,rfl⟩
 repeat (first | refine we_seq ?_ | (refine wR ?_;try simp only [oS]) | refine wo_nil ?_ | refine wM ?_ | refine wA ?_ | refine wD ?_ | (apply wo_po;apply mo_extract;exact rfl;exact rfl;exact gY) | refine wL ?_)
 refine wo_call (.cons rfl (.cons rfl .nil)) trivial (bget_l (v:=9) (nm:=0+1)) ?_
 rintro v' L' x' ⟨rfl,rfl,rfl⟩
 repeat (first | refine weqlT ?_ | refine we_seq ?_ | (refine wR ?_;try simp only [oS]) | refine wo_nil ?_ | refine wM ?_ | refine wA ?_ | refine wK ?_ | (apply wo_po;apply mo_extract;exact rfl;exact rfl;exact gY) | (apply wo_po;apply mo_not;exact rfl;exact gY) | refine we_ret ?_)
 (first | refine or1 Try.func17 Try.results17 hQ rfl ?_ | refine on1 Try.func17 Try.results17 hQ rfl ?_)
 exact ⟨rfl,rfl,fun h st=>Ent.star (.drop (.drop (.drop (.drop (.drop (.drop .refl)))))) st⟩
end
end
end Go.Proofs.Ytkgnkloonamheaa
namespace Go.Proofs.Ytkgnkloonamheaa
open Go Go.PB
attribute [local irreducible] Mo Bin Eql Tr Wo Ap Wle
attribute [local instance] Pass.of_no
section
def boxesC (ts:List Nat):List HProp:=ts.mapIdx fun i b=>fro b 0 [.int .i64 (i:Nat)]
theorem boxesC_snoc {ts:List Nat} {b:Nat}:boxesC (ts++[b])=boxesC ts++[fro b 0 [.int .i64 (ts.length:Nat)]]:=by
 unfold boxesC
 rw [List.mapIdx_append]
 simp
theorem row_cellsC {b:Nat} {v:Value} {L:List HProp}:∀ (n o:Nat) {h:Hp},Star (arr b o (List.replicate n v)::L) h→Star (all ((List.range' o n).map fun i=>arr b i [v])::L) h
 | 0,o,h,s=>star_shut (M:=[]) (star_drop s)
 | n+1,o,h,s=>by
  rw [List.replicate_succ] at s
  have s1:Star (arr b o [v]::arr b (o+1) (List.replicate n v)::L) h:=star_cut (us:=[v]) s
  rw [List.range'_succ,List.map_cons]
  exact cons_all (star_map s1 (fun _ z=>z) fun _ z=>row_cellsC n (o+1) z)
abbrev RWZ:=Option Addr × Nat × List Int
section
variable {most sb gb r fr b g10 xb cb7 mb s9 n tc c:Nat} {ta:Option Addr} {rs:List RWZ} {L:List HProp} {ts:List Nat} {RoS:HProp}
theorem dup_ro {RoS:HProp} (hd:Dup RoS) {y:Nat} {v:Value}:Dup (all [RoS,fro y 0 [v]]):=dup_all (by
 intro c hc
 simp only [List.mem_cons,List.not_mem_nil,or_false] at hc
 rcases hc with rfl | rfl
 ·exact hd
 ·exact dup_fro)
theorem sum_leC {c:Nat}:∀ {l:List Nat},(∀ a∈l,a≤c)→sumN l≤c*l.length
 | [],_=>Nat.zero_le _
 | a::l,h=>by
  have h1:=h a (by simp)
  have h2:=sum_leC (c:=c) (l:=l) fun b hb=>h b (by simp [hb])
  simp only [sumN,List.foldr_cons,List.length_cons,Nat.mul_add,Nat.mul_one] at h2 ⊢;omega
end
end
section
def coTc (RoS:HProp) (sb i ib:Nat):HProp:=all [all [RoS,fro ib 0 [.int .i64 (i:Nat)]],coP sb i 0]
theorem dealO {RoS:HProp} (hd:Dup RoS) {sb:Nat} {ts:List Nat} {L:List HProp} {h:Hp} (s:Star (RoS::all (boxesC ts)::arr sb 0 (List.replicate ts.length (.int .i64 0))::L) h):Star (all (ts.mapIdx (coTc RoS sb))::RoS::L) h:=by
 have s1:=dup_many hd s ts.length
 have s2:Star (all (List.replicate ts.length RoS)::all (boxesC ts)::arr sb 0 (List.replicate ts.length (.int .i64 0))::RoS::L) h:=Ent.star (.take .here (.take (.there .here) (.take (.there .here) (.take .here .refl)))) s1
 have s3:=star_zip (by simp [boxesC]) s2
 have s4:=row_cellsC ts.length 0 (star_swap s3)
 have s5:=star_zip (by simp [boxesC]) (star_swap s4)
 have e:List.zipWith (fun a b=>all [a,b]) (List.zipWith (fun a b=>all [a,b]) (List.replicate ts.length RoS) (boxesC ts)) ((List.range' 0 ts.length).map fun i=>arr sb i [.int .i64 0])=ts.mapIdx (coTc RoS sb):=by
  apply List.ext_getElem?
  intro i
  by_cases hi:i<ts.length
  ·simp [boxesC,coTc,coP,hi,List.getElem?_zipWith,List.getElem?_range']
  ·have h1:(ts.mapIdx (coTc RoS sb))[i]?=none:=List.getElem?_eq_none_iff.2 (by simp;omega)
   rw [h1]
   apply List.getElem?_eq_none_iff.2
   simp [boxesC];omega
 rw [e] at s5
 exact s5
def coVals (N:List Nat) (times:Nat) (i:Nat):List (Bool × Nat):=coV (decide (i<N.length)) (N.getD i 0) (1+times%20)
abbrev numC (l:List Nat):List Value:=l.map fun v=>.int .u64 (v:Nat)
abbrev coS (tb cb7 s9 xb sb r fr b n times tc:Nat) (ta:Option Addr) (N:List Nat) (L:List HProp):List HProp:=[fro fr 0 [.bool true],fro r 0 [.bool true],fro s9 0 [.slice (some ⟨sb,0,none⟩) n n],fro cb7 0 [.pointer (some ⟨r,0,none⟩),.pointer (some ⟨fr,0,none⟩),.pointer (some ⟨b,0,none⟩)],fro xb 0 [.slice ta N.length tc],fro tb 0 [.int .u8 (times:Nat)],all L]
def coTs (sb r fr tb cb7 s9 xb times:Nat) (RoS:HProp) (N:List Nat) (ts:List Nat):List (ThrT ((coW sb).g (oAddr r fr) 2 [])):=ts.mapIdx fun i ib=>⟨coFn tb cb7 s9 ib xb,(show ((coW sb).g (oAddr r fr) 2 []).θ from (⟨coVals N times i,.a,0,i⟩:CoQ)),coTc RoS sb i ib⟩
def coQs (N:List Nat) (times:Nat) (ts:List Nat):List CoQ:=ts.mapIdx fun i _=>(⟨coVals N times i,.a,0,i⟩:CoQ)
section
variable {sb r fr tb cb7 s9 xb b n times tc:Nat} {ta:Option Addr} {N:List Nat} {L:List HProp} {ts:List Nat} {RoS:HProp}
theorem coTs_ro (hro:RdsO L ta N.length (numC N)) (hN:∀ v∈N,v<18446744073709551616) (hts:ts.length=n) (hn:n≤6) (hm:times≤255) {i y:Nat} (hy:ts[i]?=some y) :
  CoRo (all [all (coS tb cb7 s9 xb sb r fr b n times tc ta N L),fro y 0 [.int .i64 (i:Nat)]]) tb cb7 s9 y xb sb r fr n i times N.length tc (N.getD i 0) ta:=by
 have hil:=(List.getElem?_eq_some_iff.1 hy).1
 have lift:∀ {b1 o v},Rd (coS tb cb7 s9 xb sb r fr b n times tc ta N L) b1 o v→Rd [all [all (coS tb cb7 s9 xb sb r fr b n times tc ta N L),fro y 0 [.int .i64 (i:Nat)]]] b1 o v:=fun h=>rd_allW (rd_allW h)
 have liftL:∀ {b1 o v},Rd L b1 o v→Rd [all [all (coS tb cb7 s9 xb sb r fr b n times tc ta N L),fro y 0 [.int .i64 (i:Nat)]]] b1 o v:=fun h=>lift (.there (.there (.there (.there (.there (.there (rd_allW h)))))))
 exact
  {
   h1:=lift (.there (.there (.there (.there (.there (Rd.fro (k:=0) rfl rfl))))))
   h2:=lift (.there (.there (.there (Rd.fro (k:=0) rfl rfl))))
   h2':=lift (.there (.there (.there (Rd.fro (k:=1) rfl rfl))))
   h3:=lift (.there (.there (Rd.fro (k:=0) rfl rfl)))
   h4:=rd_allW (.there (Rd.fro (k:=0) rfl rfl))
   h5:=lift (.there (.there (.there (.there (Rd.fro (k:=0) rfl rfl)))))
   h6:=fun hlt=>by
    obtain ⟨b',o',e,hrd⟩:=hro.rds (by omega)
    refine ⟨b',o',e,liftL (hrd i _ ?_)⟩
    rw [List.getElem?_map,List.getElem?_eq_getElem hlt]
    simp [List.getElem?_eq_getElem hlt]
   hC:=lift (.there (Rd.fro (k:=0) rfl rfl))
   hF:=lift (Rd.fro (k:=0) rfl rfl)
   hk:=by omega
   hn:=hn
   hm:=hm
   hv:=by
    by_cases hlt:i<N.length
    ·have:N.getD i 0=N[i]:=by simp [List.getElem?_eq_getElem hlt]
     rw [this]
     exact hN _ (List.getElem_mem hlt)
    ·have:N.getD i 0=0:=by simp [List.getElem?_eq_none (Nat.le_of_not_lt hlt)]
     rw [this];decide }
theorem coTs_at {t:ThrT ((coW sb).g (oAddr r fr) 2 [])} (ht:t∈coTs sb r fr tb cb7 s9 xb times RoS N ts):∃ i y,ts[i]?=some y∧t=⟨coFn tb cb7 s9 y xb,(⟨coVals N times i,.a,0,i⟩:CoQ),coTc RoS sb i y⟩:=by
 obtain ⟨i,hi⟩:=List.mem_iff_getElem?.1 ht
 simp only [coTs,List.getElem?_mapIdx,Option.map_eq_some_iff] at hi
 obtain ⟨y,hy,rfl⟩:=hi
 exact ⟨i,y,hy,rfl⟩
theorem coTs_M:(coTs sb r fr tb cb7 s9 xb times RoS N ts).map ThrT.M=ts.mapIdx (coTc RoS sb):=by
 apply List.ext_getElem?
 intro k
 simp only [coTs,List.getElem?_map,List.getElem?_mapIdx]
 cases ts[k]? <;> rfl
theorem coTs_fv:(coTs sb r fr tb cb7 s9 xb times RoS N ts).map ThrT.fv=ts.map fun ib=>coFn tb cb7 s9 ib xb:=by
 apply List.ext_getElem?
 intro k
 simp only [coTs,List.getElem?_map,List.getElem?_mapIdx]
 cases ts[k]? <;> rfl
theorem coTs_q:coQs N times ts=(coTs sb r fr tb cb7 s9 xb times RoS N ts).map fun t=>(show CoQ from t.q0):=by
 unfold coQs coTs
 apply List.ext_getElem?
 intro k
 rw [List.getElem?_map,List.getElem?_mapIdx,List.getElem?_mapIdx]
 cases ts[k]? <;> rfl
theorem cok_set {qs:List CoQ} {m:Nat} {q q':CoQ} (hq:qs[m]?=some q) (h:q'.k=q.k):(qs.set m q').map CoQ.k=qs.map CoQ.k:=by
 rw [List.map_set,h]
 apply List.ext_getElem?
 intro j
 have hlt:m<qs.length:=(List.getElem?_eq_some_iff.1 hq).1
 rw [List.getElem?_set]
 split
 ·rename_i hj
  subst hj
  rw [if_pos (by rw [List.length_map];exact hlt),List.getElem?_map,hq];rfl
 ·rfl
def coD (N:List Nat) (times n:Nat) (q0:List CoQ) (hq0:q0.length=n):FreeD ((coW sb).g (oAddr r fr) 2 []) where
 q0:=q0
 N:=sumN (q0.map (coφ (0,3)))
 I:=fun s qs=>CoI (cmAll (coVals N times) n) (coVals N times) s qs∧(show List CoQ from qs).map CoQ.k=q0.map CoQ.k
 φ:=fun s qs=>sumN ((show List CoQ from qs).map (coφ (show Nat × Nat from s)))
 ok:=fun s qs h=>trivial
 step:=fun s qs j q mk f h hq hp=>by
  have hl:(show List CoQ from qs).length=n:=by
   have:=congrArg List.length h.2
   rw [List.length_map,List.length_map,hq0] at this
   exact this
  obtain ⟨a,b⟩:=co_step (fun k hk=>cmAll_ge k (by rw [hl] at hk;exact hk)) h.1 hq hp
  refine ⟨⟨a,?_⟩,b⟩
  have hb:=co_k hp s
  rw [← h.2]
  exact cok_set hq hb
theorem sumN_zero {α:Type} {φ:α→Nat} {l:List α} (h:∀ a∈l,φ a=0):sumN (l.map φ)=0:=by
 induction l with
 | nil=>rfl
 | cons a l ih =>
  have h1:=ih fun b hb=>h b (by simp [hb])
  have h2:=h a (by simp)
  simp only [List.map_cons,sumN,List.foldr_cons] at h1 ⊢;omega
theorem co_I0 (h6:ts.length≤6):CoI (cmAll (coVals N times) n) (coVals N times) (0,3) (coQs N times ts)∧(coQs N times ts).map CoQ.k=List.range ts.length∧sumN ((coQs N times ts).map (coφ (0,3)))<16384:=by
 have hmem:∀ (k:Nat) q,(coQs N times ts)[k]?=some q→q=⟨coVals N times k,.a,0,k⟩:=fun k q hq=>by
  simp only [coQs,List.getElem?_mapIdx,Option.map_eq_some_iff] at hq
  obtain ⟨y,_,rfl⟩:=hq
  rfl
 have hlen:(coQs N times ts).length=ts.length:=by simp [coQs]
 have hvl:∀ k,(coVals N times k).length=1+times%20:=fun k=>coV_len
 refine ⟨⟨by omega,Nat.zero_le _,?_,Nat.le_refl 3,cmAll_lo,fun k q hq=>?_⟩,?_,?_⟩
 ·exact sumN_zero fun q hq=>by
   obtain ⟨k,hk⟩:=List.mem_iff_getElem?.1 hq
   rw [hmem k q hk]
 ·rw [hmem k q hq]
  refine ⟨fun y hy _=>.inr hy,fun y hy=>hy,fun _=>⟨fun h=>?_,rfl⟩,.inl rfl,fun o y rest h=>(by cases h),by simp only [hvl];omega⟩
  have h1:=hvl k
  simp only at h
  rw [h] at h1
  simp at h1
  omega
 ·apply List.ext_getElem?
  intro k
  rw [List.getElem?_map]
  unfold coQs
  rw [List.getElem?_mapIdx]
  by_cases hk:k<ts.length
  ·rw [List.getElem?_eq_getElem hk,List.getElem?_range hk];rfl
  ·rw [List.getElem?_eq_none (by omega),List.getElem?_eq_none (by simp;omega)];rfl
 ·have h1:∀ a∈(coQs N times ts).map (coφ (0,3)),a≤400:=fun a ha=>by
   obtain ⟨q,hq,rfl⟩:=List.mem_map.1 ha
   obtain ⟨k,hk⟩:=List.mem_iff_getElem?.1 hq
   rw [hmem k q hk]
   have:=co_next (s:=(0,3)) (rest:=coVals N times k) (set:=0) (kk:=k)
   rw [hvl] at this
   omega
  have h2:=sum_leC h1
  rw [List.length_map,hlen] at h2
  omega
theorem co_cut {u v:Nat} (hu:u<18446744073709551616) (hv:v<18446744073709551616) {M:List HProp} {h:Hp} (s:Star (arr r 0 [.bool true,.int .u64 (v:Nat)]::arr fr 0 [.bool true,.int .u64 (u:Nat)]::M) h):Star (wds (oAddr r fr) 2 [] (coWf (u,v))::arr r 0 [.bool true]::arr fr 0 [.bool true]::M) h:=by
 have s1:Star (arr r 0 [.bool true]::arr r (0+1) [.int .u64 (v:Nat)]::arr fr 0 [.bool true,.int .u64 (u:Nat)]::M) h:=star_cut (us:=[_]) s
 have s2:Star (arr fr 0 [.bool true,.int .u64 (u:Nat)]::arr r 0 [.bool true]::arr r (0+1) [.int .u64 (v:Nat)]::M) h:=Ent.star (.take (.there (.there .here)) (.take .here (.take .here .refl))) s1
 have s3:Star (arr fr 0 [.bool true]::arr fr (0+1) [.int .u64 (u:Nat)]::arr r 0 [.bool true]::arr r (0+1) [.int .u64 (v:Nat)]::M) h:=star_cut (us:=[_]) s2
 have s4:Star (all [arr fr (0+1) [.int .u64 (u:Nat)],arr r (0+1) [.int .u64 (v:Nat)]]::arr r 0 [.bool true]::arr fr 0 [.bool true]::M) h:=star_shut (M:=[_,_]) (Ent.star (.take (.there .here) (.take (.there (.there .here)) (.take (.there .here) (.take .here .refl)))) s3)
 refine star_map s4 (fun h a=>?_) fun _ z=>z
 obtain ⟨g1,g2,sp,c1,g3,g4,sp2,c2,_⟩:=a
 refine ⟨fun w hw=>?_,fun k hk=>by simp at hk⟩
 match w,hw with
 | 0,_=>exact ⟨hu,sp.o1 _ _ _ (c1 0 _ rfl)⟩
 | 1,_=>exact ⟨hv,sp.o2 _ _ _ (sp2.o1 _ _ _ (c2 0 _ rfl))⟩
end
end
section
theorem mo_maxC {P:Program} {e:Env} {ty:TypeId} {L:List HProp} {o o':Operand} {tys:Array TypeId} {k:IntKind} {a b c:Nat} (hx:ev e o=some (.int k a)) (hy:ev e o'=some (.int k b)) (h:max a b=c):Mo P e (.call ⟨.builtin .max,#[o,o'],tys⟩) ty L fun v' L'=>v'=.int k c∧L'=L:=by
 have:=mo_max (P:=P) (ty:=ty) (L:=L) (tys:=tys) hx hy
 rw [show max (a:Int) (b:Int)=(c:Int) by omega] at this
 exact this
theorem cos_take {q:CoQ} {l:List CoQ} {i:Nat} (h:l[i]?=some q):sumN ((l.take (i+1)).map CoQ.set)=sumN ((l.take i).map CoQ.set)+q.set:=by
 rw [List.take_add_one,h]
 simp only [Option.toList_some,List.map_append,List.map_cons,List.map_nil]
 generalize (l.take i).map CoQ.set=m
 induction m with
 | nil=>simp [sumN]
 | cons a m ih=>simp only [sumN,List.cons_append,List.foldr_cons] at ih ⊢;omega
theorem cos_le:∀ {l:List CoQ} {i:Nat},sumN ((l.take i).map CoQ.set)≤sumN (l.map CoQ.set)
 | [],_=>by simp [sumN]
 | _::_,0=>by simp [sumN]
 | a::l,i+1=>by
  have:=cos_le (l:=l) (i:=i)
  simp only [List.take_succ_cons,List.map_cons,sumN,List.foldr_cons] at this ⊢;omega
def coOut (tb xb yb cb7 s9 n:Nat) (L5:List HProp):PB.Inv (Nat × Nat × Value × List Nat) MX where
 e:=fun i=>[(3,.pointer (some ⟨xb,0,none⟩)),(4,.pointer (some ⟨tb,0,none⟩)),(5,.pointer (some ⟨yb,0,none⟩)),(7,.pointer (some ⟨cb7,0,none⟩)),(8,.int .i64 (n:Nat)),(9,.pointer (some ⟨s9,0,none⟩)),(10,i.2.2.1),(11,.pointer (some ⟨i.2.1,0,none⟩))]
 L:=fun i=>arr i.2.1 0 [.int .i64 (i.1:Nat)]::vec 1 i.2.2.1 (i.2.2.2.map fun ib=>coFn tb cb7 s9 ib xb)::all (boxesC i.2.2.2)::L5
 x:=fun _=>.idle
 ok:=fun i=>i.1≤n∧i.2.2.2.length=i.1
def coSum (tb xb cb7 s9 n:Nat) (qs:List CoQ) (vals:Nat→List (Bool × Nat)) (R:List HProp):PB.Inv Nat MX where
 e:=fun i=>[(3,.pointer (some ⟨xb,0,none⟩)),(4,.pointer (some ⟨tb,0,none⟩)),(7,.pointer (some ⟨cb7,0,none⟩)),(8,.int .i64 (n:Nat)),(9,.pointer (some ⟨s9,0,none⟩)),(12,.int .i64 (sumN ((qs.take i).map CoQ.set):Nat)),(13,.int .u64 (cmAll vals i:Nat)),(14,.int .i64 (i:Nat))]
 L:=fun _=>R
 x:=fun _=>.idle
 ok:=fun i=>i≤n
def coMax (tb xb cb7 s9 n i a c:Nat) (l:List (Bool × Nat)) (R:List HProp):PB.Inv Nat MX where
 e:=fun j=>[(3,.pointer (some ⟨xb,0,none⟩)),(4,.pointer (some ⟨tb,0,none⟩)),(7,.pointer (some ⟨cb7,0,none⟩)),(8,.int .i64 (n:Nat)),(9,.pointer (some ⟨s9,0,none⟩)),(12,.int .i64 (a:Nat)),(13,.int .u64 (cmV c (l.take j):Nat)),(14,.int .i64 (i:Nat)),(15,.int .i64 (j:Nat))]
 L:=fun _=>R
 x:=fun _=>.idle
 ok:=fun j=>j≤l.length
set_option maxHeartbeats 8000000 in
theorem one_tr {L:List HProp} {times:Nat} {ta oa:Option Addr} {tc oc:Nat} {N:List Nat} {fr:Bool} {order:List Int} (hL:Dup (all L)) (htm:times≤255) (hN:RdsO L ta N.length (numC N)) (hN64:∀ v∈N,v<18446744073709551616) (hlen:N.length≤9223372036854775807) (hro:RdsO L oa order.length (intC order)) (hoi:∀ k∈order,-9223372036854775808≤k∧k≤9223372036854775807) :
  Tr Try.prog mT 6 [.slice ta N.length tc,.int .u8 (times:Nat),.agg #[.bool fr,.slice oa order.length oc]] L .idle fun v L' x'=>v=.bool true∧x'=.idle:=by
 refine tr_of_body Try.func6 rfl Try.ntmps6 (by simp) fun um Q _ hQ=>?_
 simp only [argE,Nat.zero_add,Nat.reduceAdd]
 repeat (first | (apply wo_mo;apply mo_box;exact rfl;exact trivial) | refine we_seq ?_ | (refine wR ?_;try simp only [oS]))
 rintro v' L' ⟨xb,rfl,rfl⟩
 repeat (first | (apply wo_mo;apply mo_box;exact rfl;exact trivial))
 rintro v' L' ⟨tb,rfl,rfl⟩
 repeat (first | (apply wo_mo;apply mo_box;exact rfl;exact trivial))
 rintro v' L' ⟨yb,rfl,rfl⟩
 refine wo_ent (arr yb 0 [.bool fr,.slice oa order.length oc]::arr tb 0 [.int .u8 (times:Nat)]::arr xb 0 [.slice ta N.length tc]::L) .refl ?_
 repeat (first | refine we_seq ?_ | (refine wR ?_;try simp only [oS]) | refine wo_nil ?_ | refine wA ?_)
 refine wo_call .nil trivial works_tr ?_
 rintro v1 L1 x1 ⟨rfl,hL1,rfl⟩
 rw [hL1]
 clear hL1
 repeat (first | refine we_seq ?_ | (refine wR ?_;try simp only [oS]) | refine wo_nil ?_ | (apply wo_po;apply mo_not;exact rfl;exact gY) | refine wF ?_ | refine we_skip ?_)
 refine wo_call (.cons rfl (.cons rfl .nil)) trivial (made_tr (c:=3) (v:=0) (by omega)) ?_
 rintro v1 L1 x1 ⟨r,frr,b,cb,rfl,rfl,rfl⟩
 refine wo_pure (p:=frr≠r) (fun h st=>star_ne (Ent.star (.take (.there (.there (.there .here))) (.take (.there (.there (.there .here))) .refl)) st)) fun hne=>?_
 repeat (first | (apply wo_mo;apply mo_alloc;exact trivial))
 rintro v' L' ⟨cb7,rfl,rfl⟩
 obtain ⟨n,hn⟩:∃ n:Nat,max 1 (min ((N.length:Nat):Int) 6)=n:=⟨(max 1 (min ((N.length:Nat):Int) 6)).toNat,by omega⟩
 have hn1:1≤n:=by omega
 have hn6:n≤6:=by omega
 have rx:∀ {a b c d e f g h:HProp} {M:List HProp},Rd (a::b::c::d::e::f::g::h::arr xb 0 [.slice ta N.length tc]::M) xb 0 (.slice ta N.length tc):=fun {a b c d e f g h M}=>.there (.there (.there (.there (.there (.there (.there (.there (Rd.row (k:=0) rfl rfl))))))))
 repeat (first | (apply wo_pm;apply mo_storeA (c:=0) (k:=0) (a:=0) (vs:=[.pointer none,.pointer none,.pointer none]);exact rfl;exact rfl;exact rfl;(intro w hw;simp [Value.cells] at hw;rcases hw with rfl | rfl | rfl <;> rfl);exact rfl;exact Nat.le_refl 3;exact .here;exact trivial) | (apply wo_po;apply mo_load;exact rfl;exact rx;exact trivial) | (apply wo_po;apply mo_min;exact rfl;exact rfl;exact trivial) | (apply wo_po;apply mo_max;exact rfl;exact rfl;exact trivial) | refine we_seq ?_ | (refine wR ?_;try simp only [oS]) | refine wo_nil ?_ | refine wM ?_ | refine wA ?_ | refine wE ?_)
 rw [hn]
 repeat (first | (apply wo_mo;apply mo_make (n:=n);exact rfl;exact rfl;exact rfl;omega;omega;exact trivial))
 rintro v' L' ⟨sb,rfl,rfl⟩
 repeat (first | (apply wo_mo;apply mo_alloc;exact trivial))
 rintro v' L' ⟨s9,rfl,rfl⟩
 repeat (first | refine wS ?_ | (apply wo_mo;apply mo_alloc;exact trivial) | refine we_seq ?_ | (refine wR ?_;try simp only [oS]) | refine wo_nil ?_ | refine wA ?_)
 rintro v' L' ⟨ib,rfl,rfl⟩
 refine wo_frz (b:=tb) (o:=0) (.there (.there (.there (.there (.there (.there (.there (.there (.there (.there .here)))))))))) ?_
 refine wo_frz (b:=xb) (o:=0) (.there (.there (.there (.there (.there (.there (.there (.there (.there (.there (.there .here))))))))))) ?_
 refine wo_frz (b:=cb7) (o:=0) (.there (.there (.there (.there (.there .here))))) ?_
 refine wo_frz (b:=s9) (o:=0) (.there (.there (.there (.there .here)))) ?_
 refine wo_star (wds (oAddr r frr) 2 [] (coWf (0,3))::arr r 0 [.bool true]::arr frr 0 [.bool true]::_) (fun h st=>co_cut (by omega) (by omega) (Ent.star (.take (.there (.there (.there (.there (.there (.there (.there (.there (.there (.there .here)))))))))) (.take (.there (.there (.there (.there (.there (.there (.there (.there (.there .here))))))))) .refl)) st)) ?_
 refine wo_frz (b:=r) (o:=0) (.there .here) ?_
 refine wo_frz (b:=frr) (o:=0) (.there (.there .here)) ?_
 refine wo_ent _ (.take (.there (.there (.there (.there (.there (.there (.there .here))))))) (.take .here (.take .here (.take .here (.take .here (.take .here (.take .here (.take .here (.take .here (.drop (.drop (.drop (.take .here .refl))))))))))))) ?_
 repeat (first | refine wS ?_ | refine wo_nil ?_ | refine we_block ?_)
 let L5:List HProp:=fro frr 0 [.bool true]::fro r 0 [.bool true]::wds (oAddr r frr) 2 [] (coWf (0,3))::fro s9 0 [.slice (some ⟨sb,0,none⟩) n n]::fro cb7 0 [.pointer (some ⟨r,0,none⟩),.pointer (some ⟨frr,0,none⟩),.pointer (some ⟨b,0,none⟩)]::fro xb 0 [.slice ta N.length tc]::fro tb 0 [.int .u8 (times:Nat)]::arr sb 0 (List.replicate n (.int .i64 0))::arr yb 0 [.bool fr,.slice oa order.length oc]::L
 refine we_star ((coOut tb xb yb cb7 s9 n L5).L (0,ib,.slice none 0 0,[])) (fun h st=>?_) ?_
 ·have s1:Star (arr ib 0 [.int .i64 (0:Nat)]::fro frr 0 [.bool true]::fro r 0 [.bool true]::wds (oAddr r frr) 2 [] (coWf (0,3))::fro s9 0 [.slice (some ⟨sb,0,none⟩) n n]::fro cb7 0 [.pointer (some ⟨r,0,none⟩),.pointer (some ⟨frr,0,none⟩),.pointer (some ⟨b,0,none⟩)]::fro xb 0 [.slice ta N.length tc]::fro tb 0 [.int .u8 (times:Nat)]::arr sb 0 (zeros n [.int .i64 0])::_) h:=st
  rw [zeros_rep] at s1
  have s3:Star (all []::vec 1 (.slice none 0 0) []::_) h:=star_shut (M:=[]) (vec_nil s1)
  exact Ent.star (.take (.there (.there .here)) (.take (.there .here) (.take .here .refl))) s3
 refine we_loopN (coOut tb xb yb cb7 s9 n L5) (fun i=>n-i.1) (0,ib,.slice none 0 0,[]) ⟨Nat.zero_le _,rfl⟩ ⟨rfl,rfl,rfl,rfl,rfl,rfl,rfl,rfl,trivial⟩ .refl rfl ?_
 rintro ⟨i,ib,tv,ts⟩ ⟨hi,hts⟩
 dsimp only at hi hts
 simp only [coOut]
 refine we_pure (of_has (.there .here) (vec_shape (by omega))) ?_
 rintro ⟨tva,tvn,tvc,rfl,htvn,_,htz,hty⟩
 have htvn:tvn=i:=by simp at htvn;omega
 subst htvn
 by_cases hlt:tvn<n
 ·have hadd:IntKind.i64.wrap ((tvn:Nat)+1)=((tvn+1:Nat):Int):=(wrap_i64 (by omega) (by omega)).trans (by omega)
  repeat (first | (apply wo_po;apply mo_makeFunc (first:=[]) (cap:=[_,_,_,_,_]) (vf:=[]);exact .nil;exact .cons rfl (.cons rfl (.cons rfl (.cons rfl (.cons rfl .nil))));exact trivial) | refine wlssT ?_ | refine we_seq ?_ | (refine wR ?_;try simp only [oS]) | refine wo_nil ?_ | refine wM ?_ | refine wL ?_ | refine wT ?_ | refine we_skip ?_ | refine we_block ?_)
  repeat (first | (apply wo_mo;apply mo_buildSlice (sz:=1) (vs:=[coFn tb cb7 s9 ib xb]);exact rfl;exact .cons rfl .nil;exact rfl;(intro v hv;cases (List.mem_singleton.1 hv);exact rfl);omega;exact trivial))
  rintro v' L' ⟨nb2,rfl,rfl⟩
  repeat (first | (apply wo_mo;apply mo_append (sz:=1) (new:=[coFn tb cb7 s9 ib xb]);exact rfl;exact rfl;exact rfl;exact rfl;exact (.there (.there .here));exact rfl;exact .inr ⟨_,_,rfl,Rds.all .here⟩;(intro v hv;cases (List.mem_singleton.1 hv);exact rfl);(simp only [sliceLen];omega);exact trivial))
  rintro tv' L' rfl
  repeat (first | (apply wo_mo;apply mo_alloc;exact trivial) | refine we_seq ?_ | (refine wR ?_;try simp only [oS]) | refine wo_nil ?_ | refine wA ?_ | refine wL ?_)
  rintro v' L' ⟨ib2,rfl,rfl⟩
  refine wo_frz (b:=ib) (o:=0) (.there (.there (.there .here))) ?_
  repeat (first | refine wS ?_ | (refine wR ?_;try simp only [oS]) | refine wo_nil ?_ | refine wL ?_ | refine wadd ?_)
  refine at_roundS (B:=mT) (I:=coOut tb xb yb cb7 s9 n L5) (R:=fun q=>n-q.1<n-tvn) (tvn+1,ib2,tv',ts++[ib]) (by show n-(tvn+1)<n-tvn;omega) ⟨by show tvn+1≤n;omega,by simp [hts]⟩ ⟨rfl,rfl,rfl,rfl,rfl,rfl,rfl,rfl,trivial⟩ (fun hp st=>?_) rfl
  have s1:Star (fro ib 0 [.int .i64 (tvn:Nat)]::all (boxesC ts)::_) hp:=Ent.star (.take .here (.take (.there (.there (.there .here))) .refl)) st
  have s2:=star_push s1
  have e1:(ts++[ib]).map (fun ib=>coFn tb cb7 s9 ib xb)=ts.map (fun ib=>coFn tb cb7 s9 ib xb)++[coFn tb cb7 s9 ib xb]:=by rw [List.map_append];rfl
  show Star (_::vec 1 tv' ((ts++[ib]).map fun ib=>coFn tb cb7 s9 ib xb)::all (boxesC (ts++[ib]))::_) hp
  rw [e1,boxesC_snoc,hts]
  exact Ent.star (.take (.there .here) (.take (.there .here) (.take .here (.drop .refl)))) s2
 obtain rfl:n=tvn:=by omega
 let RoS:HProp:=all (coS tb cb7 s9 xb sb r frr b n times tc ta N L)
 have hRoS:Dup RoS:=dup_all (by
  intro c hc
  simp only [coS,List.mem_cons,List.not_mem_nil,or_false] at hc
  rcases hc with rfl | rfl | rfl | rfl | rfl | rfl | rfl
  all_goals first | exact dup_fro | exact hL)
 repeat (first | (apply wo_po;apply mo_loadA (vs:=[.bool fr,.slice oa order.length oc]);exact rfl;exact rfl;exact Rds.all (.there (.there (.there (.there (.there (.there (.there (.there (.there (.there (.there .here)))))))))));exact trivial) | refine wlssF ?_ | refine we_seq ?_ | (refine wR ?_;try simp only [oS]) | refine wo_nil ?_ | refine wM ?_ | refine wL ?_ | refine wF ?_ | refine we_exit ?_)
 obtain ⟨hI0,hk0,hφ0⟩:=co_I0 (N:=N) (times:=times) (n:=n) (ts:=ts) (by omega)
 have hq0l:(coQs N times ts).length=n:=by rw [← hts];simp [coQs]
 refine wo_star (((coW sb).g (oAddr r frr) 2 []).U (show Nat × Nat from (0,3))::all ((coTs sb r frr tb cb7 s9 xb times RoS N ts).map ThrT.M)::RoS::vec 1 (.slice tva n tvc) (ts.map fun ib=>coFn tb cb7 s9 ib xb)::[]) (fun h st=>?_) ?_
 ·have s1:=star_tail (M:=[_,_,_,_,_,_,_,_,_,_,_,_]) st
  have s2:Star (RoS::_) h:=star_shut (M:=[_,_,_,_,_,_,_]) (Ent.star (.take (.there (.there (.there (.there .here)))) (.take (.there (.there (.there (.there .here)))) (.take (.there (.there (.there (.there (.there .here))))) (.take (.there (.there (.there (.there (.there .here))))) (.take (.there (.there (.there (.there (.there .here))))) (.take (.there (.there (.there (.there (.there .here))))) (.take .here .refl))))))) s1)
  rw [← hts] at s2
  have s4:=dealO hRoS (Ent.star (.take .here (.take (.there (.there .here)) (.take (.there (.there (.there .here))) .refl))) s2)
  rw [hts] at s4
  rw [coTs_M]
  have s5:Star (wds (oAddr r frr) 2 [] (coWf (0,3))::all (ts.mapIdx (coTc RoS sb))::RoS::vec 1 (.slice tva n tvc) (ts.map fun ib=>coFn tb cb7 s9 ib xb)::[]) h:=Ent.star (.take (.there (.there (.there (.there .here)))) (.take .here (.take .here (.drop (.take .here (.drop .refl)))))) s4
  refine star_map s5 (fun h' z=>?_) fun _ z=>z
  obtain ⟨g1,g2,sp,c1,_⟩:=star_one z
  exact ⟨g1,g2,sp,c1,star_one trivial⟩
 have hlts:(coTs sb r frr tb cb7 s9 xb times RoS N ts).length=n:=by rw [← hts];simp [coTs]
 refine wo_call (.cons rfl (.cons rfl .nil)) trivial (way_tr (g:=(coW sb).g (oAddr r frr) 2 []) (fd:=coD N times n (coQs N times ts) hq0l) (ts:=coTs sb r frr tb cb7 s9 xb times RoS N ts) (s0:=(show Nat × Nat from (0,3))) (fun _ h=>cut_own2 (fun _ z=>z) h) coTs_q ⟨hI0,rfl⟩ (Nat.le_refl _) hφ0 (fun _ _ z=>z)
  (fun t ht=>by obtain ⟨i,y,hy,rfl⟩:=coTs_at ht;exact co_free hne (coTs_ro hN hN64 hts hn6 htm hy) (dup_ro hRoS)) (fun t ht=>by obtain ⟨i,y,hy,rfl⟩:=coTs_at ht;exact co_ok hne (coTs_ro hN hN64 hts hn6 htm hy) (dup_ro hRoS))
  (by omega) (by omega) (by rw [coTs_fv];exact rdsoW (.there .here) (by simp [hts]) htz hty) (rdso_allW (rdso_allW hro).there.there.there.there.there.there) hoi) ?_
 rintro v1 L1 x1 ⟨s,qs,hI,hpn,hql,rfl,rfl,rfl⟩
 obtain ⟨S,hS⟩:∃ S:Nat × Nat,S=(show Nat × Nat from s):=⟨_,rfl⟩
 obtain ⟨Q,hqQ⟩:∃ Q:List CoQ,Q=(show List CoQ from qs):=⟨_,rfl⟩
 have hI1:CoI (cmAll (coVals N times) n) (coVals N times) S Q:=by rw [hS,hqQ];exact hI.1
 have hk1:Q.map CoQ.k=List.range n:=by rw [hqQ,← hts,← hk0];exact hI.2
 have hQl:Q.length=n:=by rw [← hlts];rw [hqQ];exact hql
 obtain ⟨hE1,hE2⟩:=co_end (by omega) hI1 hQl (by rw [hqQ];exact hpn)
 refine wo_star (all [wds (oAddr r frr) 2 [] (coWf S),RoS]::all (Q.map fun q=>all [coP sb q.k q.set])::RoS::[]) (fun h st=>?_) ?_
 ·have e1:((coW sb).g (oAddr r frr) 2 []).U s=all [wds (oAddr r frr) 2 [] (coWf S),fun _=>True]:=by rw [hS];rfl
  have e2:qs.map ((coW sb).g (oAddr r frr) 2 []).Fin=Q.map fun q=>all [coP sb q.k q.set]:=by rw [hqQ];rfl
  rw [e1,e2] at st
  have s2:Star (wds (oAddr r frr) 2 [] (coWf S)::(fun _=>True)::_) h:=star_open (M:=[_,_]) st
  have s3:=hRoS _ _ (Ent.star (.take (.there (.there (.there .here))) (.take .here (.drop (.take .here (.drop .refl))))) s2)
  exact star_shut (M:=[_,_]) (Ent.star (.take (.there (.there .here)) (.take .here (.take (.there .here) (.take .here .refl)))) s3)
 obtain ⟨R,hR⟩:∃ R:List HProp,R=all [wds (oAddr r frr) 2 [] (coWf S),RoS]::all (Q.map fun q=>all [coP sb q.k q.set])::RoS::[]:=⟨_,rfl⟩
 rw [← hR]
 have up:∀ {b1 o:Nat} {v:Value},Rd (coS tb cb7 s9 xb sb r frr b n times tc ta N L) b1 o v→Rd R b1 o v:=fun h=>by rw [hR];exact .there (.there (rd_allW h))
 have r1:Rd R s9 0 (.slice (some ⟨sb,0,none⟩) n n):=up (.there (.there (Rd.fro (k:=0) rfl rfl)))
 have r2:Rd R cb7 (0+0) (.pointer (some ⟨r,0,none⟩)):=up (.there (.there (.there (Rd.fro (k:=0) rfl rfl))))
 have r3:Rd R cb7 (0+1) (.pointer (some ⟨frr,0,none⟩)):=up (.there (.there (.there (Rd.fro (k:=1) rfl rfl))))
 have r4:Rd R xb 0 (.slice ta N.length tc):=up (.there (.there (.there (.there (Rd.fro (k:=0) rfl rfl)))))
 have r5:Rd R tb 0 (.int .u8 (times:Nat)):=up (.there (.there (.there (.there (.there (Rd.fro (k:=0) rfl rfl))))))
 have hqk:∀ (k:Nat) q,Q[k]?=some q→q.k=k:=fun k q h=>by
  have h1:(Q.map CoQ.k)[k]?=some q.k:=by rw [List.getElem?_map,h];rfl
  have h2:=(List.getElem?_eq_some_iff.1 h).1
  rw [hk1,List.getElem?_range (by omega)] at h1
  exact (Option.some.inj h1).symm
 have r6:∀ (k:Nat) q,Q[k]?=some q→Rd R sb (0+k) (.int .i64 (q.set:Nat)):=fun k q h=>by
  have h1:=hqk k q h
  have h2:(Q.map fun q=>all [coP sb q.k q.set])[k]?=some (all [coP sb q.k q.set]):=by rw [List.getElem?_map,h];rfl
  rw [hR]
  exact .there (rd_item h2 (rd_allW (Rd.row (k:=0) rfl (by omega))))
 have r7:∀ (k:Nat) v,N[k]?=some v→∃ tb' to',ta=some ⟨tb',to',none⟩∧Rd R tb' (to'+k) (.int .u64 (v:Nat)):=fun k v h=>by
  have h2:=(List.getElem?_eq_some_iff.1 h).1
  obtain ⟨b',o',e,hrd⟩:=hN.rds (by omega)
  exact ⟨b',o',e,up (.there (.there (.there (.there (.there (.there (rd_allW (hrd k _ (by rw [List.getElem?_map,h];rfl)))))))))⟩
 have hsum:sumN (Q.map CoQ.set)=1:=hI1.sum.trans hE1
 obtain ⟨m,hm⟩:∃ m,1+times%20=m:=⟨_,rfl⟩
 have hm20:m≤20:=by omega
 have c1:IntKind.i64.wrap ((times:Nat):Int)=((times:Nat):Int):=wrap_i64 (by omega) (by omega)
 have c2':((times:Nat):Int).tmod 20=((times%20:Nat):Int):=by rw [Int.tmod_eq_emod_of_nonneg (by omega)];omega
 have c3:IntKind.i64.wrap (1+((times%20:Nat):Int))=((m:Nat):Int):=(wrap_i64 (by omega) (by omega)).trans (by omega)
 repeat (first | refine we_seq ?_ | (refine wR ?_;try simp only [oS]) | refine wo_nil ?_ | refine wA ?_ | (apply wo_po;apply mo_not;exact rfl;exact gY) | refine wF ?_ | refine we_skip ?_ | refine we_block ?_)
 refine we_loopN (coSum tb xb cb7 s9 n Q (coVals N times) R) (fun i=>n-i) 0 (Nat.zero_le _) ⟨rfl,rfl,rfl,rfl,rfl,rfl,rfl,rfl,trivial⟩ .refl rfl ?_
 intro i hi
 replace hi:i≤n:=hi
 simp only [coSum]
 by_cases hlt:i<n
 ·obtain ⟨q,hq⟩:∃ q,Q[i]?=some q:=⟨Q[i],List.getElem?_eq_getElem (by omega)⟩
  have r8:=r6 i q hq
  have b1:=cos_le (l:=Q) (i:=i+1)
  have e1:=cos_take hq
  have w2:IntKind.i64.wrap (((sumN ((Q.take i).map CoQ.set):Nat):Int)+((q.set:Nat):Int))=((sumN ((Q.take (i+1)).map CoQ.set):Nat):Int):=(wrap_i64 (by omega) (by omega)).trans (by omega)
  have w3:IntKind.i64.wrap (((i:Nat):Int)+1)=((i+1:Nat):Int):=(wrap_i64 (by omega) (by omega)).trans (by omega)
  repeat (first | (apply wo_po;apply mo_index1;exact rfl;exact rfl;omega;exact trivial) | (apply wo_po;apply mo_load;exact rfl;(first | exact r1 | exact r8);exact trivial) | (apply wo_po;apply mo_bin;exact rfl;exact rfl;apply bin_add;exact w2;exact trivial) | refine wlssT ?_ | refine we_seq ?_ | (refine wR ?_;try simp only [oS]) | refine wo_nil ?_ | refine wM ?_ | refine wA ?_ | refine wT ?_ | refine we_skip ?_ | refine we_block ?_)
  refine we_loopN (coMax tb xb cb7 s9 n i (sumN ((Q.take (i+1)).map CoQ.set)) (cmAll (coVals N times) i) (coVals N times i) R) (fun j=>(coVals N times i).length-j) 0 (Nat.zero_le _) ⟨rfl,rfl,rfl,rfl,rfl,rfl,rfl,rfl,rfl,trivial⟩ .refl rfl ?_
  intro j hj
  replace hj:j≤(coVals N times i).length:=hj
  have hvl:(coVals N times i).length=m:=by rw [← hm];exact coV_len
  rw [hvl] at hj
  simp only [coMax]
  by_cases hiN:i<N.length
  ·obtain ⟨v,hv⟩:∃ v,N[i]?=some v:=⟨N[i],List.getElem?_eq_getElem hiN⟩
   have hv64:=hN64 v (List.mem_of_getElem? hv)
   obtain ⟨ab,ao,rfl,r9⟩:=r7 i v hv
   have hgd:N.getD i 0=v:=by simp [hv]
   by_cases hjm:j<m
   ·obtain ⟨y2,hy2⟩:∃ y2,(v+18446744073709551616-j)%18446744073709551616=y2:=⟨_,rfl⟩
    have hat:(coVals N times i)[j]?=some (true,y2):=by
     unfold coVals
     rw [coV_at (by omega),decide_eq_true hiN,hgd,hy2]
    have e3:max (cmV (cmAll (coVals N times) i) ((coVals N times i).take j)) y2=cmV (cmAll (coVals N times) i) ((coVals N times i).take (j+1)):=by
     rw [List.take_add_one,hat]
     exact (cmV_snoc (y:=(true,y2)) rfl).symm
    have w4:IntKind.u64.wrap (((v:Nat):Int)-((j:Nat):Int))=((y2:Nat):Int):=by rw [← hy2];exact subm (by omega)
    have w5:IntKind.u64.wrap ((j:Nat):Int)=((j:Nat):Int):=wrap_u64 (by omega) (by omega)
    have w6:IntKind.i64.wrap (((j:Nat):Int)+1)=((j+1:Nat):Int):=(wrap_i64 (by omega) (by omega)).trans (by omega)
    repeat (first | (apply wo_po;apply mo_index1;exact rfl;exact rfl;omega;exact trivial) | (apply wo_po;apply mo_load;exact rfl;(first | exact r4 | exact r5 | exact r9);exact gY) | (apply wo_po;apply mo_conv;exact rfl;(first | exact c1 | exact w5);exact gY) | (apply wo_po;apply mo_bin;exact rfl;exact rfl;apply bin_rem;omega;exact c2';exact gY) | (apply wo_po;apply mo_bin;exact rfl;exact rfl;apply bin_add;(first | exact c3 | exact w6);exact gY) | (apply wo_po;apply mo_bin;exact rfl;exact rfl;apply bin_sub;exact w4;exact trivial) | (apply wo_po;apply mo_maxC;exact rfl;exact rfl;exact e3;exact trivial) | refine wlssT ?_ | refine we_seq ?_ | (refine wR ?_;try simp only [oS]) | refine wo_nil ?_ | refine wM ?_ | refine wA ?_ | refine wK ?_ | refine wE ?_ | refine wT ?_ | refine we_skip ?_ | refine we_block ?_)
    refine at_round (B:=mT) (I:=coMax tb xb cb7 s9 n i (sumN ((Q.take (i+1)).map CoQ.set)) (cmAll (coVals N times) i) (coVals N times i) R) (R:=fun z=>(coVals N times i).length-z<(coVals N times i).length-j) (j+1) (by show (coVals N times i).length-(j+1)<(coVals N times i).length-j;omega) (by show j+1≤(coVals N times i).length;omega) ⟨rfl,rfl,rfl,rfl,rfl,rfl,rfl,rfl,rfl,trivial⟩ .refl rfl
   ·have e4:cmV (cmAll (coVals N times) i) ((coVals N times i).take j)=cmAll (coVals N times) (i+1):=by
     rw [List.take_of_length_le (by omega)];rfl
    rw [e4]
    repeat (first | (apply wo_po;apply mo_load;exact rfl;(first | exact r4 | exact r5);exact gY) | (apply wo_po;apply mo_conv;exact rfl;exact c1;exact gY) | (apply wo_po;apply mo_bin;exact rfl;exact rfl;apply bin_rem;omega;exact c2';exact gY) | (apply wo_po;apply mo_bin;exact rfl;exact rfl;apply bin_add;(first | exact c3 | exact w3);exact gY) | refine wlssT ?_ | refine wlssF ?_ | refine we_seq ?_ | (refine wR ?_;try simp only [oS]) | refine wo_nil ?_ | refine wM ?_ | refine wA ?_ | refine wK ?_ | refine wE ?_ | refine wF ?_ | refine we_exit ?_)
    refine at_round (B:=mT) (I:=coSum tb xb cb7 s9 n Q (coVals N times) R) (R:=fun z=>n-z<n-i) (i+1) (by show n-(i+1)<n-i;omega) (by show i+1≤n;omega) ⟨rfl,rfl,rfl,rfl,rfl,rfl,rfl,rfl,trivial⟩ .refl rfl
  ·have e4:cmV (cmAll (coVals N times) i) ((coVals N times i).take j)=cmAll (coVals N times) (i+1):=by
    have hf:∀ y∈coVals N times i,y.1=false:=fun y hy=>by rw [(coV_mem y hy).1];simpa using hiN
    rw [cmV_none _ fun y hy=>hf y (List.mem_of_mem_take hy)]
    exact (cmV_none _ hf).symm
   rw [e4]
   repeat (first | (apply wo_po;apply mo_load;exact rfl;exact r4;exact trivial) | (apply wo_po;apply mo_bin;exact rfl;exact rfl;apply bin_add;exact w3;exact trivial) | refine wlssF ?_ | refine we_seq ?_ | (refine wR ?_;try simp only [oS]) | refine wo_nil ?_ | refine wM ?_ | refine wA ?_ | (apply wo_no;exact rfl) | refine wJ ?_ | refine wE ?_ | refine wF ?_ | refine we_exit ?_)
   refine at_round (B:=mT) (I:=coSum tb xb cb7 s9 n Q (coVals N times) R) (R:=fun z=>n-z<n-i) (i+1) (by show n-(i+1)<n-i;omega) (by show i+1≤n;omega) ⟨rfl,rfl,rfl,rfl,rfl,rfl,rfl,rfl,trivial⟩ .refl rfl
 obtain rfl:i=n:=by omega
 rw [List.take_of_length_le (by omega),hsum,← hE2]
 repeat (first | (apply wo_po;apply mo_load;exact rfl;exact r2;exact trivial) | refine wlssF ?_ | refine we_seq ?_ | (refine wR ?_;try simp only [oS]) | refine wo_nil ?_ | refine wM ?_ | refine wD ?_ | refine wF ?_ | refine we_exit ?_)
 rw [hR]
 refine wo_call (.cons rfl (.cons rfl .nil)) trivial (cget_tr (A:=viewAcc (kpAcc (B:=mT) MX.idle (oAddr r frr) 2 (o_apart hne) RoS) fun _=>1) ⟨fun s=>rd_allW (.there (rd_allW (.there (Rd.fro (k:=0) rfl rfl)))),rfl⟩ (s:=coWf S) (Q:=fun o s'=>o=S.2∧s'=coWf S) ⟨(by show 1<2;omega),rfl,rfl⟩ .here) ?_
 rintro v1 L1 x1 ⟨o,s',ho,⟨rfl,rfl⟩,rfl,rfl,rfl⟩
 have r3':∀ {c d:HProp},Rd (c::d::RoS::[]) cb7 (0+1) (.pointer (some ⟨frr,0,none⟩)):=.there (.there (rd_allW (.there (.there (.there (Rd.fro (k:=1) rfl rfl))))))
 repeat (first | (apply wo_po;apply mo_load;exact rfl;exact r3';exact trivial) | refine we_seq ?_ | (refine wR ?_;try simp only [oS]) | refine wo_nil ?_ | refine wM ?_ | refine wA ?_ | refine wD ?_ | (apply wo_po;apply mo_extract;exact rfl;exact rfl;exact gY))
 refine wo_call (.cons rfl (.cons rfl .nil)) trivial (fget_tr (A:=kpAcc (B:=mT) MX.idle (oAddr r frr) 2 (o_apart hne) RoS) ⟨fun s=>rd_allW (.there (rd_allW (Rd.fro (k:=0) rfl rfl))),rfl⟩ (s:=coWf S) (Q:=fun o s'=>o=S.1) ⟨(by omega),rfl⟩ .here) ?_
 rintro v1 L1 x1 ⟨o2,s2,ho2,rfl,rfl,rfl,rfl⟩
 have hd1:decide (((S.1:Nat):Int)=1)=true:=by rw [hE1];rfl
 rw [hd1]
 repeat (first | refine weqlT ?_ | refine we_seq ?_ | (refine wR ?_;try simp only [oS]) | refine wo_nil ?_ | refine wM ?_ | refine wA ?_ | refine wK ?_ | (apply wo_po;apply mo_extract;exact rfl;exact rfl;exact gY) | refine we_ret ?_)
 (first | refine or1 Try.func6 Try.results6 hQ rfl ?_ | refine on1 Try.func6 Try.results6 hQ rfl ?_)
 exact ⟨rfl,rfl⟩
end
end Go.Proofs.Ytkgnkloonamheaa
namespace Go.PB
open Go.Conc Go.Conc.Lib Go.ConcR.Gen
open Go.ConcR (KK stA smA rd wr mk DC0)
def WgAt (ty:TypeId) (wg:Nat) (w:World) (st sm:Int):Prop:=∃ f:Nat × Nat,w.heap[wg]?=some (.cells #[.int .u64 st,.int .u32 sm] ty f)∧w.frozen? ⟨wg,0,none⟩=false∧w.frozen? ⟨wg,1,none⟩=false
section
variable {ty:TypeId} {wg:Nat} {w w':World} {st sm:Int}
theorem WgAt.cellSt (h:WgAt ty wg w st sm):w.cell? (stA wg)=some (.int .u64 st):=by obtain ⟨f,h,_⟩:=h;simp [World.cell?,stA,h]
theorem WgAt.cellSm (h:WgAt ty wg w st sm):w.cell? (smA wg)=some (.int .u32 sm):=by obtain ⟨f,h,_⟩:=h;simp [World.cell?,smA,h]
theorem WgAt.thaw (h:WgAt ty wg w st sm) (n:Nat) (hn:n<2:=by decide):w.frozen? ⟨wg,n,none⟩=false:=by
 obtain ⟨f,_,h0,h1⟩:=h
 rcases n with _ | _ | n
 ·exact h0
 ·exact h1
 ·omega
theorem WgAt.unique {st' sm':Int} (h:WgAt ty wg w st sm) (h':WgAt ty wg w st' sm'):st=st'∧sm=sm':=by
 obtain ⟨f,h,_⟩:=h
 obtain ⟨f',h',_⟩:=h'
 rw [h] at h'
 simp at h'
 exact ⟨h'.1.1,h'.1.2⟩
theorem WgAt.setSt (h:WgAt ty wg w st sm) (v:Int):WgAt ty wg (w.setCell (stA wg) (.int .u64 v)) v sm:=by
 obtain ⟨f,h,h0,h1⟩:=h
 refine ⟨f,?_,by rw [frozen_setCell];exact h0,by rw [frozen_setCell];exact h1⟩
 simp [World.setCell,stA,Array.getElem?_modify,h]
theorem WgAt.setSm (h:WgAt ty wg w st sm) (v:Int):WgAt ty wg (w.setCell (smA wg) (.int .u32 v)) st v:=by
 obtain ⟨f,h,h0,h1⟩:=h
 refine ⟨f,?_,by rw [frozen_setCell];exact h0,by rw [frozen_setCell];exact h1⟩
 simp [World.setCell,smA,Array.getElem?_modify,h]
theorem WgAt.of_heap (h:WgAt ty wg w st sm) (e:w'.heap[wg]?=w.heap[wg]?):WgAt ty wg w' st sm:=by
 obtain ⟨f,h,h0,h1⟩:=h
 have hf:∀ o,w'.frozen? ⟨wg,o,none⟩=w.frozen? ⟨wg,o,none⟩:=fun o=>by unfold World.frozen?;rw [e]
 exact ⟨f,e.trans h,(hf 0).trans h0,(hf 1).trans h1⟩
def WgLive (ty:TypeId) (Wg:Nat) (w:World):Prop:=∃ st sm,WgAt ty Wg w st sm
end
def RL (ty:TypeId) (Wg:Nat) (w w₁:World):Prop:=WgLive ty Wg w→WgLive ty Wg w₁
theorem live_cell {ty:TypeId} {Wg:Nat} {w:World} (h:WgLive ty Wg w):∃ v,w.cell? ⟨Wg,0,none⟩=some v:=let ⟨_,_,x⟩:=h;⟨_,WgAt.cellSt x⟩
section
variable (P:Program) (ty:TypeId) (Wg:Nat)
def Zg (Stop:Goroutine→World→Prop) (m:Nat) (g:Goroutine) (w:World):Prop:=Goes P false (RL ty Wg) DC0 Stop m g w
def Z4 (g:Goroutine) (w:World):Prop :=
 g.status=.running∧mayWake P g=true∧(WgAt ty Wg w 0 0→∃ g' q,stepG P false g w=.go g' (w.setCell (smA Wg) (.int .u32 1)) (semEvents (smA Wg))∧QuitsD P q 1 g')
def Z3 (g:Goroutine) (w:World):Prop :=
 g.status=.running∧(WgAt ty Wg w 1 0→∃ g' m,stepG P false g w=.go g' (w.setCell (stA Wg) (.int .u64 0)) #[wr (stA Wg)]∧Zg P ty Wg (Z4 P ty Wg) m g' (w.setCell (stA Wg) (.int .u64 0)))
def Z2 (g:Goroutine) (w:World):Prop :=
 g.status=.running∧(WgAt ty Wg w 1 0→∃ g' m,stepG P false g w=.go g' w #[rd (stA Wg)]∧Zg P ty Wg (Z3 P ty Wg) m g' w)
def Z1 (g:Goroutine) (w:World):Prop :=
 g.status=.running∧∀ v wt:Nat,wt≤1→v<2147483647→WgAt ty Wg w ((v+1)*KK+wt) 0 →
  ∃ g',stepG P false g w=.go g' (w.setCell (stA Wg) (.int .u64 (v*KK+wt))) #[rd (stA Wg),wr (stA Wg)] ∧
   ((v=0∧wt=1)→∃ m,Zg P ty Wg (Z2 P ty Wg) m g' (w.setCell (stA Wg) (.int .u64 (v*KK+wt))))∧(¬ (v=0∧wt=1)→∃ q,QuitsD P q 1 g')
def ZK (g:Goroutine) (w:World):Prop :=
 g.status=.running∧∃ g' m,stepG P false g w=.go g' w #[mk .disable]∧Zg P ty Wg (Z1 P ty Wg) m g' w
def ZR (g:Goroutine) (w:World):Prop :=
 g.status=.running∧∃ g' m,stepG P false g w=.go g' w #[mk (.releaseMerge (stA Wg))]∧Zg P ty Wg (ZK P ty Wg) m g' w
end
end Go.PB
namespace Go.PB
open Go.Conc Go.Conc.Lib Go.ConcR.Gen
open Go.ConcR (KK stA smA rd wr mk DC0)
theorem quits_more {P:Program}:∀ {n d:Nat} {g:Goroutine},QuitsD P n d g→QuitsD P (n+1) d g
 | 0,_,_,h=>.inl h
 | _+1,_,_,h=>h.imp id fun ⟨hs,g',es,hm,hst,hq⟩=>⟨hs,g',es,hm,hst,quits_more hq⟩
theorem quits_mono {P:Program} {n n' d:Nat} {g:Goroutine} (h:QuitsD P n d g) (hn:n≤n'):QuitsD P n' d g:=by
 induction hn with
 | refl=>exact h
 | step _ ih=>exact quits_more ih
set_option maxRecDepth 100000 in
set_option maxHeartbeats 8000000 in
theorem add_goes [Go.ConcR.Payload] {P:Program} {L:WgLink} (H:WgLib P L) {Wg:Nat} {b₀:Frame} {a₀:Act} {ops₀:Array Oper} {i₀:Nat} {rest₀:List Nat} {k₀:List Item} {cs:List Frame} {qt:Nat}
  (hT:QuitsD P qt 0 (G (b₀.at (a₀.put ((ops₀[i₀]?).bind (·.dst)) (.tuple #[])) (.inRegion ops₀ rest₀::k₀)) cs)) (w:World) (hK:WgLive L.tWg Wg w) :
  Zg P L.tWg Wg (ZR P L.tWg Wg) 20 (G ((Go.Conc.base L.add).at ⟨#[.pointer (some ⟨Wg,0,none⟩),.int .i64 (-1)]++Array.replicate 115 undef,[]⟩ [.code (body_add L)]) (b₀.at a₀ (.inRegion ops₀ (i₀::rest₀)::k₀)::cs)) w:=by
 lib_facts
 simp only [body_add,addFn,Option.getD_some,Array.replicate_succ,Array.replicate_zero]
 unfold Zg
 have key:∀ {w w₁:World},WgLive L.tWg Wg w→RL L.tWg Wg w w₁→WgLive L.tWg Wg w₁:=fun h r=>r h
 walk_nrm
 repeat (first | u_c stepG_seq key hK | u_c stepG_region_end key hK | u_c stepG_skip key hK | u_reg key hK | u_skip key hK | u_op key hK | u_cond true key hK | u_cond false key hK | u_c stepG_ret' key hK | u_c stepG_block key hK | u_c stepG_loop key hK | u_c stepG_end key hK | u_defer key hK | u_leave1 H.f_uAdd key hK | u_leave1 H.f_uLoad key hK | u_leave0 H.f_uStore key hK | u_call H.f_uAdd (nm_uAdd L) uAddFn key hK | u_call H.f_uLoad (nm_uLoad L) uLoadFn key hK | u_call H.f_uStore (nm_uStore L) uStoreFn key hK | u_bub key hK)
 u_conv H.underlying_tWgP H.room_tWg (live_cell hK).choose_spec key hK
 refine Goes.stop (fun w₁ h₁=>?_)
 replace hK:=key hK h₁
 clear h₁
 refine ⟨rfl,_,30,stepG_markAt .releaseMerge (by simp) rfl rfl (by k_ne) rfl H.f_relMerge (x_relMerge_n L) (x_relMerge_b L) (x_relMerge_x L) (x_relMerge_f L) (by simp [Act.eval,stA]),?_⟩
 unfold Zg
 walk_nrm
 repeat (first | u_c stepG_seq key hK | u_c stepG_region_end key hK | u_c stepG_skip key hK | u_reg key hK | u_skip key hK | u_op key hK | u_cond true key hK | u_cond false key hK | u_c stepG_ret' key hK | u_c stepG_block key hK | u_c stepG_loop key hK | u_c stepG_end key hK | u_defer key hK | u_leave1 H.f_uAdd key hK | u_leave1 H.f_uLoad key hK | u_leave0 H.f_uStore key hK | u_call H.f_uAdd (nm_uAdd L) uAddFn key hK | u_call H.f_uLoad (nm_uLoad L) uLoadFn key hK | u_call H.f_uStore (nm_uStore L) uStoreFn key hK | u_bub key hK)
 refine Goes.stop (fun w₁ h₁=>?_)
 replace hK:=key hK h₁
 clear h₁
 refine ⟨rfl,_,80,stepG_mark0 .disable (by simp) rfl rfl (by k_ne) rfl H.f_disable (x_disable_n L) (x_disable_b L) (x_disable_x L) (x_disable_f L),?_⟩
 unfold Zg
 walk_nrm
 repeat (first | u_c stepG_seq key hK | u_c stepG_region_end key hK | u_c stepG_skip key hK | u_reg key hK | u_skip key hK | u_op key hK | u_cond true key hK | u_cond false key hK | u_c stepG_ret' key hK | u_c stepG_block key hK | u_c stepG_loop key hK | u_c stepG_end key hK | u_defer key hK | u_leave1 H.f_uAdd key hK | u_leave1 H.f_uLoad key hK | u_leave0 H.f_uStore key hK | u_call H.f_uAdd (nm_uAdd L) uAddFn key hK | u_call H.f_uLoad (nm_uLoad L) uLoadFn key hK | u_call H.f_uStore (nm_uStore L) uStoreFn key hK | u_bub key hK)
 refine Goes.stop (fun w₁ h₁=>?_)
 clear h₁ hK
 refine ⟨rfl,fun v wt hwt hv hw=>?_⟩
 have e0:IntKind.u64.wrap (KK+18446744069414584320)=0:=by decide
 have e1:IntKind.u64.wrap (KK+1+18446744069414584320)=1:=by decide
 rcases Nat.eq_zero_or_pos v with rfl | hvp <;> (obtain rfl | rfl:wt=0∨wt=1:=by omega)
 ·-- nobody is left,nobody waits
  replace hw:WgAt L.tWg Wg w₁ KK 0:=by simpa using hw
  have z:((0:Nat):Int)*KK+((0:Nat):Int)=0:=by simp
  rw [z]
  refine ⟨_,(stepG_add_atomic rfl rfl (by k_ne) rfl H.f_addU64 (x_addU64_n L) (x_addU64_b L) (x_addU64_x L) .u64 (x_addU64_f L) rfl rfl (WgAt.cellSt hw) (WgAt.thaw hw 0)).trans (by rw [e0];rfl),fun hl=>absurd hl.2 (by decide),fun _=>⟨qt+200,?_⟩⟩
  clear hw
  walk_nrm
  q_val (.int .u64 0)
  q_c stepG_region_end
  q_c stepG_ret'
  q_leave1 H.f_uAdd
  q_val (.int .u64 0)
  q_c stepG_region_end
  q_c stepG_seq
  q_c stepG_seq
  q_reg
  q_val (.int .u64 0)
  q_val (.int .u64 0)
  q_val (.bool false)
  q_val (.bool false)
  q_skip
  q_skip
  q_val (.bool false)
  q_c stepG_region_end
  q_cond false
  q_c stepG_skip
  q_c stepG_seq
  q_reg
  q_val (.int .u64 0)
  q_val (.int .u64 0)
  q_val (.int .i32 0)
  q_val (.int .i32 0)
  q_c stepG_region_end
  q_c stepG_seq
  q_reg
  q_val (.int .u64 0)
  q_val (.int .u64 0)
  q_val (.int .u32 0)
  q_val (.int .u32 0)
  q_c stepG_region_end
  q_c stepG_seq
  q_c stepG_seq
  q_reg
  q_val (.bool true)
  q_val (.int .i64 (-1))
  q_val (.bool false)
  q_val (.bool false)
  q_val (.bool false)
  q_skip
  q_skip
  q_skip
  q_skip
  q_val (.bool false)
  q_c stepG_region_end
  q_cond false
  q_c stepG_skip
  q_c stepG_seq
  q_c stepG_seq
  q_reg
  q_val (.int .i32 0)
  q_val (.bool false)
  q_c stepG_region_end
  q_cond false
  q_c stepG_skip
  q_c stepG_seq
  q_c stepG_seq
  q_reg
  q_val (.int .u32 0)
  q_val (.bool false)
  q_val (.bool false)
  q_skip
  q_skip
  q_val (.bool false)
  q_val (.bool false)
  q_skip
  q_skip
  q_skip
  q_skip
  q_val (.bool false)
  q_c stepG_region_end
  q_cond false
  q_c stepG_skip
  q_c stepG_seq
  q_c stepG_seq
  q_reg
  q_val (.int .i32 0)
  q_val (.bool false)
  q_val (.bool false)
  q_val (.int .u32 0)
  q_val (.bool true)
  q_val (.bool true)
  q_c stepG_region_end
  q_cond true
  q_c stepG_ret'
  q_enable
  q_leave0 H.f_add
  exact quits_mono hT (by omega)
 ·-- nobody is left,the starter waits: the last one
  replace hw:WgAt L.tWg Wg w₁ (KK+1) 0:=by simpa using hw
  have z:((0:Nat):Int)*KK+((1:Nat):Int)=1:=by simp
  rw [z]
  refine ⟨_,(stepG_add_atomic rfl rfl (by k_ne) rfl H.f_addU64 (x_addU64_n L) (x_addU64_b L) (x_addU64_x L) .u64 (x_addU64_f L) rfl rfl (WgAt.cellSt hw) (WgAt.thaw hw 0)).trans (by rw [e1];rfl),fun _=>⟨150,?_⟩,fun hl=>absurd ⟨rfl,rfl⟩ hl⟩
  have hK:WgLive L.tWg Wg (w₁.setCell (stA Wg) (.int .u64 1)):=⟨_,_,WgAt.setSt hw 1⟩
  clear hw
  unfold Zg
  walk_nrm
  u_op key hK
  u_c stepG_region_end key hK
  u_c stepG_ret' key hK
  u_leave1 H.f_uAdd key hK
  u_op key hK
  u_c stepG_region_end key hK
  u_c stepG_seq key hK
  u_c stepG_seq key hK
  u_reg key hK
  u_op key hK
  u_op key hK
  u_op key hK
  u_op key hK
  u_skip key hK
  u_skip key hK
  u_op key hK
  u_c stepG_region_end key hK
  u_cond false key hK
  u_c stepG_skip key hK
  u_c stepG_seq key hK
  u_reg key hK
  u_op key hK
  u_op key hK
  u_op key hK
  u_op key hK
  u_c stepG_region_end key hK
  u_c stepG_seq key hK
  u_reg key hK
  u_op key hK
  u_op key hK
  u_op key hK
  u_op key hK
  u_c stepG_region_end key hK
  u_c stepG_seq key hK
  u_c stepG_seq key hK
  u_reg key hK
  u_op key hK
  u_op key hK
  u_op key hK
  u_op key hK
  u_op key hK
  u_skip key hK
  u_skip key hK
  u_skip key hK
  u_skip key hK
  u_op key hK
  u_c stepG_region_end key hK
  u_cond false key hK
  u_c stepG_skip key hK
  u_c stepG_seq key hK
  u_c stepG_seq key hK
  u_reg key hK
  u_op key hK
  u_op key hK
  u_c stepG_region_end key hK
  u_cond false key hK
  u_c stepG_skip key hK
  u_c stepG_seq key hK
  u_c stepG_seq key hK
  u_reg key hK
  u_op key hK
  u_op key hK
  u_op key hK
  u_op key hK
  u_op key hK
  u_op key hK
  u_op key hK
  u_skip key hK
  u_skip key hK
  u_skip key hK
  u_skip key hK
  u_op key hK
  u_c stepG_region_end key hK
  u_cond false key hK
  u_c stepG_skip key hK
  u_c stepG_seq key hK
  u_c stepG_seq key hK
  u_reg key hK
  u_op key hK
  u_op key hK
  u_op key hK
  u_op key hK
  u_op key hK
  u_op key hK
  u_c stepG_region_end key hK
  u_cond false key hK
  u_c stepG_skip key hK
  u_c stepG_seq key hK
  u_c stepG_seq key hK
  u_reg key hK
  u_op key hK
  u_op key hK
  u_op key hK
  u_call H.f_uLoad (nm_uLoad L) uLoadFn key hK
  u_c stepG_seq key hK
  u_reg key hK
  u_op key hK
  u_c stepG_region_end key hK
  u_c stepG_seq key hK
  u_reg key hK
  u_op key hK
  u_op key hK
  u_op key hK
  refine Goes.stop (fun w₂ h₂=>?_)
  clear h₂ hK
  refine ⟨rfl,fun hw=>⟨_,60,stepG_load_atomic rfl rfl (by k_ne) rfl H.f_loadU64 (x_loadU64_n L) (x_loadU64_b L) (x_loadU64_x L) .u64 (x_loadU64_f L) rfl (WgAt.cellSt hw),?_⟩⟩
  have hK:WgLive L.tWg Wg w₂:=⟨_,_,hw⟩
  clear hw
  unfold Zg
  walk_nrm
  u_op key hK
  u_c stepG_region_end key hK
  u_c stepG_ret' key hK
  u_leave1 H.f_uLoad key hK
  u_op key hK
  u_op key hK
  u_c stepG_region_end key hK
  u_cond false key hK
  u_c stepG_skip key hK
  u_c stepG_seq key hK
  u_reg key hK
  u_op key hK
  u_op key hK
  u_op key hK
  u_call H.f_uStore (nm_uStore L) uStoreFn key hK
  u_reg key hK
  u_op key hK
  u_op key hK
  u_op key hK
  u_op key hK
  refine Goes.stop (fun w₃ h₃=>?_)
  clear h₃ hK
  refine ⟨rfl,fun hw=>⟨_,60,stepG_store_atomic rfl rfl (by k_ne) rfl H.f_storeU64 (x_storeU64_n L) (x_storeU64_b L) (x_storeU64_x L) (x_storeU64_f L) rfl rfl (WgAt.cellSt hw) (WgAt.thaw hw 0),?_⟩⟩
  have hK:WgLive L.tWg Wg (w₃.setCell (stA Wg) (.int .u64 0)):=⟨_,_,WgAt.setSt hw 0⟩
  clear hw
  unfold Zg
  walk_nrm
  u_c stepG_region_end key hK
  u_c stepG_end key hK
  u_leave0 H.f_uStore key hK
  u_c stepG_region_end key hK
  u_c stepG_seq key hK
  u_c stepG_seq key hK
  u_reg key hK
  u_op key hK
  u_c stepG_region_end key hK
  u_cond false key hK
  u_c stepG_skip key hK
  u_c stepG_block key hK
  u_c stepG_loop key hK
  u_c stepG_seq key hK
  u_c stepG_seq key hK
  u_reg key hK
  u_op key hK
  u_op key hK
  u_c stepG_region_end key hK
  u_cond true key hK
  u_c stepG_skip key hK
  u_c stepG_seq key hK
  u_c stepG_block key hK
  u_reg key hK
  u_op key hK
  u_op key hK
  u_op key hK
  refine Goes.stop (fun w₄ h₄=>?_)
  clear h₄ hK
  refine ⟨rfl,mayWake_entry rfl rfl H.f_semrelease (x_semrelease_b L),fun hw=>⟨_,qt+40,(stepG_semrelease rfl rfl (by k_ne) rfl H.f_semrelease (x_semrelease_n L) (x_semrelease_b L) (x_semrelease_x L) (x_semrelease_f L) (by simp [Act.eval,smA]) (WgAt.cellSm hw) (WgAt.thaw hw 1)).trans (by rfl),?_⟩⟩
  clear hw
  walk_nrm
  q_c stepG_region_end
  q_c stepG_inBlock
  q_reg
  q_val (.int .u32 1)
  q_val (.int .u32 0)
  q_val (.int .u32 0)
  q_c stepG_region_end
  q_c stepG_inLoop
  q_c stepG_seq
  q_c stepG_seq
  q_reg
  q_val (.int .u32 0)
  q_val (.bool false)
  q_c stepG_region_end
  q_cond false
  q_exit
  q_c stepG_end
  q_enable
  q_leave0 H.f_add
  exact quits_mono hT (by omega)
 ·-- some are left,nobody waits
  replace hw:WgAt L.tWg Wg w₁ (((v:Nat)+1)*KK+0) 0:=by simpa using hw
  have z:((v:Nat):Int)*KK+((0:Nat):Int)=(v:Int)*KK+0:=by simp
  rw [z]
  have eS:IntKind.u64.wrap (((v:Nat)+1)*KK+0+18446744069414584320)=(v:Int)*KK+0:=by rw [IntKind.wrap_u64];simp only [KK];omega
  obtain ⟨S,hS⟩:∃ S:Int,S=(v:Int)*KK+0:=⟨_,rfl⟩
  rw [← hS] at eS ⊢
  have a1:S/4294967296=(v:Int):=by rw [hS];simp only [KK];omega
  have a2:0≤S∧S<9223372036854775808:=by rw [hS];simp only [KK];omega
  have b1:bits .and .u64 S 2147483648=0:=by rw [hS];have:=Go.ConcN.st_flag v 0 (by omega) (by omega);simpa [KK] using this
  have b2:bits .and .u64 S 2147483647=0:=by rw [hS];have:=Go.ConcN.st_waiters v 0 (by omega) (by omega);simpa [KK] using this
  clear hS z
  refine ⟨_,(stepG_add_atomic rfl rfl (by k_ne) rfl H.f_addU64 (x_addU64_n L) (x_addU64_b L) (x_addU64_x L) .u64 (x_addU64_f L) rfl rfl (WgAt.cellSt hw) (WgAt.thaw hw 0)).trans (by rw [eS];rfl),fun hl=>absurd hl.1 (by omega),fun _=>⟨qt+150,?_⟩⟩
  clear hw
  walk_nrm
  q_vn (.int .u64 S)
  q_c stepG_region_end
  q_c stepG_ret'
  q_leave1 H.f_uAdd
  q_vn (.int .u64 S)
  q_c stepG_region_end
  q_c stepG_seq
  q_c stepG_seq
  q_reg
  q_vn (.int .u64 S)
  q_vn (.int .u64 0)
  q_vn (.bool false)
  q_vn (.bool false)
  q_skip
  q_skip
  q_vn (.bool false)
  q_c stepG_region_end
  q_cond false
  q_c stepG_skip
  q_c stepG_seq
  q_reg
  q_vn (.int .u64 S)
  q_vn (.int .u64 (v:Int))
  q_vn (.int .i32 (v:Int))
  q_vn (.int .i32 (v:Int))
  q_c stepG_region_end
  q_c stepG_seq
  q_reg
  q_vn (.int .u64 S)
  q_vn (.int .u64 0)
  q_vn (.int .u32 0)
  q_vn (.int .u32 0)
  q_c stepG_region_end
  q_c stepG_seq
  q_c stepG_seq
  q_reg
  q_vn (.bool true)
  q_vn (.int .i64 (-1))
  q_vn (.bool false)
  q_vn (.bool false)
  q_vn (.bool false)
  q_skip
  q_skip
  q_skip
  q_skip
  q_vn (.bool false)
  q_c stepG_region_end
  q_cond false
  q_c stepG_skip
  q_c stepG_seq
  q_c stepG_seq
  q_reg
  q_vn (.int .i32 (v:Int))
  q_vn (.bool false)
  q_c stepG_region_end
  q_cond false
  q_c stepG_skip
  q_c stepG_seq
  q_c stepG_seq
  q_reg
  q_vn (.int .u32 0)
  q_vn (.bool false)
  q_vn (.bool false)
  q_skip
  q_skip
  q_vn (.bool false)
  q_vn (.bool false)
  q_skip
  q_skip
  q_skip
  q_skip
  q_vn (.bool false)
  q_c stepG_region_end
  q_cond false
  q_c stepG_skip
  q_c stepG_seq
  q_c stepG_seq
  q_reg
  q_vn (.int .i32 (v:Int))
  q_vn (.bool true)
  q_vn (.bool true)
  q_skip
  q_skip
  q_vn (.bool true)
  q_c stepG_region_end
  q_cond true
  q_c stepG_ret'
  q_enable
  q_leave0 H.f_add
  exact quits_mono hT (by omega)
 ·-- some are left,the starter waits
  replace hw:WgAt L.tWg Wg w₁ (((v:Nat)+1)*KK+1) 0:=by simpa using hw
  have z:((v:Nat):Int)*KK+((1:Nat):Int)=(v:Int)*KK+1:=by simp
  rw [z]
  have eS:IntKind.u64.wrap (((v:Nat)+1)*KK+1+18446744069414584320)=(v:Int)*KK+1:=by rw [IntKind.wrap_u64];simp only [KK];omega
  obtain ⟨S,hS⟩:∃ S:Int,S=(v:Int)*KK+1:=⟨_,rfl⟩
  rw [← hS] at eS ⊢
  have a1:S/4294967296=(v:Int):=by rw [hS];simp only [KK];omega
  have a2:0≤S∧S<9223372036854775808:=by rw [hS];simp only [KK];omega
  have b1:bits .and .u64 S 2147483648=0:=by rw [hS];have:=Go.ConcN.st_flag v 1 (by omega) (by omega);simpa [KK] using this
  have b2:bits .and .u64 S 2147483647=1:=by rw [hS];have:=Go.ConcN.st_waiters v 1 (by omega) (by omega);simpa [KK] using this
  clear hS z
  refine ⟨_,(stepG_add_atomic rfl rfl (by k_ne) rfl H.f_addU64 (x_addU64_n L) (x_addU64_b L) (x_addU64_x L) .u64 (x_addU64_f L) rfl rfl (WgAt.cellSt hw) (WgAt.thaw hw 0)).trans (by rw [eS];rfl),fun hl=>absurd hl.1 (by omega),fun _=>⟨qt+150,?_⟩⟩
  clear hw
  walk_nrm
  q_vn (.int .u64 S)
  q_c stepG_region_end
  q_c stepG_ret'
  q_leave1 H.f_uAdd
  q_vn (.int .u64 S)
  q_c stepG_region_end
  q_c stepG_seq
  q_c stepG_seq
  q_reg
  q_vn (.int .u64 S)
  q_vn (.int .u64 0)
  q_vn (.bool false)
  q_vn (.bool false)
  q_skip
  q_skip
  q_vn (.bool false)
  q_c stepG_region_end
  q_cond false
  q_c stepG_skip
  q_c stepG_seq
  q_reg
  q_vn (.int .u64 S)
  q_vn (.int .u64 (v:Int))
  q_vn (.int .i32 (v:Int))
  q_vn (.int .i32 (v:Int))
  q_c stepG_region_end
  q_c stepG_seq
  q_reg
  q_vn (.int .u64 S)
  q_vn (.int .u64 1)
  q_vn (.int .u32 1)
  q_vn (.int .u32 1)
  q_c stepG_region_end
  q_c stepG_seq
  q_c stepG_seq
  q_reg
  q_vn (.bool true)
  q_vn (.int .i64 (-1))
  q_vn (.bool false)
  q_vn (.bool false)
  q_vn (.bool false)
  q_skip
  q_skip
  q_skip
  q_skip
  q_vn (.bool false)
  q_c stepG_region_end
  q_cond false
  q_c stepG_skip
  q_c stepG_seq
  q_c stepG_seq
  q_reg
  q_vn (.int .i32 (v:Int))
  q_vn (.bool false)
  q_c stepG_region_end
  q_cond false
  q_c stepG_skip
  q_c stepG_seq
  q_c stepG_seq
  q_reg
  q_vn (.int .u32 1)
  q_vn (.bool true)
  q_vn (.bool true)
  q_vn (.int .i64 (-1))
  q_vn (.bool false)
  q_vn (.bool false)
  q_vn (.bool false)
  q_skip
  q_skip
  q_skip
  q_skip
  q_vn (.bool false)
  q_c stepG_region_end
  q_cond false
  q_c stepG_skip
  q_c stepG_seq
  q_c stepG_seq
  q_reg
  q_vn (.int .i32 (v:Int))
  q_vn (.bool true)
  q_vn (.bool true)
  q_skip
  q_skip
  q_vn (.bool true)
  q_c stepG_region_end
  q_cond true
  q_c stepG_ret'
  q_enable
  q_leave0 H.f_add
  exact quits_mono hT (by omega)
end Go.PB
namespace Go.PB
open Go.Conc Go.Conc.Lib Go.ConcR.Gen
open Go.ConcR (KK stA smA rd wr mk DC0)
set_option maxRecDepth 100000 in
theorem add_goes2 [Go.ConcR.Payload] {P:Program} {L:WgLink} (H:WgLib P L) {Wg:Nat} {b₀:Frame} {a₀:Act} {ops₀:Array Oper} {i₀:Nat} {rest₀:List Nat} {k₀:List Item} {cs:List Frame} {qt:Nat}
  (hT:QuitsD P qt 0 (G (b₀.at (a₀.put ((ops₀[i₀]?).bind (·.dst)) (.tuple #[])) (.inRegion ops₀ rest₀::k₀)) cs)) (w:World) (hK:WgLive L.tWg Wg w) :
  Zg P L.tWg Wg (ZR P L.tWg Wg) 20 (G ((Go.Conc.base L.add).at ⟨#[.pointer (some ⟨Wg,0,none⟩),.int .i64 (-1),undef,undef,undef,undef,undef,undef,undef,undef,undef,undef,undef,undef,undef,undef,undef,undef,undef,undef,undef,undef,undef,undef,undef,undef,undef,undef,undef,undef,undef,undef,undef,undef,undef,undef,undef,undef,undef,undef,undef,undef,undef,undef,undef,undef,undef,undef,undef,undef,undef,undef,undef,undef,undef,undef,undef,undef,undef,undef,undef,undef,undef,undef,undef,undef,undef,undef,undef,undef,undef,undef,undef,undef,undef,undef,undef,undef,undef,undef,undef,undef,undef,undef,undef,undef,undef,undef,undef,undef,undef,undef,undef,undef,undef,undef,undef,undef,undef,undef,undef,undef,undef,undef,undef,undef,undef,undef,undef,undef,undef,undef,undef,undef,undef,undef,undef],[]⟩ [.code (body_add L)]) (b₀.at a₀ (.inRegion ops₀ (i₀::rest₀)::k₀)::cs)) w:=by
 have e:(#[.pointer (some ⟨Wg,0,none⟩),.int .i64 (-1),undef,undef,undef,undef,undef,undef,undef,undef,undef,undef,undef,undef,undef,undef,undef,undef,undef,undef,undef,undef,undef,undef,undef,undef,undef,undef,undef,undef,undef,undef,undef,undef,undef,undef,undef,undef,undef,undef,undef,undef,undef,undef,undef,undef,undef,undef,undef,undef,undef,undef,undef,undef,undef,undef,undef,undef,undef,undef,undef,undef,undef,undef,undef,undef,undef,undef,undef,undef,undef,undef,undef,undef,undef,undef,undef,undef,undef,undef,undef,undef,undef,undef,undef,undef,undef,undef,undef,undef,undef,undef,undef,undef,undef,undef,undef,undef,undef,undef,undef,undef,undef,undef,undef,undef,undef,undef,undef,undef,undef,undef,undef,undef,undef,undef,undef]:Array Value)=#[.pointer (some ⟨Wg,0,none⟩),.int .i64 (-1)]++Array.replicate 115 undef:=by kernel_rfl
 rw [e]
 exact add_goes H hT w hK
set_option maxHeartbeats 8000000 in
set_option maxRecDepth 100000 in
theorem done_goes [Go.ConcR.Payload] {P:Program} {L:WgLink} (H:WgLib P L) {Wg:Nat} {c:Frame} {cs:List Frame} {qt:Nat} (hcm:c.mode=.returning) (hT:QuitsD P qt 0 (G c cs)) (w:World) (hK:WgLive L.tWg Wg w) :
  Zg P L.tWg Wg (ZR P L.tWg Wg) 23 (G ((baseD L.done).at ⟨#[.pointer (some ⟨Wg,0,none⟩),undef,undef,undef],[]⟩ [.code (body_done L)]) (c::cs)) w:=by
 lib_facts
 have hA:=@add_goes2 _ P L H Wg
 unfold Zg at hA ⊢
 have key:∀ {w w₁:World},WgLive L.tWg Wg w→RL L.tWg Wg w w₁→WgLive L.tWg Wg w₁:=fun h r=>r h
 simp only [body_done,body_add,doneFn,addFn,Option.getD_some] at hA ⊢
 u_reg key hK
 u_op key hK
 u_in key hK
 refine goes_call rfl rfl (by k_ne) rfl H.f_add (nm_add L) rfl ⟨by u_nil,?_⟩
 walk_nrmf addFn
 refine hA (qt:=qt+3) ?_ _ hK
 q_c stepG_region_end
 q_c stepG_end
 exact QuitsD.leaveD rfl rfl H.f_done rfl hcm hT
theorem done_enter {P:Program} {L:WgLink} (H:WgLib P L) {v:Value}:Frame.enter P L.done #[v] .deferred=(baseD L.done).at ⟨#[v,undef,undef,undef],[]⟩ [.code (body_done L)]:=by
 simp [Frame.enter,H.f_done,body_done,doneFn]
 rfl
end Go.PB
namespace Go.PB
open Go.Conc Go.Conc.Lib
open Go.ConcR (KK stA smA rd wr mk DC0)
section
variable {P:Program} {main:Bool} {fr:Frame} {cs:List Frame} {o:Oper} {w w':World}
theorem atOp_step (a:AtOp fr o):∃ ops i l k,fr=mkFr ⟨fr.fn,fr.kind⟩ fr.tmps fr.defers (.inRegion ops (i::l)::k)∧ops[i]?=some o∧Region.wanted o (yielded ops fr.tmps)=true∧fr.eval=evT fr.tmps:=by
 obtain ⟨hm,hr,ops,i,l,k,htd,ho,hw⟩:=a
 refine ⟨ops,i,l,k,?_,ho,hw,?_⟩
 ·cases fr;simp only at hm hr htd;subst hm;subst hr;subst htd;rfl
 ·funext q;cases q <;> rfl
theorem step_value {v:Value} {es:Array Event} (a:AtOp fr o) (ne:fr.kind≠.early) (hr:(execOp fr.eval o).runT P w #[]=(.ok (.value v) w',es)) :
  stepG P main (G fr cs) w=.go (G (fr.finish v) cs) w' (seen P fr.fn es):=by
 obtain ⟨ops,i,l,k,e,ho,hw,he⟩:=atOp_step a
 have hs:=stepG_op (P:=P) (main:=main) (b:=⟨fr.fn,fr.kind⟩) (t:=fr.tmps) (d:=fr.defers) (l:=l) (k:=k) (cs:=cs) (w:=w) ho hw
 rw [← e] at hs
 rw [hs]
 rw [he] at hr
 have hk:(fr.kind == .early)=false:=by cases hx:fr.kind <;> first | rfl | exact absurd hx ne
 have hk':((mkFr ⟨fr.fn,fr.kind⟩ fr.tmps fr.defers (.inRegion ops (i::l)::k)).kind == .early)=false:=hk
 simp only [stepG.apply,if_true,hr,hk,GStep.after,Bool.false_eq_true,if_false,Array.append_empty]
 rfl
theorem step_comm {cases:Array CommCase} {bl:Bool} {sh:CommShape} (a:AtOp fr o) (hr:(execOp fr.eval o).runT P w #[]=(.ok (.comm cases bl sh) w,#[])) :
  stepG P main (G fr cs) w=.comm (G fr cs) cases bl sh w #[]:=by
 obtain ⟨ops,i,l,k,e,ho,hw,he⟩:=atOp_step a
 have hs:=stepG_op (P:=P) (main:=main) (b:=⟨fr.fn,fr.kind⟩) (t:=fr.tmps) (d:=fr.defers) (l:=l) (k:=k) (cs:=cs) (w:=w) ho hw
 rw [← e] at hs
 rw [hs]
 rw [he] at hr
 simp only [stepG.apply,if_true,hr,GStep.after,ite_self]
 rfl
theorem step_spawn {d:Deferred} {f:Fn} {cap:Array Value} (hd:d.target=.fn f cap) (a:AtOp fr o) (hr:(execOp fr.eval o).runT P w #[]=(.ok (.spawn d) w,#[])) :
  stepG P main (G fr cs) w=.spawn (G (fr.finish undef) cs) (G (goFr P d) []) w #[]:=by
 obtain ⟨ops,i,l,k,e,ho,hw,he⟩:=atOp_step a
 have hs:=stepG_op (P:=P) (main:=main) (b:=⟨fr.fn,fr.kind⟩) (t:=fr.tmps) (d:=fr.defers) (l:=l) (k:=k) (cs:=cs) (w:=w) ho hw
 rw [← e] at hs
 rw [hs]
 rw [he] at hr
 simp only [stepG.apply,if_true,hr,GStep.after,ite_self,hd,Bool.and_false,Bool.false_and,Bool.false_eq_true,if_false]
 rfl
theorem step_block {es:Array Event} (a:AtOp fr o) (hr:(execOp fr.eval o).runT P w #[]=(.halt .blocked w',es)) :
  stepG P main (G fr cs) w=.go { G fr cs with status:=.blocked } w' #[]:=by
 obtain ⟨ops,i,l,k,e,ho,hw,he⟩:=atOp_step a
 have hs:=stepG_op (P:=P) (main:=main) (b:=⟨fr.fn,fr.kind⟩) (t:=fr.tmps) (d:=fr.defers) (l:=l) (k:=k) (cs:=cs) (w:=w) ho hw
 rw [← e] at hs
 rw [hs]
 rw [he] at hr
 simp only [stepG.apply,if_true,hr,GStep.after,ite_self]
 rfl
end
structure Runs (g:Goroutine) (fr:Frame) (cs:List Frame):Prop where
 frame:g.frame=fr
 callers:g.callers=cs
 status:g.status=.running
 dying:g.dying=none
structure Parks (g:Goroutine) (fr:Frame) (cs:List Frame) (cases:Array CommCase) (sh:CommShape):Prop where
 frame:g.frame=fr
 callers:g.callers=cs
 status:g.status=.blocked
 dying:g.dying=none
 offers:g.offers=some (cases,sh)
structure Sleeps (g:Goroutine) (fr:Frame) (cs:List Frame):Prop where
 frame:g.frame=fr
 callers:g.callers=cs
 status:g.status=.blocked
 dying:g.dying=none
 offers:g.offers=none
theorem Runs.step {P:Program} {main:Bool} {g:Goroutine} {fr:Frame} {cs:List Frame} (r:Runs g fr cs) (w:World):stepG P main g w=stepG P main (G fr cs) w :=
 stepG_same r.frame r.callers r.dying w
theorem runs_G {fr:Frame} {cs:List Frame}:Runs (G fr cs) fr cs:=⟨rfl,rfl,rfl,rfl⟩
theorem Parks.eq {g:Goroutine} {fr:Frame} {cs:List Frame} {cases:Array CommCase} {sh:CommShape} (p:Parks g fr cs cases sh):g=parked (G fr cs) cases sh:=by
 obtain ⟨h1,h2,h3,h4,h5⟩:=p
 cases g;simp only at h1 h2 h3 h4 h5;subst h1;subst h2;subst h3;subst h4;subst h5;rfl
section
variable (P:Program) (cv:Value) (L:WgLink) (Em:Frame→List Frame→Hp→MX→Prop)
abbrev TN:=Node P (tHand P cv) false (tEnd P L.done)
abbrev MN:=Node P (mHand P cv L.done L.tWg) true Em
inductive Slot:Type 1
 | act (n:TN P cv L)
 | out (k m:Nat)
variable {P cv L}
def SBel:Slot P cv L→Slot P cv L→Prop
 | .act n,.act n'=>Relation.TransGen Below n n'
 | .out _ _,.act _=>True
 | .act _,.out _ _=>False
 | .out k m,.out k' m'=>k<k'∨(k=k'∧m<m')
theorem sbel_wf:WellFounded (SBel (P:=P) (cv:=cv) (L:=L)):=by
 have ho:∀ k m,Acc (SBel (P:=P) (cv:=cv) (L:=L)) (.out k m):=by
  intro k
  induction k using Nat.strongRecOn with
  | _ k ihk =>
   intro m
   induction m using Nat.strongRecOn with
   | _ m ihm =>
    refine ⟨_,fun s hs=>?_⟩
    cases s with
    | act n=>exact hs.elim
    | out k' m' =>
     rcases hs with h | ⟨rfl,h⟩
     ·exact ihk k' h m'
     ·exact ihm m' h
 refine ⟨fun s=>?_⟩
 cases s with
 | out k m=>exact ho k m
 | act n =>
  induction n using (WellFounded.transGen (below_wf (P:=P) (B:=tHand P cv) (main:=false) (E:=tEnd P L.done))).induction with
  | _ n ih =>
   refine ⟨_,fun s hs=>?_⟩
   cases s with
   | act n'=>exact ih n' hs
   | out k m=>exact ho k m
def ZS (P:Program) (ty:TypeId) (Wg:Nat):Nat→Goroutine→World→Prop
 | 6=>ZR P ty Wg
 | 5=>ZK P ty Wg
 | 4=>Z1 P ty Wg
 | 3=>Z2 P ty Wg
 | 2=>Z3 P ty Wg
 | 1=>Z4 P ty Wg
 | _=>fun _ _=>False
theorem zs_running {P:Program} {ty:TypeId} {Wg k:Nat} {g:Goroutine} {w:World} (h:ZS P ty Wg k g w):g.status=.running:=by
 unfold ZS at h
 split at h <;> first | exact h.1 | exact h.elim
theorem zg_running {P:Program} {ty:TypeId} {Wg k m:Nat} {g:Goroutine} {w:World} (h:Zg P ty Wg (ZS P ty Wg k) m g w):g.status=.running:=by
 unfold Zg at h
 cases m with
 | zero=>exact zs_running (h w fun x=>x)
 | succ m=>exact h.elim (fun h=>zs_running (h w fun x=>x)) (fun h=>h.1)
theorem zg_step {P:Program} {ty:TypeId} {Wg k m:Nat} {g:Goroutine} {w:World} (h:Zg P ty Wg (ZS P ty Wg k) m g w) :
  ZS P ty Wg k g w∨∃ m' g',m=m'+1∧stepG P false g w=.go g' w #[]∧Zg P ty Wg (ZS P ty Wg k) m' g' w:=by
 unfold Zg at h
 cases m with
 | zero=>exact .inl (h w fun x=>x)
 | succ m =>
  rcases h with h | ⟨_,h⟩
  ·exact .inl (h w fun x=>x)
  ·right
   have:=h w fun x=>x
   revert this
   cases e:stepG P false g w <;> simp only [GStep.goes,false_imp_iff]
   rintro ⟨⟨rfl,rfl⟩,q⟩
   exact ⟨m,_,rfl,rfl,q⟩
theorem zg_rely {P:Program} {ty:TypeId} {Wg m:Nat} {S:Goroutine→World→Prop} {g:Goroutine} {w w':World} (h:Zg P ty Wg S m g w) (r:RL ty Wg w w'):Zg P ty Wg S m g w' :=
 Goes.rely (fun _ _ _ a b x=>b (a x)) h r
structure Mem (w:World) (t:Trace) (hp:Nat→Hp):Prop where
 fits:∀ i,Fits (hp i) w
 sep:∀ i j,i≠j→Sep (hp i) (hp j)
 nr:∀ said,¬ Race said t
 low:Low t w.heap.size
 norel:∀ op∈t,∀ a,op.act≠.mark (.release a)
def put (hp:Nat→Hp) (a:Nat) (h:Hp):Nat→Hp:=fun i=>if i=a then h else hp i
theorem put_self {hp:Nat→Hp} {a:Nat} {h:Hp}:put hp a h a=h:=by simp [put]
theorem put_ne {hp:Nat→Hp} {a i:Nat} {h:Hp} (hi:i≠a):put hp a h i=hp i:=by simp [put,hi]
structure Own (a:Nat) (h:Hp) (w w':World) (h':Hp) (u:Trace):Prop where
 guar:Guar h w w' h'
 g:∀ op∈u,op.g=a
 mine:∀ op∈u,∀ b,op.act.touch?=some b→Mine h w w'.heap.size b
 plain:∀ op∈u,Plain op
theorem Mem.own {w w':World} {t u:Trace} {hp:Nat→Hp} {a:Nat} {h':Hp} (m:Mem w t hp) (o:Own a (hp a) w w' h' u) (k:Kn t (Knows t a) (hp a)):Mem w' (t++u) (put hp a h') where
 fits:=fun i=>by
  by_cases hi:i=a
  ·subst hi;rw [put_self];exact o.guar.fits
  ·rw [put_ne hi];exact fits_other o.guar (m.sep a i fun e=>hi e.symm) (m.fits a) (m.fits i)
 sep:=fun i j hij=>by
  by_cases hi:i=a
  ·subst hi;rw [put_self,put_ne fun e=>hij e.symm];exact sep_other o.guar (m.sep _ _ hij) (m.fits j)
  ·by_cases hj:j=a
   ·subst hj;rw [put_self,put_ne hi];exact (sep_other o.guar (m.sep _ _ fun e=>hij e.symm) (m.fits i)).symm
   ·rw [put_ne hi,put_ne hj];exact m.sep _ _ hij
 nr:=fun said=>(kn_step (m.nr said) k m.low o.guar o.g o.mine).1
 low:=(kn_step (m.nr false) k m.low o.guar o.g o.mine).2.2
 norel:=fun op ho b=>by
  rcases Array.mem_append.1 ho with ho | ho
  ·exact m.norel op ho b
  ·intro e;rcases o.plain op ho _ e with h | ⟨f,h⟩ <;> cases h
theorem Mem.mute {w w':World} {t u:Trace} {hp:Nat→Hp} (m:Mem w t hp) (hf:∀ i,Fits (hp i) w') (hs:w.heap.size≤w'.heap.size) (hm:∀ op∈u,op.act.touch?=none) (hr:∀ op∈u,∀ a,op.act≠.mark (.release a)):Mem w' (t++u) hp :=
 ⟨hf,m.sep,fun said=>race_mute (m.nr said) hm,(low_mute m.low hm).mono hs,fun op ho b=>(Array.mem_append.1 ho).elim (fun ho=>m.norel op ho b) (fun ho=>hr op ho b)⟩
theorem counts_old {t u:Trace} {j:Nat} (hj:j<t.size):(t++u).counts j↔t.counts j:=by
 unfold Trace.counts
 rw [act?_old hj]
 have:(t++u).heard j↔t.heard j:=by
  unfold Trace.heard Trace.g?
  simp only [getElem?_append_old hj,deaf_old (Nat.le_of_lt hj)]
 rw [this]
theorem g?_lt {t:Trace} {j i:Nat} (h:t.g? j=some i):j<t.size:=by
 unfold Trace.g? at h
 obtain ⟨op,ho,_⟩:=Option.map_eq_some_iff.1 h
 exact lt_size_of_getElem? ho
theorem g?_app {t u:Trace} {j:Nat} (h:j<t.size):(t++u).g? j=t.g? j:=by unfold Trace.g?;rw [getElem?_append_old h]
theorem g?_new {t u:Trace} {i j:Nat} (hu:∀ op∈u,op.g≠i) (h:(t++u).g? j=some i):j<t.size∧t.g? j=some i:=by
 unfold Trace.g? at h
 obtain ⟨op,ho,hg⟩:=Option.map_eq_some_iff.1 h
 rcases getElem?_append_cases ho with ⟨h1,h2⟩ | ⟨_,h2⟩
 ·exact ⟨h1,by simp [Trace.g?,h2,hg]⟩
 ·exact absurd hg (hu op h2)
def AllK (t:Trace) (i:Nat) (K:Nat→Prop):Prop:=∀ j,t.g? j=some i→t.counts j→K j
theorem AllK.app {t u:Trace} {i:Nat} {K K':Nat→Prop} (h:AllK t i K) (hK:∀ j,K j→K' j) (hu:∀ op∈u,op.g≠i):AllK (t++u) i K':=fun j hj hc=>by
 obtain ⟨h1,h2⟩:=g?_new hu hj
 exact hK _ (h j h2 ((counts_old h1).1 hc))
structure Rel (t:Trace) (wg i p:Nat):Prop where
 act:t.act? p=some (.mark (.releaseMerge ⟨wg,0,none⟩))
 g:t.g? p=some i
 heard:t.heard p
theorem Rel.app {t:Trace} {wg i p:Nat} (r:Rel t wg i p) (u:Trace):Rel (t++u) wg i p:=by
 have hp:=g?_lt r.g
 refine ⟨by rw [act?_old hp];exact r.act,by rw [g?_app hp];exact r.g,?_⟩
 obtain ⟨g,h1,h2⟩:=r.heard
 exact ⟨g,by rw [g?_app hp];exact h1,by rw [deaf_old (Nat.le_of_lt hp)];exact h2⟩
def SlotKn (t:Trace) (wg i:Nat) (h:Hp):Slot P cv L→Prop
 | .act n=>Kn t (Knows t i) h∧n.h=h∧Deaf t i=0
 | .out k m=>(k=6∧Kn t (Knows t i) h∧Deaf t i=0) ∨
   (k≤5∧(∃ p,Rel t wg i p∧Kn t (fun j=>Before t j p) h∧AllK t i fun j=>Before t j p)∧(k=5→Deaf t i=0)∧(1≤k→k≤4→Deaf t i=1))
theorem SlotKn.app {t u:Trace} {wg i:Nat} {h:Hp} {s:Slot P cv L} (k:SlotKn t wg i h s) (hu:∀ op∈u,op.g≠i) (hk:∀ {K K':Nat→Prop},Kn t K h→(∀ j,K j→K' j)→Kn (t++u) K' h):SlotKn (t++u) wg i h s:=by
 cases s with
 | act n=>exact ⟨hk k.1 fun j h=>h.app u,k.2.1,by rw [Deaf_others hu];exact k.2.2⟩
 | out c m =>
  rcases k with ⟨h1,h2,h3⟩ | ⟨h1,⟨p,h2,h3,h4⟩,h5,h6⟩
  ·exact .inl ⟨h1,hk h2 fun j h=>h.app u,by rw [Deaf_others hu];exact h3⟩
  ·exact .inr ⟨h1,⟨p,h2.app u,hk h3 fun j h=>h.app u,h4.app (fun j h=>h.app u) hu⟩,by rw [Deaf_others hu];exact h5,by rw [Deaf_others hu];exact h6⟩
structure Old (t:Trace) (i:Nat) (h:Hp) (s:Slot P cv L):Prop where
 out:∃ m,s=.out 0 m
 empty:h=Hp.empty
 all:AllK t i (Knows t 0)
theorem Old.app {t u:Trace} {i:Nat} {h:Hp} {s:Slot P cv L} (o:Old t i h s) (hu:∀ op∈u,op.g≠i):Old (t++u) i h s:=⟨o.out,o.empty,o.all.app (fun j h=>h.app u) hu⟩
end
end Go.PB
namespace Go.PB
open Go.Conc Go.Conc.Lib
open Go.ConcR (KK stA smA rd wr mk DC0)
def Seat.ch {σ θ:Type} (c:Seat σ θ):Nat→Nat
 | 0=>c.says
 | 1=>c.turn
 | _=>c.fin
def NewG (W0:World):MX→Prop
 | .idle=>True
 | .game X=>W0.heap.size≤X.wg∧∀ (j:Nat) (c:Seat X.g.σ X.g.θ) (a:Nat),X.seats[j]?=some c→W0.heap.size≤c.ch a
structure Side (w w':World):Prop where
 os:w'.os=w.os
 tape:w'.tape=w.tape
 output:w'.output=w.output
 frz:∀ a,w'.frozen? a=w.frozen? a
theorem Side.refl {w:World}:Side w w:=⟨rfl,rfl,rfl,fun _=>rfl⟩
theorem side_setCell {w:World} {a:Addr} {v:Value}:Side w (w.setCell a v):=⟨rfl,rfl,rfl,fun a'=>frozen_setCell ..⟩
structure Aft (W0 w:World) (hp:Nat→Hp) (x:MX):Prop where
 after:After W0 w
 own:∀ i b o v,(hp i).own b o=some v→W0.heap.size≤b
 obj:∀ i b v,(hp i).obj b=some v→W0.heap.size≤b
 game:NewG W0 x
section
variable {W0 w w':World} {hp:Nat→Hp} {x x':MX} {t u:Trace} {a:Nat} {h':Hp}
theorem Aft.le (A:Aft W0 w hp x):W0.heap.size≤w.heap.size:=A.after.1.size
theorem Aft.own_step (A:Aft W0 w hp x) (o:Own a (hp a) w w' h' u):Aft W0 w' (put hp a h') x where
 after:=⟨⟨o.guar.os.trans A.after.1.os,o.guar.tape.trans A.after.1.tape,o.guar.output.trans A.after.1.output,Nat.le_trans A.after.1.size o.guar.size,fun i hi=>by
  rw [o.guar.block i (Nat.lt_of_lt_of_le hi A.le) (fun o=>none_of fun v e=>by have:=A.own _ _ _ _ e;omega) (none_of fun v e=>by have:=A.obj _ _ _ e;omega)]
  exact A.after.1.block i hi⟩,fun a=>(o.guar.frz a).trans (A.after.2 a)⟩
 own:=fun i b k v e=>by
  by_cases hi:i=a
  ·subst hi
   rw [put_self] at e
   refine Nat.le_of_not_lt fun hlt=>?_
   have hlt':=Nat.lt_of_lt_of_le hlt A.le
   cases eh:(hp i).own b k with
   | none=>rw [o.guar.newo _ _ hlt' eh] at e;cases e
   | some v'=>have:=A.own _ _ _ _ eh;omega
  ·rw [put_ne hi] at e;exact A.own _ _ _ _ e
 obj:=fun i b v e=>by
  by_cases hi:i=a
  ·subst hi
   rw [put_self] at e
   refine Nat.le_of_not_lt fun hlt=>?_
   have hlt':=Nat.lt_of_lt_of_le hlt A.le
   cases eh:(hp i).obj b with
   | none=>rw [o.guar.newb _ hlt' eh] at e;cases e
   | some v'=>have:=A.obj _ _ _ eh;omega
  ·rw [put_ne hi] at e;exact A.obj _ _ _ e
 game:=A.game
theorem Aft.at_block (A:Aft W0 w hp x) {c:Nat} (hc:W0.heap.size≤c) (s:Side w w') (hw:∀ b,b≠c→w'.heap[b]?=w.heap[b]?) (hs:w'.heap.size=w.heap.size) (hx:NewG W0 x'):Aft W0 w' hp x' where
 after:=⟨⟨s.os.trans A.after.1.os,s.tape.trans A.after.1.tape,s.output.trans A.after.1.output,by rw [hs];exact A.after.1.size,fun i hi=>by rw [hw i (by omega)];exact A.after.1.block i hi⟩,fun a=>(s.frz a).trans (A.after.2 a)⟩
 own:=A.own
 obj:=A.obj
 game:=hx
theorem Aft.parts' (A:Aft W0 w hp x) {hp':Nat→Hp} (h1:∀ i b o v,(hp' i).own b o=some v→∃ k,(hp k).own b o=some v) (h2:∀ i b v,(hp' i).obj b=some v→∃ k,(hp k).obj b=some v) (hx:NewG W0 x'):Aft W0 w hp' x' where
 after:=A.after
 own:=fun i b o v e=>by obtain ⟨k,e⟩:=h1 _ _ _ _ e;exact A.own _ _ _ _ e
 obj:=fun i b v e=>by obtain ⟨k,e⟩:=h2 _ _ _ e;exact A.obj _ _ _ e
 game:=hx
theorem side_chan {ch:Nat} {o:Obj} {c n m:Nat} {bf:Array Value} {cl tm:Bool} (e:w.heap[ch]?=some (.chan c bf cl n m tm)) (ho:isCells o=false) (hos:w'.os=w.os) (ht:w'.tape=w.tape) (hou:w'.output=w.output) (hw:w'.heap=w.heap.setIfInBounds ch o):Side w w' where
 os:=hos
 tape:=ht
 output:=hou
 frz:=fun a=>by
  unfold World.frozen?
  rw [hw]
  by_cases h:ch=a.block
  ·subst h
   rw [Array.getElem?_setIfInBounds_self_of_lt (Array.getElem?_eq_some_iff.1 e).1,e]
   cases o <;> simp [isCells] at ho ⊢
  ·rw [Array.getElem?_setIfInBounds_ne h]
end
end Go.PB
namespace Go.PB
open Go.Conc Go.Conc.Lib
open Go.ConcR (KK stA smA rd wr mk DC0)
variable {W0:World} {P:Program} {cv:Value} {L:WgLink} {Em:Frame→List Frame→Hp→MX→Prop}
def SeatSt.isShut {σ θ:Type}:SeatSt σ θ→Bool
 | .shut _=>true
 | _=>false
def SeatSt.isRun {σ θ:Type}:SeatSt σ θ→Bool
 | .run _ _=>true
 | _=>false
inductive PhOk {g:Game} (left:Nat):SeatSt g.σ g.θ→Ph g.σ g.θ→Prop
 | run {s q n} (h:left≤n):PhOk left (.run s q) (.busy s q n)
 | said {q n} (h:left≤n) (hp:(g.plan q).isSome=true):PhOk left (.said q) (.said q n)
 | over {q} (hp:g.plan q=none):PhOk left (.said q) (.over q)
 | shutS {q n} (hp:(g.plan q).isSome=true):PhOk left (.shut q) (.said q n)
 | shutO {q}:PhOk left (.shut q) (.over q)
 | shutC {q}:PhOk left (.shut q) (.cut q)
def SlotG (w:World) (wg d:Nat) (g:Goroutine):Slot P cv L→Prop
 | .act n=>Runs g n.fr n.cs∨∃ cases sh,Parks g n.fr n.cs cases sh∧∃ fr cs h x o bl O at_ rr a k,n=⟨fr,cs,h,x,.comm o cases bl sh O at_ rr a k⟩
 | .out 0 m=>QuitsD P m d g
 | .out (k+1) m=>Zg P L.tWg wg (ZS P L.tWg wg (k+1)) m g w
def SeatAt (X:GX) (c:Seat X.g.σ X.g.θ) (h:Hp):Slot P cv L→Prop
 | .act n=>∃ ph,n.x=⟨X.g,c.says,c.turn,c.fin,X.wg,ph⟩∧PhOk X.left c.st ph
 | .out k m=>k≤6∧∃ q,((c.st=.said q∧X.g.plan q=none)∨c.st=.shut q)∧Star [X.g.Fin q] h
def Slot.stage:Slot P cv L→Nat
 | .act _=>7
 | .out k _=>k
inductive WgPh (L:WgLink) (X:GX) (st:List Nat) (w:World):Prop
 | quiet (v wt:Nat) (at_:WgAt L.tWg X.wg w (v*KK+wt) 0) (hv:v+(X.seats.length+X.nf)=(st.filter fun k=>decide (4≤k)).length+X.ad) (late:∀ k∈st,k=0∨4≤k)
   (hw:wt=match X.wt with | .parked=>1 | _=>0) (park:X.wt=.parked→0<v)
   (b:match X.wt with | .wait b=>v≤b | .seen v0=>v≤v0 | .woken=>v=0 | .zero=>v=0 | _=>True)
 | late (p:X.wt=.parked) (i k:Nat) (hi:st[i]?=some k) (hk:k=3∨k=2) (at_:WgAt L.tWg X.wg w 1 0) (oth:∀ j k,st[j]?=some k→j≠i→k=0)
 | late1 (p:X.wt=.parked) (i:Nat) (hi:st[i]?=some 1) (at_:WgAt L.tWg X.wg w 0 0) (oth:∀ j k,st[j]?=some k→j≠i→k=0)
 | free (p:X.wt=.parked) (at_:WgAt L.tWg X.wg w 0 1) (oth:∀ k∈st,k=0)
abbrev St (X:GX):=Seat X.g.σ X.g.θ
structure GameAt (X:GX) (gs:Array Goroutine) (w:World) (t:Trace) (sl:List (Slot P cv L)) (hp:Nat→Hp) (nb:Nat):Prop where
 len:sl.length=nb+(X.seats.length+X.nf)
 old:∀ (i:Nat) (s:Slot P cv L),i<nb→sl[i]?=some s→Old t (i+1) (hp (i+1)) s
 seat:∀ (j:Nat) (c:St X),X.seats[j]?=some c→∃ s,sl[nb+j]?=some s∧SeatAt X c (hp (nb+j+1)) s
 know:∀ (j:Nat) (s:Slot P cv L),sl[nb+j]?=some s→SlotKn t X.wg (nb+j+1) (hp (nb+j+1)) s
 chan:∀ (j:Nat) (c:St X),X.seats[j]?=some c→∀ a,a<3→∃ n,w.heap[c.ch a]?=some (Obj.chan 0 #[] (decide (a=2)&&c.st.isShut) n n false)
 dist:∀ (j j':Nat) (c c':St X) (a a':Nat),X.seats[j]?=some c→X.seats[j']?=some c'→a<3→a'<3→c.ch a=c'.ch a'→j=j'∧a=a'
 noch:∀ (i j:Nat) (c:St X) (a:Nat),X.seats[j]?=some c→a<3→(hp i).obj (c.ch a)=none
 nowg:∀ i o,(hp i).own X.wg o=none∧(hp i).ro X.wg o=none
 wg:WgPh L X (sl.map Slot.stage) w
 wgt:∀ (i:Nat) (a:Touch) (o:Nat),o<2→touchAt t i=some a→a.loc=.cell ⟨X.wg,o,none⟩ →
  (a.kind≠.plain∧(a.kind=.said→t.g? i=some 0))∨(Knows t 0 i∧∀ (j:Nat),j<X.seats.length+X.nf→Knows t (nb+j+1) i)
 deaf:Deaf t 0=if X.deaf then 1 else 0
 tok0:X.tok=none→∃ (j:Nat) (c:St X),X.seats[j]?=some c∧c.st.isRun=true∧∀ (j':Nat) (c':St X),X.seats[j']?=some c'→j'≠j→c'.st.isRun=false
 tok1:X.tok.isSome=true→∀ (j:Nat) (c:St X),X.seats[j]?=some c→c.st.isRun=false
 adp:X.wt=.play→X.ad=X.seats.length+X.nf∨(X.ad=X.seats.length+X.nf+1∧X.tok.isSome=true)
 ads:X.wt≠.play→X.ad=X.seats.length+X.nf∧∀ (j:Nat) (c:St X),X.seats[j]?=some c→c.st.isShut=true
 adl:X.ad≤1000
 live:∀ (j:Nat) (c:St X) (g:Goroutine),X.seats[j]?=some c→gs[nb+j+1]?=some g→c.st.isShut=true→g.status≠.blocked
 park:∀ (g0:Goroutine) (cases:Array CommCase) (sh:CommShape),gs[0]?=some g0→g0.status=.blocked→g0.offers=some (cases,sh)→∃ (j:Nat) (c:St X),X.seats[j]?=some c∧X.wt=.play ∧
   ((∃ z,cases=#[rcase c.says z])∨(∃ v z,cases=#[scase c.turn v z]))∧∀ (g:Goroutine),gs[nb+j+1]?=some g→g.status≠.blocked
 sleep:∀ (g0:Goroutine),gs[0]?=some g0→g0.status=.blocked→g0.offers=none→X.wt=.parked∧¬ WgAt L.tWg X.wg w 0 1
 cht:∀ (j:Nat) (c:St X) (a i:Nat) (b:Touch),X.seats[j]?=some c→a<3→touchAt t i=some b→b.loc=.obj (c.ch a)→Knows t 0 i
def FreeSt {g:Game} (wg m:Nat) (q:g.θ) (h:Hp):Slot P cv L→Prop
 | .act n=>∃ n',n.x=⟨g,0,0,0,wg,.free q n'⟩∧m≤n'
 | .out _ _=>g.plan q=none∧Star [g.Fin q] h
structure Pool (W0:World) (g:Game) (wg nf:Nat) (d:FreeD g) (w:World) (t:Trace) (sl:List (Slot P cv L)) (hp:Nat→Hp) (nb:Nat) (pl:Hp) (s:g.σ) (qs:List g.θ):Prop where
 len:sl.length=nb+nf
 u:g.U s pl
 fits:Fits pl w
 obj:∀ b,pl.obj b=none
 sep:∀ i,Sep (hp i) pl
 nowg:∀ o,pl.own wg o=none∧pl.ro wg o=none
 new:∀ b o v,pl.own b o=some v→W0.heap.size≤b
 kno:∀ b o v,pl.own b o=some v→∀ i a,touchAt t i=some a→a.loc=.cell ⟨b,o,none⟩→(a.kind=.atomic∧t.counts i∧∃ j,j<nf∧t.g? i=some (nb+j+1))∨(Knows t 0 i∧∀ j,j<nf→Knows t (nb+j+1) i)
 knr:∀ b o v,pl.ro b o=some v→∀ i a,touchAt t i=some a→a.loc=.cell ⟨b,o,none⟩→a.write=true→Knows t 0 i∧∀ j,j<nf→Knows t (nb+j+1) i
 inv:d.I s qs
 pot:d.φ s qs≤d.N
 qlen:qs.length=d.q0.length
 slot:∀ (j:Nat) (sx:Slot P cv L),sl[nb+j]?=some sx→∃ q,qs[j]?=some q∧FreeSt wg (d.φ s qs) q (hp (nb+j+1)) sx
 rest:∀ j,nf≤j→qs[j]?=d.q0[j]?
def PoolOk (W0:World) (x:MX) (w:World) (t:Trace) (sl:List (Slot P cv L)) (hp:Nat→Hp):Prop:=match x with
 | .idle=>True
 | .game X=>(X.free=none→X.nf=0)∧∀ d,X.free=some d→X.seats=[]∧X.tok.isSome=true∧∃ nb pl s qs,Pool W0 X.g X.wg X.nf d w t sl hp nb pl s qs
theorem touchAt_lt {t:Trace} {i:Nat} {a:Touch} (h:touchAt t i=some a):i<t.size:=by
 obtain ⟨op,ho,_⟩:=touch_of h
 exact lt_size_of_getElem? ho
theorem Pool.step {g:Game} {wg nf:Nat} {d:FreeD g} {w w':World} {t u:Trace} {sl sl':List (Slot P cv L)} {hp hp':Nat→Hp} {nb:Nat} {pl:Hp} {s:g.σ} {qs:List g.θ} (p:Pool W0 g wg nf d w t sl hp nb pl s qs)
  (hf:Fits pl w') (hs:∀ i,Sep (hp' i) pl) (hu:∀ op∈u,∀ a,op.act.touch?=some a→∀ b o,a.loc=.cell ⟨b,o,none⟩→pl.own b o=none∧(a.write=true→pl.ro b o=none)) (hl:sl'.length=sl.length)
  (hsl:∀ (m:Nat) (q:g.θ) (i:Nat) (sx':Slot P cv L),sl'[i]?=some sx'→∃ sx,sl[i]?=some sx∧(FreeSt wg m q (hp (i+1)) sx→FreeSt wg m q (hp' (i+1)) sx')):Pool W0 g wg nf d w' (t++u) sl' hp' nb pl s qs where
 len:=by rw [hl];exact p.len
 u:=p.u
 fits:=hf
 obj:=p.obj
 sep:=hs
 nowg:=p.nowg
 new:=p.new
 kno:=fun b o v e i a ha hl=>by
  rcases touch_split ha with ha | ⟨op,ho,_,h2⟩
  ·rcases p.kno b o v e i a ha hl with ⟨h1,h2,j,h3,h4⟩ | ⟨h1,h2⟩
   ·exact .inl ⟨h1,(counts_old (touchAt_lt ha)).2 h2,j,h3,by rw [g?_app (touchAt_lt ha)];exact h4⟩
   ·exact .inr ⟨h1.app u,fun j hj=>(h2 j hj).app u⟩
  ·have:=(hu op ho a h2 b o hl).1
   rw [e] at this;cases this
 knr:=fun b o v e i a ha hl hw=>by
  rcases touch_split ha with ha | ⟨op,ho,_,h2⟩
  ·obtain ⟨h1,h2⟩:=p.knr b o v e i a ha hl hw
   exact ⟨h1.app u,fun j hj=>(h2 j hj).app u⟩
  ·have:=(hu op ho a h2 b o hl).2 hw
   rw [e] at this;cases this
 inv:=p.inv
 pot:=p.pot
 qlen:=p.qlen
 slot:=fun j sx' hj=>by
  obtain ⟨q0,_⟩:∃ q,qs[j]?=some q:=by
   obtain ⟨sx,h1,_⟩:∃ sx,sl[nb+j]?=some sx∧True:=⟨_,List.getElem?_eq_getElem (by rw [← hl];exact (List.getElem?_eq_some_iff.1 hj).1),trivial⟩
   obtain ⟨q,h2,_⟩:=p.slot j sx h1
   exact ⟨q,h2⟩
  obtain ⟨sx,h1,h2⟩:=hsl (d.φ s qs) q0 (nb+j) sx' hj
  obtain ⟨q,h3,h4⟩:=p.slot j sx h1
  obtain ⟨sx2,h5,h6⟩:=hsl (d.φ s qs) q (nb+j) sx' hj
  rw [h1] at h5;cases h5
  exact ⟨q,h3,h6 h4⟩
 rest:=p.rest
theorem PoolOk.step {x:MX} {w w':World} {t u:Trace} {sl sl':List (Slot P cv L)} {hp hp':Nat→Hp} (p:PoolOk W0 x w t sl hp)
  (H:∀ pl:Hp,(∀ X,x=.game X→∀ o,pl.own X.wg o=none∧pl.ro X.wg o=none)→(∀ i,Sep (hp i) pl)→Fits pl w→Fits pl w'∧(∀ i,Sep (hp' i) pl) ∧
   ∀ op∈u,∀ a,op.act.touch?=some a→∀ b o,a.loc=.cell ⟨b,o,none⟩→pl.own b o=none∧(a.write=true→pl.ro b o=none)) (hl:sl'.length=sl.length)
  (hsl:∀ (g:Game) (wg m:Nat) (q:g.θ) (i:Nat) (sx':Slot P cv L),sl'[i]?=some sx'→∃ sx,sl[i]?=some sx∧(FreeSt wg m q (hp (i+1)) sx→FreeSt wg m q (hp' (i+1)) sx')):PoolOk W0 x w' (t++u) sl' hp':=by
 cases x with
 | idle=>trivial
 | game X =>
  refine ⟨p.1,fun d hd=>?_⟩
  obtain ⟨h1,h2,nb,pl,s,qs,h3⟩:=p.2 d hd
  obtain ⟨e1,e2,e3⟩:=H pl (fun X' e o=>by cases e;exact h3.nowg o) h3.sep h3.fits
  exact ⟨h1,h2,nb,pl,s,qs,h3.step e1 e2 e3 hl fun m q=>hsl X.g X.wg m q⟩
theorem PoolOk.same {x:MX} {w:World} {t:Trace} {sl:List (Slot P cv L)} {hp hp':Nat→Hp} (p:PoolOk W0 x w t sl hp) (hs:∀ i,Frz (hp i) (hp' i)) (ho:∀ i,i≠0→hp' i=hp i):PoolOk W0 x w t sl hp':=by
 have:=p.step (w':=w) (u:=#[]) (sl':=sl) (hp':=hp') (fun pl _ h2 h3=>⟨h3,fun i=>(hs i).sep (h2 i),fun op ho=>by simp at ho⟩) rfl fun g wg m q i sx hi=>⟨sx,hi,fun h=>by rw [ho _ (by omega)];exact h⟩
 rwa [Array.append_empty] at this
structure IdleAt (t:Trace) (sl:List (Slot P cv L)) (hp:Nat→Hp) (gs:Array Goroutine):Prop where
 old:∀ (i:Nat) (s:Slot P cv L),sl[i]?=some s→Old t (i+1) (hp (i+1)) s
 deaf:Deaf t 0=0
 runs:∀ (g0:Goroutine),gs[0]?=some g0→g0.status≠.blocked
def MainG (g:Goroutine) (n:MN P cv L Em):Prop :=
 Runs g n.fr n.cs∨(∃ cases sh,Parks g n.fr n.cs cases sh∧∃ fr cs h x o bl O at_ rr a k,n=⟨fr,cs,h,x,.comm o cases bl sh O at_ rr a k⟩) ∨
  (Sleeps g n.fr n.cs∧∃ fr cs h x o O at_ ne a k,n=⟨fr,cs,h,x,.act o O at_ ne a k⟩)
structure Cfg (W0:World) (gs:Array Goroutine) (w:World) (t:Trace) (M:MN P cv L Em) (sl:List (Slot P cv L)) (hp:Nat→Hp):Prop where
 size:gs.size=sl.length+1
 main:∃ g,gs[0]?=some g∧MainG g M
 thr:∀ i s,sl[i]?=some s→∃ g,gs[i+1]?=some g∧SlotG w (match M.x with | .game X=>X.wg | .idle=>0) (Deaf t (i+1)) g s
 mem:Mem w t hp
 aft:Aft W0 w hp M.x
 hp0:hp 0=M.h
 hpn:∀ i,sl.length<i→hp i=Hp.empty
 tg:∀ (i:Nat) (op:MemOp),t[i]?=some op→op.g≤sl.length
 kn0:Kn t (Knows t 0) (hp 0)
 game:match M.x with
  | .idle=>IdleAt t sl hp gs
  | .game X=>∃ nb,GameAt X gs w t sl hp nb
 pool:PoolOk W0 M.x w t sl hp
theorem Cfg.turns {gs:Array Goroutine} {w:World} {t:Trace} {M:MN P cv L Em} {sl:List (Slot P cv L)} {hp:Nat→Hp} {X:GX} {j:Nat} {cx:St X} (c:Cfg W0 gs w t M sl hp) (hX:M.x=.game X) (hj:X.seats[j]?=some cx):X.free=none∧X.nf=0:=by
 have hp:=c.pool
 rw [hX] at hp
 cases hf:X.free with
 | none=>exact ⟨rfl,hp.1 hf⟩
 | some d=>rw [(hp.2 d hf).1] at hj;simp at hj
end Go.PB
namespace Go.PB
open Go.Conc Go.Conc.Lib
open Go.ConcR (KK stA smA rd wr mk DC0)
variable {W0:World} {P:Program} {cv:Value} {L:WgLink} {Em:Frame→List Frame→Hp→MX→Prop}
theorem woken_cases (g g':Goroutine) (w':World) (o:Goroutine):woken P g g' w' o=o∨(woken P g g' w' o={ o with status:=.running }∧(o.status=.blocked∨o.status=.waiting)):=by
 unfold woken
 split
 ·unfold Goroutine.again
  split
  ·rename_i h1 h2
   simp only
   split
   ·exact .inr ⟨rfl,.inl h1⟩
   ·exact .inl rfl
  ·rename_i h1 h2;exact .inr ⟨rfl,.inl h1⟩
  ·rename_i h1;exact .inr ⟨rfl,.inr h1⟩
  ·exact .inl rfl
 ·exact .inl rfl
theorem woken_blocked {g g':Goroutine} {w':World} {o:Goroutine} (h:(woken P g g' w' o).status=.blocked):woken P g g' w' o=o:=by
 rcases woken_cases (P:=P) g g' w' o with e | ⟨e,_⟩
 ·exact e
 ·rw [e] at h;cases h
theorem woken_run {g g':Goroutine} {w':World} {o:Goroutine} (h:o.status=.running):woken P g g' w' o=o:=by
 rcases woken_cases (P:=P) g g' w' o with e | ⟨e,h' | h'⟩
 ·exact e
 ·rw [h] at h';cases h'
 ·rw [h] at h';cases h'
theorem woken_fin {g g':Goroutine} {w':World} {o:Goroutine} (h:o.status=.running∨o.status=.finished):woken P g g' w' o=o:=by
 rcases woken_cases (P:=P) g g' w' o with e | ⟨e,h' | h'⟩
 ·exact e
 ·rcases h with h | h <;> (rw [h] at h';cases h')
 ·rcases h with h | h <;> (rw [h] at h';cases h')
theorem SlotG.woken {w w':World} {wg d:Nat} {g g' o:Goroutine} {s:Slot P cv L} (h:SlotG w wg d o s) (r:RL L.tWg wg w w'):SlotG w' wg d (woken P g g' w' o) s:=by
 cases s with
 | act n =>
  rcases h with h | ⟨cases,sh,h,hx⟩
  ·exact .inl (by rw [woken_run h.status];exact h)
  ·rcases woken_cases (P:=P) g g' w' o with e | ⟨e,_⟩
   ·exact .inr ⟨cases,sh,by rw [e];exact h,hx⟩
   ·exact .inl (by rw [e];exact ⟨h.frame,h.callers,rfl,h.dying⟩)
 | out k m =>
  cases k with
  | zero=>show QuitsD P m d _;rw [woken_fin (QuitsD.status h)];exact h
  | succ k=>show Zg P L.tWg wg _ m _ w';rw [woken_run (zg_running h)];exact zg_rely h r
theorem MainG.woken {w':World} {g g' o:Goroutine} {n:MN P cv L Em} (h:MainG o n):MainG (woken P g g' w' o) n:=by
 rcases woken_cases (P:=P) g g' w' o with e | ⟨e,hb⟩
 ·rw [e];exact h
 ·rw [e]
  rcases h with h | ⟨_,_,h,_⟩ | ⟨h,_⟩
  ·exact .inl ⟨h.frame,h.callers,rfl,h.dying⟩
  ·exact .inl ⟨h.frame,h.callers,rfl,h.dying⟩
  ·exact .inl ⟨h.frame,h.callers,rfl,h.dying⟩
structure Gs (P:Program) (a:Nat) (gs gs':Array Goroutine) (g':Goroutine):Prop where
 size:gs'.size=gs.size
 self:gs'[a]?=some g'
 other:∀ (i:Nat) (g:Goroutine),i≠a→gs[i]?=some g→∃ x x' w,gs'[i]?=some (woken P x x' w g)
 back:∀ (i:Nat) (g:Goroutine),i≠a→gs'[i]?=some g→g.status=.blocked→gs[i]?=some g
theorem gs_go {a:Nat} {gs:Array Goroutine} {g g':Goroutine} {w':World} (h:gs[a]?=some g):Gs P a gs ((gs.map (woken P g g' w')).setIfInBounds a g') g':=by
 have hlt:=(Array.getElem?_eq_some_iff.1 h).1
 refine ⟨by simp,by simp [hlt],fun i o hi ho=>⟨g,g',w',?_⟩,fun i o hi ho hb=>?_⟩
 ·rw [Array.getElem?_setIfInBounds_ne fun e=>hi e.symm,Array.getElem?_map,ho];rfl
 ·rw [Array.getElem?_setIfInBounds_ne fun e=>hi e.symm,Array.getElem?_map] at ho
  obtain ⟨o',h1,h2⟩:=Option.map_eq_some_iff.1 ho
  subst h2
  rw [woken_blocked hb];exact h1
theorem own_chan {w w':World} {h h':Hp} {b:Nat} {ob:Obj} (g:Guar h w w' h') (f:Fits h w) (hn:h.obj b=none) (hc:isCells ob=false) (e:w.heap[b]?=some ob):w'.heap[b]?=some ob:=by
 rw [g.block b (Array.getElem?_eq_some_iff.1 e).1 (fun o=>none_of fun v hv=>?_) hn]
 ·exact e
 ·have h1:=f.own _ _ _ hv
  unfold World.cell? at h1
  simp only [e] at h1
  cases ob <;> simp [isCells] at h1 hc
theorem own_wg {w w':World} {h h':Hp} {ty:TypeId} {wg:Nat} {st sm:Int} (g:Guar h w w' h') (f:Fits h w) (hn:∀ o,h.own wg o=none∧h.ro wg o=none) (e:WgAt ty wg w st sm):WgAt ty wg w' st sm:=by
 refine e.of_heap ?_
 obtain ⟨fz,e,_⟩:=e
 rw [g.block wg (Array.getElem?_eq_some_iff.1 e).1 (fun o=>(hn o).1) (none_of fun v hv=>?_)]
 ·have h1:=f.obj _ _ hv
  rw [e] at h1;cases h1
  have:=f.objn _ _ hv
  simp [isCells] at this
theorem WgPh.at {X:GX} {st:List Nat} {w w':World} (p:WgPh L X st w) (h:∀ a b,WgAt L.tWg X.wg w a b→WgAt L.tWg X.wg w' a b):WgPh L X st w':=by
 cases p with
 | quiet v wt a hv late hw park b=>exact .quiet v wt (h _ _ a) hv late hw park b
 | late p i k hi hk a oth=>exact .late p i k hi hk (h _ _ a) oth
 | late1 p i hi a oth=>exact .late1 p i hi (h _ _ a) oth
 | free p a oth=>exact .free p (h _ _ a) oth
theorem WgPh.ex {X:GX} {st:List Nat} {w:World} (p:WgPh L X st w):∃ a b,WgAt L.tWg X.wg w a b:=by
 cases p with
 | quiet v wt a=>exact ⟨_,_,a⟩
 | late p i k hi hk a=>exact ⟨_,_,a⟩
 | late1 p i hi a=>exact ⟨_,_,a⟩
 | free p a=>exact ⟨_,_,a⟩
theorem wgAt_lt {ty:TypeId} {wg:Nat} {w:World} {a b:Int} (h:WgAt ty wg w a b):wg<w.heap.size:=by obtain ⟨_,h,_⟩:=h;exact (Array.getElem?_eq_some_iff.1 h).1
structure Sl (a:Nat) (sl sl':List (Slot P cv L)) (h':Hp):Prop where
 len:sl'.length=sl.length
 other:∀ j,j+1≠a→sl'[j]?=sl[j]?
 self:∀ j,j+1=a→∃ n n':TN P cv L,sl[j]?=some (.act n)∧sl'[j]?=some (.act n')∧n'.x=n.x∧n'.h=h'
theorem Sl.stages {a:Nat} {sl sl':List (Slot P cv L)} {h':Hp} (s:Sl a sl sl' h'):sl'.map Slot.stage=sl.map Slot.stage:=by
 apply List.ext_getElem?
 intro j
 simp only [List.getElem?_map]
 by_cases hj:j+1=a
 ·obtain ⟨n,n',h1,h2,_⟩:=s.self j hj
  rw [h1,h2];rfl
 ·rw [s.other j hj]
theorem GameAt.own {X:GX} {gs gs':Array Goroutine} {w w':World} {t u:Trace} {sl sl':List (Slot P cv L)} {hp:Nat→Hp} {nb a:Nat} {h':Hp} {g':Goroutine}
  (G:GameAt X gs w t sl hp nb) (m:Mem w t hp) (o:Own a (hp a) w w' h' u) (k:Kn t (Knows t a) (hp a)) (q:Gs P a gs gs' g') (s:Sl a sl sl' h') (hr:g'.status≠.blocked):GameAt X gs' w' (t++u) sl' (put hp a h') nb:=by
 have hwg:=G.wg.ex
 obtain ⟨wa,wb,hwa⟩:=hwg
 have hnew:∀ i a' o',touchAt (t++u) i=some a'→a'.loc=.cell ⟨X.wg,o',none⟩→touchAt t i=some a':=fun i a' o' ha hl=>by
  rcases touch_split ha with ha | ⟨op,ho,_,hb⟩
  ·exact ha
  ·exfalso
   rcases o.mine op ho a' hb with ⟨bl,o2,h1,_,h3⟩ | ⟨r,h1,_⟩
   ·rw [h1] at hl;cases hl
    have:=G.nowg a o'
    rcases h3 with h3 | h3 | ⟨_,h3⟩
    ·have:=wgAt_lt hwa;omega
    ·rw [this.1] at h3;cases h3
    ·rw [this.2] at h3;cases h3
   ·rw [h1] at hl;cases hl
 have hna:∀ i,i≠a→∀ op∈u,op.g≠i:=fun i hi op ho e=>hi (by rw [← e,o.g op ho])
 refine ⟨by rw [s.len];exact G.len,fun i c hi hc=>?_,fun j c hc=>?_,fun j c hc=>?_,fun j c hc b hb=>?_,G.dist,fun i j c b hc hb=>?_,fun i b=>?_,?_,fun i b o' ho2 hb hl=>?_,?_,G.tok0,G.tok1,G.adp,G.ads,G.adl,fun j c g hc hg hs hb=>?_,fun g0 cases sh hg hb ho=>?_,fun g0 hg hb ho=>?_,fun j c b i x hc hb hx hl=>?_⟩
 ·by_cases ha:i+1=a
  ·obtain ⟨n,n',h1,_⟩:=s.self i ha
   obtain ⟨m',e⟩:=(G.old i _ hi h1).out
   cases e
  ·rw [s.other i ha] at hc
   rw [put_ne ha]
   exact (G.old i c hi hc).app (hna _ ha)
 ·obtain ⟨sx,h1,h2⟩:=G.seat j c hc
  by_cases ha:nb+j+1=a
  ·obtain ⟨n,n',h3,h4,h5,h6⟩:=s.self _ ha
   rw [h1] at h3;cases h3
   exact ⟨_,h4,by
    obtain ⟨ph,e1,e2⟩:=h2
    exact ⟨ph,h5.trans e1,e2⟩⟩
  ·exact ⟨sx,by rw [s.other _ ha];exact h1,by rw [put_ne ha];exact h2⟩
 ·by_cases ha:nb+j+1=a
  ·obtain ⟨n,n',h3,h4,h5,h6⟩:=s.self _ ha
   rw [h4] at hc;cases hc
   have hk:=G.know j _ h3
   subst ha
   rw [put_self]
   exact ⟨(kn_step (m.nr false) k m.low o.guar o.g o.mine).2.1,h6,by rw [Deaf_plain o.plain];exact hk.2.2⟩
  ·rw [s.other _ ha] at hc
   rw [put_ne ha]
   exact (G.know j c hc).app (hna _ ha) fun kk hK=>kn_other kk (fun j hj=>hK j hj) (m.sep a _ fun e=>ha e.symm) (m.fits _) o.mine
 ·obtain ⟨n,e⟩:=G.chan j c hc b hb
  exact ⟨n,own_chan o.guar (m.fits a) (G.noch a j c b hc hb) rfl e⟩
 ·by_cases ha:i=a
  ·subst ha
   obtain ⟨n,e⟩:=G.chan j c hc b hb
   rw [put_self]
   exact o.guar.newb _ (Array.getElem?_eq_some_iff.1 e).1 (G.noch i j c b hc hb)
  ·rw [put_ne ha];exact G.noch i j c b hc hb
 ·by_cases ha:i=a
  ·subst ha
   rw [put_self]
   exact ⟨o.guar.newo _ _ (wgAt_lt hwa) (G.nowg i b).1,o.guar.newr _ _ (wgAt_lt hwa) (G.nowg i b).1 (G.nowg i b).2⟩
  ·rw [put_ne ha];exact G.nowg i b
 ·rw [s.stages]
  exact G.wg.at fun x y hxy=>own_wg o.guar (m.fits a) (G.nowg a) hxy
 ·have hb':=hnew i b o' hb hl
  rcases G.wgt i b o' ho2 hb' hl with this | ⟨k0,k1⟩
  ·refine .inl ⟨this.1,fun hs=>?_⟩
   have h1:=this.2 hs
   rw [g?_app (g?_lt h1)];exact h1
  ·exact .inr ⟨k0.app u,fun j hj=>(k1 j hj).app u⟩
 ·rw [Deaf_plain o.plain];exact G.deaf
 ·by_cases ha:nb+j+1=a
  ·subst ha;rw [q.self] at hg;cases hg;exact hr hb
  ·exact G.live j c g hc (q.back _ _ ha hg hb) hs hb
 ·by_cases ha:0=a
  ·subst ha;rw [q.self] at hg;cases hg;exact absurd hb hr
  ·obtain ⟨j,c,h1,h2,h3,h4⟩:=G.park g0 cases sh (q.back _ _ ha hg hb) hb ho
   refine ⟨j,c,h1,h2,h3,fun g hg2 hb2=>?_⟩
   by_cases ha2:nb+j+1=a
   ·subst ha2;rw [q.self] at hg2;cases hg2;exact hr hb2
   ·exact h4 g (q.back _ _ ha2 hg2 hb2) hb2
 ·by_cases ha:0=a
  ·subst ha;rw [q.self] at hg;cases hg;exact absurd hb hr
  ·have:=G.sleep g0 (q.back _ _ ha hg hb) hb ho
   refine ⟨this.1,fun hx=>this.2 ?_⟩
   have hz:=own_wg o.guar (m.fits a) (G.nowg a) hwa
   have:=WgAt.unique hz hx
   rw [this.1,this.2] at hwa;exact hwa
 ·rcases touch_split hx with hx | ⟨op,ho,_,h2⟩
  ·exact (G.cht j c b i x hc hb hx hl).app u
  ·exfalso
   obtain ⟨n,e⟩:=G.chan j c hc b hb
   rcases o.mine op ho x h2 with ⟨bl,o2,h1,_⟩ | ⟨r,h1,_,h3⟩
   ·rw [h1] at hl;cases hl
   ·rw [h1] at hl;cases hl
    rcases h3 with h3 | h3
    ·have:=(Array.getElem?_eq_some_iff.1 e).1;omega
    ·rw [G.noch a j c b hc hb] at h3;cases h3
end Go.PB
namespace Go.PB
open Go.Conc Go.Conc.Lib
open Go.ConcR (KK stA smA rd wr mk DC0)
variable {W0:World} {P:Program} {cv:Value} {L:WgLink} {Em:Frame→List Frame→Hp→MX→Prop}
theorem own_of_events {a:Nat} {h h':Hp} {w w':World} {fn:FuncId} {pos:String} {es:Array Event} (g:Guar h w w' h') (he:∀ e∈es,EvOk Still h w w'.heap.size e):Own a h w w' h' (MemOp.ofEvents a fn pos es) where
 guar:=g
 g:=fun op ho=>by obtain ⟨e,_,rfl⟩:=ofEvents_mem ho;rfl
 mine:=fun op ho b hb=>by obtain ⟨e,h1,rfl⟩:=ofEvents_mem ho;exact (mine_of_event (fun _ x=>x) (he e h1)).2 b hb
 plain:=fun op ho m hm=>by obtain ⟨e,h1,rfl⟩:=ofEvents_mem ho;exact (mine_of_event (fun _ x=>x) (he e h1)).1 m hm
theorem slot_woken {w w' w2:World} {wg d d':Nat} {g g' o:Goroutine} {s:Slot P cv L} (hd:d'=d) (r:RL L.tWg wg w w') (hs:SlotG w wg d o s):SlotG w' wg d' (woken P g g' w2 o) s:=by
 subst hd
 cases s with
 | act n =>
  rcases hs with h | ⟨cases,sh,h,hx⟩
  ·exact .inl (by rw [woken_run h.status];exact h)
  ·rcases woken_cases (P:=P) g g' w2 o with e | ⟨e,_⟩
   ·exact .inr ⟨cases,sh,by rw [e];exact h,hx⟩
   ·exact .inl (by rw [e];exact ⟨h.frame,h.callers,rfl,h.dying⟩)
 | out k m =>
  cases k with
  | zero=>show QuitsD P m d' _;rw [woken_fin (QuitsD.status hs)];exact hs
  | succ k=>show Zg P L.tWg wg _ m _ w';rw [woken_run (zg_running hs)];exact zg_rely hs r
theorem old_woken {w w' w2:World} {wg d d':Nat} {g g' o:Goroutine} {t:Trace} {i:Nat} {h:Hp} {s:Slot P cv L} (ol:Old t i h s) (hd:d'=d) (hs:SlotG w wg d o s):SlotG w' wg d' (woken P g g' w2 o) s:=by
 obtain ⟨m,rfl⟩:=ol.out
 subst hd
 show QuitsD P m d' _
 rw [woken_fin (QuitsD.status hs)];exact hs
theorem Cfg.own {gs gs':Array Goroutine} {w w':World} {t u:Trace} {M M':MN P cv L Em} {sl sl':List (Slot P cv L)} {hp:Nat→Hp} {a:Nat} {h':Hp} {fr':Frame} {cs':List Frame}
  (c:Cfg W0 gs w t M sl hp) (ha:a≤sl.length) (o:Own a (hp a) w w' h' u) (kn:Kn t (Knows t a) (hp a)) (q:Gs P a gs gs' (G fr' cs')) (s:Sl a sl sl' h') (hx:M'.x=M.x) (hh:M'.h=put hp a h' 0)
  (hm:a≠0→M'=M) (hm0:a=0→M'.fr=fr'∧M'.cs=cs') (hs:∀ j n',j+1=a→sl'[j]?=some (.act n')→n'.fr=fr'∧n'.cs=cs'):Cfg W0 gs' w' (t++u) M' sl' (put hp a h') where
 size:=by rw [q.size,s.len];exact c.size
 main:=by
  by_cases h0:a=0
  ·subst h0
   obtain ⟨e1,e2⟩:=hm0 rfl
   exact ⟨_,q.self,.inl (by rw [e1,e2];exact runs_G)⟩
  ·rw [hm h0]
   obtain ⟨g,h1,h2⟩:=c.main
   obtain ⟨x,x',w2,h3⟩:=q.other 0 g (fun e=>h0 e.symm) h1
   exact ⟨_,h3,h2.woken⟩
 thr:=fun i sx hi=>by
  by_cases hia:i+1=a
  ·obtain ⟨n,n',h1,h2,h3,h4⟩:=s.self i hia
   rw [h2] at hi;cases hi
   obtain ⟨e1,e2⟩:=hs i n' hia h2
   exact ⟨_,by rw [hia];exact q.self,.inl (by rw [e1,e2];exact runs_G)⟩
  ·rw [s.other i hia] at hi
   obtain ⟨g,h1,h2⟩:=c.thr i sx hi
   obtain ⟨x,x',w2,h3⟩:=q.other (i+1) g hia h1
   refine ⟨_,h3,?_⟩
   have hd:Deaf (t++u) (i+1)=Deaf t (i+1):=Deaf_others fun op ho e=>hia (by rw [← e,o.g op ho])
   have hgame:=c.game
   rw [hx]
   cases hM:M.x with
   | idle=>rw [hM] at hgame h2;exact old_woken (hgame.old i sx hi) hd h2
   | game X =>
    rw [hM] at hgame h2
    obtain ⟨nb,hG⟩:=hgame
    obtain ⟨p1,p2,hp'⟩:=hG.wg.ex
    exact slot_woken hd (fun _=>⟨_,_,own_wg o.guar (c.mem.fits a) (hG.nowg a) hp'⟩) h2
 mem:=c.mem.own o kn
 aft:=by rw [hx];exact c.aft.own_step o
 hp0:=hh.symm
 hpn:=fun i hi=>by
  rw [s.len] at hi
  rw [put_ne (by omega)];exact c.hpn i hi
 tg:=fun i op hi=>by
  rw [s.len]
  rcases getElem?_append_cases hi with ⟨_,h⟩ | ⟨_,h⟩
  ·exact c.tg i op h
  ·rw [o.g op h];exact ha
 kn0:=by
  by_cases h0:a=0
  ·subst h0;rw [put_self];exact (kn_step (c.mem.nr false) kn c.mem.low o.guar o.g o.mine).2.1
  ·rw [put_ne fun e=>h0 e.symm]
   exact kn_other c.kn0 (fun j hj=>hj.app u) (c.mem.sep a 0 h0) (c.mem.fits 0) o.mine
 game:=by
  have hgame:=c.game
  rw [hx]
  cases hM:M.x with
  | idle =>
   rw [hM] at hgame
   refine ⟨fun i sx hi=>?_,by rw [Deaf_plain o.plain];exact hgame.deaf,fun g0 hg hb=>?_⟩
   ·by_cases hia:i+1=a
    ·obtain ⟨n,n',h1,h2,h3,h4⟩:=s.self i hia
     obtain ⟨m',e⟩:=(hgame.old i _ h1).out
     cases e
    ·rw [s.other i hia] at hi
     rw [put_ne hia]
     exact (hgame.old i sx hi).app fun op ho e=>hia (by rw [← e,o.g op ho])
   ·by_cases h0:0=a
    ·subst h0;rw [q.self] at hg;cases hg;cases hb
    ·exact hgame.runs g0 (q.back _ _ h0 hg hb) hb
  | game X =>
   rw [hM] at hgame
   obtain ⟨nb,hG⟩:=hgame
   exact ⟨nb,hG.own c.mem o kn q s (by intro e;cases e)⟩
 pool:=by
  rw [hx]
  refine c.pool.step (fun pl _ hsp hf=>⟨fits_other o.guar (hsp a) (c.mem.fits a) hf,fun i=>?_,fun op ho b hb x y hl=>?_⟩) s.len fun g wg m q i sx' hi=>?_
  ·by_cases hi:i=a
   ·subst hi;rw [put_self];exact sep_other o.guar (hsp i) hf
   ·rw [put_ne hi];exact hsp i
  ·rcases o.mine op ho b hb with ⟨bl,o2,h1,_,h3⟩ | ⟨r,h1,_⟩
   ·rw [h1] at hl;cases hl
    rcases h3 with h3 | h3 | ⟨hw,h3⟩
    ·exact ⟨none_of fun v e=>by have:=cell_lt (hf.own _ _ _ e);omega,fun _=>none_of fun v e=>by have:=cell_lt (hf.ro _ _ _ e);omega⟩
    ·obtain ⟨v,hv⟩:=Option.isSome_iff_exists.1 h3
     exact ⟨(hsp a).oo _ _ _ hv,fun _=>(hsp a).wr _ _ _ hv⟩
    ·obtain ⟨v,hv⟩:=Option.isSome_iff_exists.1 h3
     exact ⟨(hsp a).rw _ _ _ hv,fun h=>by rw [hw] at h;cases h⟩
   ·rw [h1] at hl;cases hl
  ·by_cases hia:i+1=a
   ·obtain ⟨n,n',h1,h2,h3,h4⟩:=s.self i hia
    rw [h2] at hi;cases hi
    exact ⟨_,h1,fun ⟨n2,e,h⟩=>⟨n2,h3.trans e,h⟩⟩
   ·exact ⟨sx',by rw [← s.other i hia];exact hi,fun h=>by rw [put_ne hia];exact h⟩
theorem cfg_priv0 {gs:Array Goroutine} {w:World} {t:Trace} {fr:Frame} {cs:List Frame} {h:Hp} {x:MX} {r:Run P (mHand P cv L.done L.tWg) true Em fr cs h x} {sl:List (Slot P cv L)} {hp:Nat→Hp} {g:Goroutine} {sc:Option (Nat × Nat)}
  (c:Cfg W0 gs w t (⟨fr,cs,h,x,r⟩:MN P cv L Em) sl hp) (hg:gs[0]?=some g) (hr:Runs g fr cs) (nx:Nx P Still true fr cs h w) (r':Run P (mHand P cv L.done L.tWg) true Em nx.fr' nx.cs' nx.h' x) :
  ∃ gs' ops,runT P (crowd gs w sc) 0=(.next (crowd gs' nx.w' sc),ops)∧Cfg W0 gs' nx.w' (t++ops) (⟨nx.fr',nx.cs',nx.h',x,r'⟩:MN P cv L Em) sl (put hp 0 nx.h'):=by
 have hst:stepG P ((0:Nat) == 0) g w=.go (G nx.fr' nx.cs') nx.w' nx.es:=by rw [hr.step];exact nx.step
 have h0:hp 0=h:=c.hp0
 refine ⟨_,_,runT_crowd_go hg hst,?_⟩
 refine Cfg.own c (Nat.zero_le _) (by rw [h0];exact own_of_events nx.guar nx.evs) c.kn0 (gs_go hg) ⟨rfl,fun j _=>rfl,fun j hj=>by omega⟩ rfl (by rw [put_self]) (fun e=>absurd rfl e) (fun _=>⟨rfl,rfl⟩) (fun j n' hj=>by omega)
theorem cfg_priv1 {gs:Array Goroutine} {w:World} {t:Trace} {M:MN P cv L Em} {sl:List (Slot P cv L)} {hp:Nat→Hp} {g:Goroutine} {sc:Option (Nat × Nat)} {i:Nat} {fr:Frame} {cs:List Frame} {h:Hp} {x:TX} {r:Run P (tHand P cv) false (tEnd P L.done) fr cs h x}
  (c:Cfg W0 gs w t M sl hp) (hi:sl[i]?=some (.act ⟨fr,cs,h,x,r⟩)) (hg:gs[i+1]?=some g) (hr:Runs g fr cs) (nx:Nx P Still false fr cs h w) (r':Run P (tHand P cv) false (tEnd P L.done) nx.fr' nx.cs' nx.h' x) :
  ∃ gs' ops,runT P (crowd gs w sc) (i+1)=(.next (crowd gs' nx.w' sc),ops)∧Cfg W0 gs' nx.w' (t++ops) M (sl.set i (.act ⟨nx.fr',nx.cs',nx.h',x,r'⟩)) (put hp (i+1) nx.h'):=by
 have hlt:i<sl.length:=(List.getElem?_eq_some_iff.1 hi).1
 have hst:stepG P (i+1 == 0) g w=.go (G nx.fr' nx.cs') nx.w' nx.es:=by rw [hr.step];exact nx.step
 have hkn:Kn t (Knows t (i+1)) (hp (i+1))∧h=hp (i+1):=by
  have hgame:=c.game
  cases hM:M.x with
  | idle=>rw [hM] at hgame;obtain ⟨m',e⟩:=(hgame.old i _ hi).out;cases e
  | game X =>
   rw [hM] at hgame
   obtain ⟨nb,hG⟩:=hgame
   by_cases hin:i<nb
   ·obtain ⟨m',e⟩:=(hG.old i _ hin hi).out;cases e
   ·have:=hG.know (i-nb) _ (by rw [Nat.add_sub_cancel' (by omega)];exact hi)
    rw [Nat.add_sub_cancel' (by omega)] at this
    exact ⟨this.1,this.2.1⟩
 obtain ⟨hkn,he⟩:=hkn
 refine ⟨_,_,runT_crowd_go hg hst,?_⟩
 refine Cfg.own c (by omega) (by rw [← he];exact own_of_events nx.guar nx.evs) hkn (gs_go hg) ⟨by simp,fun j hj=>by rw [List.getElem?_set_ne (by omega)],fun j hj=>?_⟩ rfl (by rw [put_ne (by omega)];exact c.hp0.symm) (fun _=>rfl) (fun e=>by omega) (fun j n' hj hn=>?_)
 ·obtain rfl:j=i:=by omega
  exact ⟨_,⟨nx.fr',nx.cs',nx.h',x,r'⟩,hi,by simp [hlt],rfl,rfl⟩
 ·obtain rfl:j=i:=by omega
  simp [hlt] at hn
  subst hn
  exact ⟨rfl,rfl⟩
end Go.PB
namespace Go.PB
open Go.Conc Go.Conc.Lib
open Go.ConcR (KK stA smA rd wr mk DC0)
variable {W0:World} {P:Program} {cv:Value} {L:WgLink} {Em:Frame→List Frame→Hp→MX→Prop}
theorem fits_wg {h:Hp} {w w':World} {ty:TypeId} {wg:Nat} {a b a' b':Int} (f:Fits h w) (hn:∀ o,h.own wg o=none∧h.ro wg o=none) (e:WgAt ty wg w a b) (e':WgAt ty wg w' a' b') (hw:∀ c,c≠wg→w'.heap[c]?=w.heap[c]?):Fits h w':=by
 obtain ⟨fz,e,_⟩:=e
 obtain ⟨fz',e',_⟩:=e'
 have hc:∀ c o,c≠wg→w'.cell? ⟨c,o,none⟩=w.cell? ⟨c,o,none⟩:=fun c o hne=>by unfold World.cell?;rw [hw c hne]
 have hfz:∀ c o,c≠wg→w'.frozen? ⟨c,o,none⟩=w.frozen? ⟨c,o,none⟩:=fun c o hne=>by unfold World.frozen?;rw [hw c hne]
 have no:∀ c o v,h.own c o=some v→c≠wg:=fun c o v hv he=>by subst he;rw [(hn o).1] at hv;cases hv
 have nr:∀ c o v,h.ro c o=some v→c≠wg:=fun c o v hv he=>by subst he;rw [(hn o).2] at hv;cases hv
 refine ⟨fun c o v hv=>by rw [hc _ _ (no _ _ _ hv)];exact f.own _ _ _ hv,fun c o v hv=>by rw [hfz _ _ (no _ _ _ hv)];exact f.thaw _ _ _ hv,fun c o v hv=>by rw [hc _ _ (nr _ _ _ hv)];exact f.ro _ _ _ hv,f.disj,fun c ob hv=>?_,f.objn,fun c y hv=>?_⟩
 ·by_cases hcw:c=wg
  ·subst hcw
   have h1:=f.obj _ _ hv
   rw [e] at h1;cases h1
   have:=f.objn _ _ hv
   simp [isCells] at this
  ·rw [hw c hcw];exact f.obj _ _ hv
 ·by_cases hcw:c=wg
  ·subst hcw
   have h1:=f.shp _ _ hv
   unfold World.shape? at h1 ⊢
   rw [e] at h1;rw [e']
   simpa using h1
  ·unfold World.shape?;rw [hw c hcw];exact f.shp _ _ hv
structure Shy (wg a:Nat) (u:Trace):Prop where
 g:∀ op∈u,op.g=a
 touch:∀ op∈u,∀ b,op.act.touch?=some b→(∃ o,o<2∧b.loc=.cell ⟨wg,o,none⟩)∧b.kind=.atomic
 norel:∀ op∈u,∀ a,op.act≠.mark (.release a)
theorem shy_race {said:Bool} {t u:Trace} {wg a:Nat} (nr:¬ Race said t) (s:Shy wg a u) (h:∀ i b o,o<2→touchAt t i=some b→b.loc=.cell ⟨wg,o,none⟩→(b.kind≠.plain∧(b.kind=.said→t.g? i=some 0))∨Knows t a i):¬ Race said (t++u) :=
 noRace_append nr s.g fun i b hb op ho b' hb' hc=>by
  obtain ⟨⟨o,ho2,h1⟩,h2⟩:=s.touch op ho b' hb'
  obtain ⟨hl,_,_,h3⟩:=hc
  rw [h1] at hl
  rcases h i b o ho2 hb hl with this | hk
  rotate_left
  ·exact hk
  rcases h3 with h3 | h3 | ⟨_,_,h3⟩
  ·exact absurd h3 this.1
  ·rw [h2] at h3;cases h3
  ·rw [h2] at h3;cases h3
theorem shy_kn {t u:Trace} {K K':Nat→Prop} {h:Hp} {wg a:Nat} (kn:Kn t K h) (hK:∀ j,K j→K' j) (s:Shy wg a u) (hn:∀ o,h.own wg o=none∧h.ro wg o=none):Kn (t++u) K' h where
 own:=fun b o v e i b' hb hl=>by
  rcases touch_split hb with hb | ⟨op,ho,_,h2⟩
  ·exact hK _ (kn.own _ _ _ e _ _ hb hl)
  ·obtain ⟨⟨o',_,h1⟩,_⟩:=s.touch op ho b' h2
   rw [h1] at hl;cases hl;rw [(hn o).1] at e;cases e
 ro:=fun b o v e i b' hb hl hw=>by
  rcases touch_split hb with hb | ⟨op,ho,_,h2⟩
  ·exact hK _ (kn.ro _ _ _ e _ _ hb hl hw)
  ·obtain ⟨⟨o',_,h1⟩,_⟩:=s.touch op ho b' h2
   rw [h1] at hl;cases hl;rw [(hn o).2] at e;cases e
 obj:=fun b v e i b' hb hl=>by
  rcases touch_split hb with hb | ⟨op,ho,_,h2⟩
  ·exact hK _ (kn.obj _ _ e _ _ hb hl)
  ·obtain ⟨⟨o',_,h1⟩,_⟩:=s.touch op ho b' h2
   rw [h1] at hl;cases hl
theorem Mem.shy {w w':World} {t u:Trace} {hp:Nat→Hp} {wg a:Nat} {ty:TypeId} {p q p' q':Int} (m:Mem w t hp) (s:Shy wg a u) (hn:∀ i o,(hp i).own wg o=none∧(hp i).ro wg o=none)
  (h:∀ i b o,o<2→touchAt t i=some b→b.loc=.cell ⟨wg,o,none⟩→(b.kind≠.plain∧(b.kind=.said→t.g? i=some 0))∨Knows t a i) (e:WgAt ty wg w p q) (e':WgAt ty wg w' p' q') (hw:∀ c,c≠wg→w'.heap[c]?=w.heap[c]?) (hs:w'.heap.size=w.heap.size):Mem w' (t++u) hp where
 fits:=fun i=>fits_wg (m.fits i) (hn i) e e' hw
 sep:=m.sep
 nr:=fun said=>shy_race (m.nr said) s h
 low:=fun i b hb=>by
  rw [hs]
  rcases touch_split hb with hb | ⟨op,ho,_,h2⟩
  ·exact m.low i b hb
  ·obtain ⟨⟨o',_,h1⟩,_⟩:=s.touch op ho b h2
   exact ⟨fun d hd=>(by rw [h1] at hd;cases hd;exact wgAt_lt e),fun r hr=>by rw [h1] at hr;cases hr⟩
 norel:=fun op ho b=>(Array.mem_append.1 ho).elim (fun ho=>m.norel op ho b) (fun ho=>s.norel op ho b)
theorem Cfg.slot {gs gs':Array Goroutine} {w w':World} {t u:Trace} {M:MN P cv L Em} {sl:List (Slot P cv L)} {hp:Nat→Hp} {X:GX} {nb j:Nat} {s s':Slot P cv L} {g':Goroutine}
  (c:Cfg W0 gs w t M sl hp) (hX:M.x=.game X) (hG:GameAt X gs w t sl hp nb) (hs:sl[nb+j]?=some s) (q:Gs P (nb+j+1) gs gs' g') (hr:g'.status≠.blocked)
  (hsd:Side w w') (hw:∀ b,b≠X.wg→w'.heap[b]?=w.heap[b]?) (hsz:w'.heap.size=w.heap.size) (ph:WgPh L X ((sl.map Slot.stage).set (nb+j) s'.stage) w') (sh:Shy X.wg (nb+j+1) u)
  (sg:SlotG w' X.wg (Deaf (t++u) (nb+j+1)) g' s') (sk:SlotKn (t++u) X.wg (nb+j+1) (hp (nb+j+1)) s') (sa:∀ c:St X,X.seats[j]?=some c→SeatAt X c (hp (nb+j+1)) s')
  (sp:∀ (g:Game) (wg m:Nat) (q:g.θ) (h:Hp),FreeSt wg m q h s→FreeSt wg m q h s')
  (hsl:∀ g0,gs'[0]?=some g0→g0.status=.blocked→g0.offers=none→¬ WgAt L.tWg X.wg w' 0 1):Cfg W0 gs' w' (t++u) M (sl.set (nb+j) s') hp:=by
 have hlt:nb+j<sl.length:=(List.getElem?_eq_some_iff.1 hs).1
 obtain ⟨p1,p2,e1⟩:=hG.wg.ex
 obtain ⟨p3,p4,e2⟩:=ph.ex
 have hwg0:W0.heap.size≤X.wg:=by have:=c.aft.game;rw [hX] at this;exact this.1
 have hng:∀ i,i≠nb+j+1→∀ op∈u,op.g≠i:=fun i hi op ho e=>hi (by rw [← e,sh.g op ho])
 have hrl:RL L.tWg X.wg w w':=fun _=>⟨_,_,e2⟩
 have hmem:=c.mem.shy sh hG.nowg (fun i b o ho2 hb hl=>(hG.wgt i b o ho2 hb hl).imp id fun k=>k.2 j (by have:=hG.len;omega)) e1 e2 hw hsz
 refine ⟨by rw [q.size,List.length_set];exact c.size,?_,fun i sx hi=>?_,hmem,c.aft.at_block hwg0 hsd hw hsz c.aft.game,c.hp0,fun i hi=>c.hpn i (by simpa using hi),fun i op hi=>?_,?_,?_,?_⟩
 ·obtain ⟨g,h1,h2⟩:=c.main
  obtain ⟨x,x',w2,h3⟩:=q.other 0 g (by omega) h1
  exact ⟨_,h3,h2.woken⟩
 ·rw [hX]
  by_cases hij:i=nb+j
  ·subst hij
   simp [hlt] at hi
   subst hi
   exact ⟨_,q.self,sg⟩
  ·rw [List.getElem?_set_ne fun e=>hij e.symm] at hi
   obtain ⟨g,h1,h2⟩:=c.thr i sx hi
   rw [hX] at h2
   obtain ⟨x,x',w2,h3⟩:=q.other (i+1) g (by omega) h1
   exact ⟨_,h3,slot_woken (Deaf_others (hng _ (by omega))) hrl h2⟩
 ·simp only [List.length_set]
  rcases getElem?_append_cases hi with ⟨_,h⟩ | ⟨_,h⟩
  ·exact c.tg i op h
  ·rw [sh.g op h];omega
 ·exact shy_kn c.kn0 (fun j h=>h.app u) sh (hG.nowg 0)
 ·rw [hX]
  refine ⟨nb,⟨by rw [List.length_set];exact hG.len,fun i sx hi hc=>?_,fun k cx hc=>?_,fun k sx hc=>?_,fun k cx hc b hb=>?_,hG.dist,hG.noch,hG.nowg,by simpa only [List.map_set] using ph,fun i b o ho2 hb hl=>?_,?_,hG.tok0,hG.tok1,hG.adp,hG.ads,hG.adl,fun k cx g hc hg hsx hb=>?_,fun g0 cases shp hg hb ho=>?_,fun g0 hg hb ho=>⟨?_,hsl g0 hg hb ho⟩,fun k cx b i x hc hb hx hl=>?_⟩⟩
  ·rw [List.getElem?_set_ne (by omega)] at hc
   exact (hG.old i sx hi hc).app (hng _ (by omega))
  ·obtain ⟨sx,h1,h2⟩:=hG.seat k cx hc
   by_cases hkj:k=j
   ·subst hkj;exact ⟨s',by simp [hlt],sa cx hc⟩
   ·exact ⟨sx,by rw [List.getElem?_set_ne (by omega)];exact h1,h2⟩
  ·by_cases hkj:k=j
   ·subst hkj
    simp [hlt] at hc
    subst hc;exact sk
   ·rw [List.getElem?_set_ne (by omega)] at hc
    exact (hG.know k sx hc).app (hng _ (by omega)) fun kk hK=>shy_kn kk hK sh (hG.nowg _)
  ·obtain ⟨n,e⟩:=hG.chan k cx hc b hb
   refine ⟨n,?_⟩
   rw [hw _ fun he=>?_]
   ·exact e
   ·obtain ⟨_,e1,_⟩:=e1;rw [he] at e;rw [e1] at e;cases e
  ·rcases touch_split hb with hb | ⟨op,ho,hi,h2⟩
   ·rcases hG.wgt i b o ho2 hb hl with this | ⟨k0,k1⟩
    ·refine .inl ⟨this.1,fun hsd=>?_⟩
     have h1:=this.2 hsd
     rw [g?_app (g?_lt h1)];exact h1
    ·exact .inr ⟨k0.app u,fun j hj=>(k1 j hj).app u⟩
   ·have:=(sh.touch op ho b h2).2
    rw [this];exact .inl ⟨by simp,fun h=>by cases h⟩
  ·rw [Deaf_others (hng 0 (by omega))];exact hG.deaf
  ·by_cases hkj:k=j
   ·subst hkj;rw [q.self] at hg;cases hg;exact hr hb
   ·exact hG.live k cx g hc (q.back _ _ (by omega) hg hb) hsx hb
  ·obtain ⟨k,cx,h1,h2,h3,h4⟩:=hG.park g0 cases shp (q.back _ _ (by omega) hg hb) hb ho
   refine ⟨k,cx,h1,h2,h3,fun g hg2 hb2=>?_⟩
   by_cases hkj:k=j
   ·subst hkj;rw [q.self] at hg2;cases hg2;exact hr hb2
   ·exact h4 g (q.back _ _ (by omega) hg2 hb2) hb2
  ·exact (hG.sleep g0 (q.back _ _ (by omega) hg hb) hb ho).1
  ·rcases touch_split hx with hx | ⟨op,ho,_,h2⟩
   ·exact (hG.cht k cx b i x hc hb hx hl).app u
   ·obtain ⟨⟨o',_,h1⟩,_⟩:=sh.touch op ho x h2
    rw [h1] at hl;cases hl
 ·refine c.pool.step (fun pl hw' hs' hf=>⟨fits_wg hf (hw' X hX) e1 e2 hw,hs',fun op ho b hb x y hl=>?_⟩) (by rw [List.length_set]) fun g wg m q i sx' hi=>?_
  ·obtain ⟨⟨o',_,h1⟩,_⟩:=sh.touch op ho b hb
   rw [h1] at hl;cases hl
   exact ⟨(hw' X hX _).1,fun _=>(hw' X hX _).2⟩
  ·by_cases hij:i=nb+j
   ·subst hij
    simp [hlt] at hi
    subst hi
    exact ⟨s,hs,sp g wg m q _⟩
   ·rw [List.getElem?_set_ne fun e=>hij e.symm] at hi
    exact ⟨sx',hi,id⟩
end Go.PB
namespace Go.PB
open Go.Conc Go.Conc.Lib
open Go.ConcR (KK stA smA rd wr mk DC0)
theorem count_set {p:Nat→Bool}:∀ {l:List Nat} {i a:Nat} (b:Nat),l[i]?=some a→((l.set i b).filter p).length+(if p a then 1 else 0)=(l.filter p).length+(if p b then 1 else 0)
 | x::l,0,a,b,h=>by
  simp at h;subst h
  simp only [List.set_cons_zero,List.filter_cons]
  cases p b <;> cases p x <;> simp
 | x::l,i+1,a,b,h=>by
  have ih:=count_set (p:=p) (l:=l) (i:=i) b (by simpa using h)
  simp only [List.set_cons_succ,List.filter_cons]
  cases p x <;> simp <;> omega
 | [],i,a,b,h=>by simp at h
theorem count_pos {p:Nat→Bool} {l:List Nat} {i a:Nat} (h:l[i]?=some a) (hp:p a=true):0<(l.filter p).length :=
 List.length_pos_of_mem (List.mem_filter.2 ⟨List.mem_of_getElem? h,hp⟩)
theorem count_one {p:Nat→Bool} {l:List Nat} {i a:Nat} (h:l[i]?=some a) (hp:p a=true) (h0:p 0=false) (h1:(l.filter p).length=1):∀ j k,l[j]?=some k→j≠i→p k=false:=by
 intro j k hj hne
 have:=count_set (p:=p) 0 h
 rw [hp,h0,h1] at this
 simp at this
 by_cases hk:p k=true
 ·have h2:(l.set i 0)[j]?=some k:=by rw [List.getElem?_set_ne fun e=>hne e.symm];exact hj
  have:=this k (List.mem_of_getElem? h2)
  rw [hk] at this;cases this
 ·simpa using hk
theorem count_tail {p:Nat→Bool} (h0:p 0=false):∀ {l:List Nat} {n:Nat},(∀ i k,i<n→l[i]?=some k→k=0)→(l.filter p).length≤l.length-n
 | [],n,_=>by simp
 | x::l,0,_=>by simpa using List.length_filter_le p (x::l)
 | x::l,n+1,h=>by
  have hx:x=0:=h 0 x (by omega) rfl
  subst hx
  have:=count_tail (p:=p) h0 (l:=l) (n:=n) fun i k hi hk=>h (i+1) k (by omega) (by simpa using hk)
  simp only [List.filter_cons,h0]
  simpa using this
section
variable {L:WgLink} {X:GX} {st:List Nat} {w w':World} {I:Nat}
theorem WgPh.far {a b:Nat} (p:WgPh L X st w) (hi:st[I]?=some a) (ha:4≤a) (hb:4≤b) (h:∀ x y,WgAt L.tWg X.wg w x y→WgAt L.tWg X.wg w' x y):WgPh L X (st.set I b) w':=by
 have hlt:=(List.getElem?_eq_some_iff.1 hi).1
 cases p with
 | quiet v wt at_ hv late hw park bb =>
  have:=count_set (p:=fun k=>decide (4≤k)) b hi
  simp only [ha,hb,decide_true,if_true] at this
  refine .quiet v wt (h _ _ at_) (by omega) (fun k hk=>?_) hw park bb
  rcases List.mem_or_eq_of_mem_set hk with hk | rfl
  ·exact late k hk
  ·exact .inr hb
 | late p i k hik hk at_ oth =>
  exfalso
  by_cases e:I=i
  ·subst e;rw [hi] at hik;cases hik;omega
  ·have:=oth I a hi e;omega
 | late1 p i hik at_ oth =>
  exfalso
  by_cases e:I=i
  ·subst e;rw [hi] at hik;cases hik;omega
  ·have:=oth I a hi e;omega
 | free p at_ oth=>exfalso;have:=oth a (List.mem_of_getElem? hi);omega
theorem WgPh.same {a:Nat} (p:WgPh L X st w) (hi:st[I]?=some a) (h:∀ x y,WgAt L.tWg X.wg w x y→WgAt L.tWg X.wg w' x y):WgPh L X (st.set I a) w':=by
 have hlt:=(List.getElem?_eq_some_iff.1 hi).1
 have e:st.set I a=st:=by
  apply List.ext_getElem?
  intro j
  by_cases hj:I=j
  ·subst hj;rw [List.getElem?_set_self hlt,hi]
  ·rw [List.getElem?_set_ne hj]
 rw [e]
 exact p.at h
theorem WgPh.at4 (p:WgPh L X st w) (hi:st[I]?=some 4):∃ v wt:Nat,WgAt L.tWg X.wg w (v*KK+wt) 0∧v+(X.seats.length+X.nf)=(st.filter fun k=>decide (4≤k)).length+X.ad∧(∀ k∈st,k=0∨4≤k) ∧
  wt=(match X.wt with | .parked=>1 | _=>0)∧(X.wt=.parked→0<v)∧(match X.wt with | .wait b=>v≤b | .seen v0=>v≤v0 | .woken=>v=0 | .zero=>v=0 | _=>True):=by
 cases p with
 | quiet v wt at_ hv late hw park bb=>exact ⟨v,wt,at_,hv,late,hw,park,bb⟩
 | late p i k hik hk at_ oth =>
  exfalso
  by_cases e:I=i
  ·subst e;rw [hi] at hik;cases hik;omega
  ·have:=oth I 4 hi e;omega
 | late1 p i hik at_ oth =>
  exfalso
  by_cases e:I=i
  ·subst e;rw [hi] at hik;cases hik
  ·have:=oth I 4 hi e;omega
 | free p at_ oth=>exfalso;have:=oth 4 (List.mem_of_getElem? hi);omega
theorem WgPh.at23 {k:Nat} (p:WgPh L X st w) (hi:st[I]?=some k) (hk:k=3∨k=2):X.wt=.parked∧WgAt L.tWg X.wg w 1 0∧∀ j k,st[j]?=some k→j≠I→k=0:=by
 cases p with
 | quiet v wt at_ hv late hw park bb=>exfalso;have:=late k (List.mem_of_getElem? hi);omega
 | late p i k' hik hk' at_ oth =>
  by_cases e:I=i
  ·subst e;exact ⟨p,at_,oth⟩
  ·exfalso;have:=oth I k hi e;omega
 | late1 p i hik at_ oth =>
  exfalso
  by_cases e:I=i
  ·subst e;rw [hi] at hik;cases hik;omega
  ·have:=oth I k hi e;omega
 | free p at_ oth=>exfalso;have:=oth k (List.mem_of_getElem? hi);omega
theorem WgPh.at1 (p:WgPh L X st w) (hi:st[I]?=some 1):X.wt=.parked∧WgAt L.tWg X.wg w 0 0∧∀ j k,st[j]?=some k→j≠I→k=0:=by
 cases p with
 | quiet v wt at_ hv late hw park bb=>exfalso;have:=late 1 (List.mem_of_getElem? hi);omega
 | late p i k' hik hk' at_ oth =>
  exfalso
  by_cases e:I=i
  ·subst e;rw [hi] at hik;cases hik;omega
  ·have:=oth I 1 hi e;omega
 | late1 p i hik at_ oth =>
  by_cases e:I=i
  ·subst e;exact ⟨p,at_,oth⟩
  ·exfalso;have:=oth I 1 hi e;omega
 | free p at_ oth=>exfalso;have:=oth 1 (List.mem_of_getElem? hi);omega
theorem WgPh.notFree {k:Nat} (p:WgPh L X st w) (hi:st[I]?=some k) (hk:0<k):¬ WgAt L.tWg X.wg w 0 1:=by
 intro hx
 cases p with
 | quiet v wt at_ hv late hw park bb=>exact absurd (at_.unique hx).2 (by decide)
 | late p i k' hik hk' at_ oth=>exact absurd (at_.unique hx).2 (by decide)
 | late1 p i hik at_ oth=>exact absurd (at_.unique hx).2 (by decide)
 | free p at_ oth=>have:=oth k (List.mem_of_getElem? hi);omega
end
def EvShy (wg:Nat) (e:Event):Prop:=(∃ m,e=⟨.mark m,false,true⟩∧(MemAct.mark m).touch?=none∧∀ a,m≠.release a)∨∃ o wr,e=⟨.cell ⟨wg,o,none⟩,wr,true⟩∧o<2
theorem evShy_act {wg:Nat} {e:Event} (h:EvShy wg e):(∀ b,(MemAct.ofEvent e).touch?=some b→(∃ o,o<2∧b.loc=.cell ⟨wg,o,none⟩)∧b.kind=.atomic)∧∀ a,MemAct.ofEvent e≠.mark (.release a):=by
 rcases h with ⟨m,rfl,h1,h2⟩ | ⟨o,wr,rfl,ho2⟩
 ·refine ⟨fun b hb=>?_,fun a ha=>?_⟩
  ·have:(MemAct.ofEvent ⟨.mark m,false,true⟩).touch?=none:=h1
   rw [this] at hb;cases hb
  ·have:MemAct.ofEvent ⟨.mark m,false,true⟩=.mark m:=rfl
   rw [this] at ha;cases ha;exact h2 a rfl
 ·refine ⟨fun b hb=>?_,fun a ha=>?_⟩
  ·have:(MemAct.ofEvent ⟨.cell ⟨wg,o,none⟩,wr,true⟩).touch?=some ⟨.cell ⟨wg,o,none⟩,wr,.atomic⟩:=by cases wr <;> rfl
   rw [this] at hb;cases hb;exact ⟨⟨o,ho2,rfl⟩,rfl⟩
  ·cases wr <;> cases ha
theorem shy_of {wg a:Nat} {fn:FuncId} {pos:String} {es:Array Event} (h:∀ e∈es,EvShy wg e):Shy wg a (MemOp.ofEvents a fn pos es) where
 g:=fun op ho=>by obtain ⟨e,_,rfl⟩:=ofEvents_mem ho;rfl
 touch:=fun op ho b hb=>by obtain ⟨e,h1,rfl⟩:=ofEvents_mem ho;exact (evShy_act (h e h1)).1 b hb
 norel:=fun op ho b=>by obtain ⟨e,h1,rfl⟩:=ofEvents_mem ho;exact (evShy_act (h e h1)).2 b
theorem allK_deaf {t:Trace} {K K':Nat→Prop} {a wg:Nat} {fn:FuncId} {pos:String} {es:Array Event} (h:AllK t a K) (hK:∀ j,K j→K' j) (hes:∀ e∈es,EvShy wg e)
  (hd:∀ (j:Nat) (e:Event),es[j]?=some e→(MemAct.ofEvent e).touch?≠none→0<deafBehind (Deaf t a) (es.extract 0 j)):AllK (t++MemOp.ofEvents a fn pos es) a K':=by
 intro j hj hc
 rcases Nat.lt_or_ge j t.size with hlt | hge
 ·exact hK _ (h j (by rw [← g?_app hlt];exact hj) ((counts_old hlt).1 hc))
 ·exfalso
  obtain ⟨x,h1,h2,h3⟩:=hc
  obtain ⟨op,ho,hx⟩:=touch_of h1
  obtain ⟨i,rfl⟩:∃ i,j=t.size+i:=⟨j-t.size,by omega⟩
  have ho':(MemOp.ofEvents a fn pos es)[i]?=some op:=by
   rw [Array.getElem?_append_right (by omega)] at ho
   simpa using ho
  rw [ofEvents_eq] at ho'
  rw [Array.getElem?_map] at ho'
  obtain ⟨e,he,rfl⟩:=Option.map_eq_some_iff.1 ho'
  have hem:e∈es:=Array.mem_of_getElem? he
  have hk:=((evShy_act (hes e hem)).1 x hx).2
  rcases h3 with h3 | ⟨g,hg,hd0⟩
  ·exact h3 hk
  ·have hlt:=(Array.getElem?_eq_some_iff.1 he).1
   rw [hj] at hg;cases hg
   rw [deaf_inside t a fn pos es i (by omega)] at hd0
   have:=hd i e he (by rw [hx];simp)
   omega
end Go.PB
namespace Go.PB
open Go.Conc Go.Conc.Lib
open Go.ConcR (KK stA smA rd wr mk DC0)
variable {W0:World} {P:Program} {cv:Value} {L:WgLink} {Em:Frame→List Frame→Hp→MX→Prop}
theorem again_offers {o:Goroutine} {w:World} (h:(o.again w).status=.blocked):(o.again w).offers≠none:=by
 intro hn
 rcases ho:o.offers with _ | ⟨a,b⟩ <;> cases hs:o.status <;> simp only [Goroutine.again,hs,ho] at h hn <;> first | (cases h;done) | (rw [hs] at h;cases h;done) | (split at hn <;> (simp only [ho] at hn;cases hn;done)) | (rw [ho] at hn;cases hn;done) | skip
theorem g?_of {t:Trace} {i:Nat} {op:MemOp} (h:t[i]?=some op):t.g? i=some op.g:=by simp [Trace.g?,h]
theorem setCell_ne {w:World} {a:Addr} {v:Value} {b:Nat} (h:b≠a.block):(w.setCell a v).heap[b]?=w.heap[b]?:=by
 unfold World.setCell
 simp only [Array.getElem?_modify]
 rw [if_neg fun e=>h e.symm]
theorem setCell_size {w:World} {a:Addr} {v:Value}:(w.setCell a v).heap.size=w.heap.size:=by
 unfold World.setCell;simp
theorem leaves_shy {t:Trace} {wg a:Nat} {h:Hp} {fn:FuncId} {pos:String} {es:Array Event} (k:∃ p,Rel t wg a p∧Kn t (fun j=>Before t j p) h∧AllK t a fun j=>Before t j p) (hn:∀ o,h.own wg o=none∧h.ro wg o=none) (hes:∀ e∈es,EvShy wg e)
  (hd:∀ (j:Nat) (e:Event),es[j]?=some e→(MemAct.ofEvent e).touch?≠none→0<deafBehind (Deaf t a) (es.extract 0 j)) :
  ∃ p,Rel (t++MemOp.ofEvents a fn pos es) wg a p∧Kn (t++MemOp.ofEvents a fn pos es) (fun j=>Before (t++MemOp.ofEvents a fn pos es) j p) h∧AllK (t++MemOp.ofEvents a fn pos es) a fun j=>Before (t++MemOp.ofEvents a fn pos es) j p:=by
 obtain ⟨p,h1,h2,h3⟩:=k
 exact ⟨p,h1.app _,shy_kn h2 (fun j h=>h.app _) (shy_of hes) hn,allK_deaf h3 (fun j h=>h.app _) hes hd⟩
section
variable {gs:Array Goroutine} {w:World} {t:Trace} {M:MN P cv L Em} {sl:List (Slot P cv L)} {hp:Nat→Hp} {X:GX} {nb j k m:Nat} {g:Goroutine} {sc:Option (Nat × Nat)}
theorem cfg_out (c:Cfg W0 gs w t M sl hp) (hX:M.x=.game X) (hG:GameAt X gs w t sl hp nb) (hs:sl[nb+j]?=some (.out (k+1) m)) (hg:gs[nb+j+1]?=some g) :
  ∃ gs' w' ops k' m',runT P (crowd gs w sc) (nb+j+1)=(.next (crowd gs' w' sc),ops)∧(k'<k+1∨(k'=k+1∧m'<m))∧Cfg W0 gs' w' (t++ops) M (sl.set (nb+j) (.out k' m')) hp:=by
 obtain ⟨g0,hg0,hz⟩:=c.thr _ _ hs
 rw [hg] at hg0;cases hg0
 rw [hX] at hz
 replace hz:Zg P L.tWg X.wg (ZS P L.tWg X.wg (k+1)) m g w:=hz
 have hst:(sl.map Slot.stage)[nb+j]?=some (k+1):=by rw [List.getElem?_map,hs];rfl
 have hseat:∀ cs:St X,X.seats[j]?=some cs→SeatAt X cs (hp (nb+j+1)) (.out (k+1) m:Slot P cv L):=fun cs hcs=>by
  obtain ⟨s,h1,h2⟩:=hG.seat j cs hcs
  rw [hs] at h1;cases h1;exact h2
 have hkn:=hG.know j _ hs
 have hk6:k+1≤6:=by
  obtain ⟨h,_⟩ | ⟨h,_⟩:=hkn
  ·omega
  ·omega
 have hnw:=hG.nowg (nb+j+1)
 have key:∀ {g':Goroutine} {w':World} {es:Array Event} {k' m':Nat},stepG P false g w=.go g' w' es→(∀ e∈es,EvShy X.wg e)→(k'<k+1∨(k'=k+1∧m'<m))→Side w w'→(∀ b,b≠X.wg→w'.heap[b]?=w.heap[b]?)→w'.heap.size=w.heap.size →
   WgPh L X ((sl.map Slot.stage).set (nb+j) k') w'→SlotG w' X.wg (deafBehind (Deaf t (nb+j+1)) es) g' (.out k' m':Slot P cv L)→SlotKn (t++MemOp.ofEvents (nb+j+1) g.frame.fn g.frame.place es) X.wg (nb+j+1) (hp (nb+j+1)) (.out k' m':Slot P cv L) →
   g'.status≠.blocked→(¬ WgAt L.tWg X.wg w' 0 1∨(mayWake P g=true∧g'.status≠.waiting)) →
   ∃ gs' w' ops k' m',runT P (crowd gs w sc) (nb+j+1)=(.next (crowd gs' w' sc),ops)∧(k'<k+1∨(k'=k+1∧m'<m))∧Cfg W0 gs' w' (t++ops) M (sl.set (nb+j) (.out k' m')) hp:=by
  intro g' w' es k' m' hstep hes hlt hsd hw hsz ph sg sk hnb hsl
  have hst':stepG P (nb+j+1 == 0) g w=.go g' w' es:=hstep
  refine ⟨_,_,_,k',m',runT_crowd_go hg hst',hlt,?_⟩
  refine Cfg.slot c hX hG hs (gs_go hg) hnb hsd hw hsz ph (shy_of hes) (by rw [Deaf_own];exact sg) sk (fun cx hcx=>?_) (fun _ _ _ _ _ h=>h) (fun g0 h0 hb ho hx=>?_)
  ·exact ⟨by omega,(hseat cx hcx).2⟩
  ·rcases hsl with hsl | ⟨h1,h2⟩
   ·exact hsl hx
   ·rw [Array.getElem?_setIfInBounds_ne (by omega),Array.getElem?_map] at h0
    obtain ⟨o,e1,e2⟩:=Option.map_eq_some_iff.1 h0
    have hwk:woken P g g' w' o=o.again w':=by
     unfold woken
     rw [if_pos]
     simp only [h1,Bool.true_and,Bool.and_eq_true]
     exact ⟨by simpa using hnb,by simpa using h2⟩
    rw [hwk] at e2
    subst e2
    exact again_offers hb ho
 rcases zg_step hz with hz | ⟨m',g',rfl,hstep,hz'⟩
 ·rcases k with _ | _ | _ | _ | _ | _ | k
  ·-- it lets the starter go
   obtain ⟨hr,hmw,hz⟩:=(show Z4 P L.tWg X.wg g w from hz)
   obtain ⟨hp1,hat,hoth⟩:=hG.wg.at1 hst
   obtain ⟨g',q,hstep,hq⟩:=hz hat
   obtain ⟨h6,_,_⟩ | ⟨_,hlv,_,hdf⟩:=hkn
   ·omega
   have hd:Deaf t (nb+j+1)=1:=hdf (by omega) (by omega)
   refine key (k':=0) (m':=q) hstep (fun e he=>?_) (by omega) side_setCell (fun b hb=>setCell_ne hb) setCell_size (.free hp1 (hat.setSm 1) fun k hk=>?_) (by rw [hd];exact hq) (.inr ⟨by omega,leaves_shy hlv hnw ?_ ?_,fun h=>by omega,fun h=>by omega⟩) (fun h=>by have:=QuitsD.status hq;rw [h] at this;rcases this with h | h <;> cases h) (.inr ⟨hmw,fun h=>by have:=QuitsD.status hq;rw [h] at this;rcases this with h | h <;> cases h⟩)
   ·simp only [semEvents,List.mem_toArray,List.mem_cons,List.not_mem_nil,or_false] at he
    rcases he with rfl | rfl | rfl | rfl
    ·exact .inl ⟨_,rfl,rfl,fun a h=>by cases h⟩
    ·exact .inr ⟨_,_,rfl,by decide⟩
    ·exact .inr ⟨_,_,rfl,by decide⟩
    ·exact .inl ⟨_,rfl,rfl,fun a h=>by cases h⟩
   ·obtain ⟨i,hi⟩:=List.getElem?_of_mem hk
    by_cases e:i=nb+j
    ·subst e
     rw [List.getElem?_set_self (by simpa using (List.getElem?_eq_some_iff.1 hst).1)] at hi
     cases hi;rfl
    ·rw [List.getElem?_set_ne fun h=>e h.symm] at hi
     exact hoth i k hi e
   ·intro e he
    simp only [semEvents,List.mem_toArray,List.mem_cons,List.not_mem_nil,or_false] at he
    rcases he with rfl | rfl | rfl | rfl
    ·exact .inl ⟨_,rfl,rfl,fun a h=>by cases h⟩
    ·exact .inr ⟨_,_,rfl,by decide⟩
    ·exact .inr ⟨_,_,rfl,by decide⟩
    ·exact .inl ⟨_,rfl,rfl,fun a h=>by cases h⟩
   ·intro i e he ht
    rw [hd]
    rcases i with _ | _ | _ | _ | i
    ·simp only [semEvents] at he ⊢;simp [deafBehind]
    ·simp only [semEvents] at he ⊢;simp [deafBehind]
    ·simp only [semEvents] at he ⊢;simp [deafBehind]
    ·simp only [semEvents] at he ⊢;simp [deafBehind]
    ·simp [semEvents] at he
  ·-- the count is laid to nought
   obtain ⟨hr,hz⟩:=(show Z3 P L.tWg X.wg g w from hz)
   obtain ⟨hp1,hat,hoth⟩:=hG.wg.at23 hst (.inr rfl)
   obtain ⟨g',q,hstep,hq⟩:=hz hat
   obtain ⟨h6,_,_⟩ | ⟨_,hlv,_,hdf⟩:=hkn
   ·omega
   have hd:Deaf t (nb+j+1)=1:=hdf (by omega) (by omega)
   have hes:∀ e∈#[wr (stA X.wg)],EvShy X.wg e:=fun e he=>by simp at he;subst he;exact .inr ⟨_,_,rfl,by decide⟩
   refine key (k':=1) (m':=q) hstep hes (by omega) side_setCell (fun b hb=>setCell_ne hb) setCell_size (.late1 hp1 (nb+j) (List.getElem?_set_self (List.getElem?_eq_some_iff.1 hst).1) (hat.setSt 0) fun i k hi e=>hoth i k (by rwa [List.getElem?_set_ne fun h=>e h.symm] at hi) e) hq
    (.inr ⟨by omega,leaves_shy hlv hnw hes fun i e he ht=>?_,fun h=>by omega,fun _ _=>?_⟩) (fun h=>by have:=zg_running (k:=1) hq;rw [h] at this;cases this) (.inl fun hx=>absurd ((hat.setSt 0).unique hx).2 (by decide))
   ·rw [hd]
    rcases i with _ | i
    ·simp [deafBehind]
    ·simp at he
   ·rw [Deaf_own,hd];rfl
  ·-- the count is looked at again
   obtain ⟨hr,hz⟩:=(show Z2 P L.tWg X.wg g w from hz)
   obtain ⟨hp1,hat,hoth⟩:=hG.wg.at23 hst (.inl rfl)
   obtain ⟨g',q,hstep,hq⟩:=hz hat
   obtain ⟨h6,_,_⟩ | ⟨_,hlv,_,hdf⟩:=hkn
   ·omega
   have hd:Deaf t (nb+j+1)=1:=hdf (by omega) (by omega)
   have hes:∀ e∈#[rd (stA X.wg)],EvShy X.wg e:=fun e he=>by simp at he;subst he;exact .inr ⟨_,_,rfl,by decide⟩
   refine key (k':=2) (m':=q) hstep hes (by omega) Side.refl (fun b hb=>rfl) rfl (.late hp1 (nb+j) 2 (List.getElem?_set_self (List.getElem?_eq_some_iff.1 hst).1) (.inr rfl) hat fun i k hi e=>hoth i k (by rwa [List.getElem?_set_ne fun h=>e h.symm] at hi) e) hq
    (.inr ⟨by omega,leaves_shy hlv hnw hes fun i e he ht=>?_,fun h=>by omega,fun _ _=>?_⟩) (fun h=>by have:=zg_running (k:=2) hq;rw [h] at this;cases this) (.inl fun hx=>absurd (hat.unique hx).2 (by decide))
   ·rw [hd]
    rcases i with _ | i
    ·simp [deafBehind]
    ·simp at he
   ·rw [Deaf_own,hd];rfl
  ·-- it counts itself out
   obtain ⟨hr,hz⟩:=(show Z1 P L.tWg X.wg g w from hz)
   obtain ⟨v,wt,hat,hv,hlate,hwt,hpark,hb⟩:=hG.wg.at4 hst
   have hcnt:=count_pos (p:=fun k=>decide (4≤k)) hst rfl
   have htail:=count_tail (p:=fun k=>decide (4≤k)) rfl (l:=sl.map Slot.stage) (n:=nb) fun i k hi hk=>by
    rw [List.getElem?_map] at hk
    obtain ⟨s,e1,e2⟩:=Option.map_eq_some_iff.1 hk
    obtain ⟨m',rfl⟩:=(hG.old i s hi e1).out
    exact e2.symm
   have hlen:=hG.len
   have hadl:=hG.adl
   have hadn:X.seats.length+X.nf≤X.ad:=by
    by_cases hpl:X.wt=.play
    ·rcases hG.adp hpl with h | h <;> omega
    ·exact Nat.le_of_eq (hG.ads hpl).1.symm
   simp only [List.length_map] at htail
   obtain ⟨v,rfl⟩:∃ v',v=v'+1:=⟨v-1,by omega⟩
   have hwt1:wt≤1:=by rw [hwt];split <;> omega
   obtain ⟨g',hstep,hq1,hq0⟩:=hz v wt hwt1 (by omega) (by push_cast at hat;exact hat)
   obtain ⟨h6,_,_⟩ | ⟨_,hlv,_,hdf⟩:=hkn
   ·omega
   have hd:Deaf t (nb+j+1)=1:=hdf (by omega) (by omega)
   have hes:∀ e∈#[rd (stA X.wg),wr (stA X.wg)],EvShy X.wg e:=fun e he=>by
    simp at he
    rcases he with rfl | rfl <;> exact .inr ⟨_,_,rfl,by decide⟩
   have hdi:∀ (i:Nat) (e:Event),(#[rd (stA X.wg),wr (stA X.wg)]:Array Event)[i]?=some e→(MemAct.ofEvent e).touch?≠none→0<deafBehind (Deaf t (nb+j+1)) ((#[rd (stA X.wg),wr (stA X.wg)]:Array Event).extract 0 i):=fun i e he ht=>by
    rw [hd]
    rcases i with _ | _ | i
    ·simp [deafBehind]
    ·simp [deafBehind,rd]
    ·simp at he
   have hset:=count_set (p:=fun k=>decide (4≤k)) (b:=0) hst
   simp at hset
   by_cases hl:v=0∧wt=1
   ·obtain ⟨q,hq⟩:=hq1 hl
    obtain ⟨rfl,rfl⟩:=hl
    have hp1:X.wt=.parked:=by
     revert hwt
     cases X.wt <;> simp
    have had:=(hG.ads (by rw [hp1];simp)).1
    have hone:=count_one (p:=fun k=>decide (4≤k)) hst rfl rfl (by omega)
    refine key (k':=3) (m':=q) hstep hes (by omega) side_setCell (fun b hb=>setCell_ne hb) setCell_size (.late hp1 (nb+j) 3 (List.getElem?_set_self (List.getElem?_eq_some_iff.1 hst).1) (.inl rfl) (by simpa using hat.setSt _) fun i k hi e=>?_) hq
     (.inr ⟨by omega,leaves_shy hlv hnw hes hdi,fun h=>by omega,fun _ _=>?_⟩) (fun h=>by have:=zg_running (k:=3) hq;rw [h] at this;cases this) (.inl fun hx=>absurd ((hat.setSt _).unique hx).2 (by decide))
    ·rw [List.getElem?_set_ne fun h=>e h.symm] at hi
     have h1:=hone i k hi e
     have h2:=hlate k (List.mem_of_getElem? hi)
     simp at h1
     omega
    ·rw [Deaf_own,hd];rfl
   ·obtain ⟨q,hq⟩:=hq0 hl
    refine key (k':=0) (m':=q) hstep hes (by omega) side_setCell (fun b hb=>setCell_ne hb) setCell_size (.quiet v wt (hat.setSt _) (by omega) (fun k hk=>?_) hwt (fun hp1=>?_) ?_) (by rw [hd];exact hq)
     (.inr ⟨by omega,leaves_shy hlv hnw hes hdi,fun h=>by omega,fun h=>by omega⟩) (fun h=>by have:=QuitsD.status hq;rw [h] at this;rcases this with h | h <;> cases h) (.inl fun hx=>absurd ((hat.setSt _).unique hx).2 (by decide))
    ·rcases List.mem_or_eq_of_mem_set hk with hk | rfl
     ·exact hlate k hk
     ·exact .inl rfl
    ·have:wt=1:=by rw [hwt,hp1]
     omega
    ·revert hb
     cases X.wt <;> simp <;> omega
  ·-- it is deaf from here on
   obtain ⟨hr,g',q,hstep,hq⟩:=(show ZK P L.tWg X.wg g w from hz)
   obtain ⟨h6,_,_⟩ | ⟨_,hlv,hdf,_⟩:=hkn
   ·omega
   have hd:Deaf t (nb+j+1)=0:=hdf rfl
   have hes:∀ e∈#[mk .disable],EvShy X.wg e:=fun e he=>by simp at he;subst he;exact .inl ⟨_,rfl,rfl,fun a h=>by cases h⟩
   refine key (k':=4) (m':=q) hstep hes (by omega) Side.refl (fun b hb=>rfl) rfl (hG.wg.far hst (by omega) (by omega) fun _ _ h=>h) hq
    (.inr ⟨by omega,leaves_shy hlv hnw hes fun i e he ht=>?_,fun h=>by omega,fun _ _=>?_⟩) (fun h=>by have:=zg_running (k:=4) hq;rw [h] at this;cases this) (.inl (hG.wg.notFree hst (by omega)))
   ·rcases i with _ | i
    ·simp at he;subst he;exact absurd rfl ht
    ·simp at he
   ·rw [Deaf_own,hd];rfl
  ·-- it says that it's through
   obtain ⟨hr,g',q,hstep,hq⟩:=(show ZR P L.tWg X.wg g w from hz)
   obtain ⟨_,hkh,hd⟩ | ⟨h5,_⟩:=hkn
   ·have hes:∀ e∈#[mk (.releaseMerge (stA X.wg))],EvShy X.wg e:=fun e he=>by simp at he;subst he;exact .inl ⟨_,rfl,rfl,fun a h=>by cases h⟩
    have e0:(t++MemOp.ofEvents (nb+j+1) g.frame.fn g.frame.place #[mk (.releaseMerge (stA X.wg))])[t.size]?=some { g:=nb+j+1,fn:=g.frame.fn,pos:=g.frame.place,act:=.mark (.releaseMerge (stA X.wg)) }:=by
     rw [ofEvents_eq,Array.getElem?_append_right (Nat.le_refl _)];simp [mk];rfl
    have hkb:∀ i,Knows t (nb+j+1) i→Before (t++MemOp.ofEvents (nb+j+1) g.frame.fn g.frame.place #[mk (.releaseMerge (stA X.wg))]) i t.size:=fun i hi=>.inr (hi.hb_new (Nat.le_refl _) e0 rfl)
    refine key (k':=5) (m':=q) hstep hes (by omega) Side.refl (fun b hb=>rfl) rfl (hG.wg.far hst (by omega) (by omega) fun _ _ h=>h) hq
     (.inr ⟨by omega,⟨t.size,⟨act?_of e0,g?_of e0,_,g?_of e0,by rw [deaf_old (Nat.le_refl _)];exact hd⟩,shy_kn hkh hkb (shy_of hes) hnw,fun i hi hc=>?_⟩,fun _=>?_,fun h=>by omega⟩)
     (fun h=>by have:=zg_running (k:=5) hq;rw [h] at this;cases this) (.inl (hG.wg.notFree hst (by omega)))
    ·rcases Nat.lt_or_ge i t.size with hlt | hge
     ·rw [g?_app hlt] at hi
      obtain ⟨op,ho,hog⟩:=Option.map_eq_some_iff.1 (show (t[i]?).map (·.g)=some (nb+j+1) from hi)
      exact hkb i (by have:=knows_own ho;rwa [hog] at this)
     ·have:=g?_lt hi
      rw [ofEvents_eq] at this
      simp at this
      exact .inl (by omega)
    ·rw [Deaf_own,hd];rfl
   ·omega
  ·exact hz.elim
 ·refine key (k':=k+1) (m':=m') hstep (fun e he=>by simp at he) (by omega) Side.refl (fun b hb=>rfl) rfl (hG.wg.same hst fun _ _ h=>h) hz' ?_ (fun h=>by have:=zg_running hz';rw [h] at this;cases this) (.inl (hG.wg.notFree hst (by omega)))
  rw [ofEvents_none,Array.append_empty]
  exact hkn
end
end Go.PB
