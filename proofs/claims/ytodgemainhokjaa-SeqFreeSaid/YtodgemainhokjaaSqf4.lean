/-
  Part 4 of 8.
-/
import Derived.Test.YtodgemainhokjaaSqf3
import Derived.Test.YtodgemainhokjaaSqf2
set_option linter.unusedVariables false
set_option linter.unusedSimpArgs false
namespace Go.Proofs.Ytodgemainhokjaa
open Go Go.PB
attribute [local irreducible] Mo Bin Eql Tr Wo Ap Wle
attribute [local instance] Pass.of_no
instance {P:Program} {t e:Nat} [p:PtT P t e]:Und P t (.pointer e):=⟨p.ok⟩
abbrev mH (cv:Value):Hand:=mHand Try.prog cv 62 119
theorem mo_noBubble {P:Program} {e:Env} {L:List HProp} {f:Nat} {tys:Array TypeId} {ty:TypeId} [x:Exn P f (fun _=>(pure (.bool false):Sem Value))]:Mo P e (.call ⟨.value (.func f),#[],tys⟩) ty L fun v' L'=>v'=.bool false∧L'=L :=
 mo_ext (en:=fun _=>(pure (.bool false):Sem Value)) (args:=[]) (vs:=[]) .nil fun _ _ _ _ st q=>q _ _ _ ⟨rfl,rfl⟩ st
theorem at_enable {cv:Value} {X:GX} {n:Nat} {e:Env} {L:List HProp} {f:FuncId} {fn:Func} {um:FrameMode} {Q:PB.End→FrameMode→Hp→MX→Prop} {R:Value→List HProp→MX→Prop} {ex:Ex} {g:Nat} [xn:Exn Try.prog g (fun _=>(do mark .enable;pure Extern.Race.none_:Sem Value))]
  (hf:Try.prog.funcs[f]?=some fn) (hr:fn.results=#[]) (hQ:∀ v L' x' h',R v L' x'→Star L' h'→Q (.ret v) um h' x') (hex:ex=.ret∨ex=.normal) (hd:X.deaf=true) (hR:R (.tuple #[]) L (.game { X with deaf:=false })) :
  At n e L fun t h=>leave Try.prog (mH cv) f .normal Q ex t ⟨[{ target:=.fn (.func g) [].toArray,args:=([]++[]:List Value).toArray }],um⟩ h (.game X):=by
 intro t h a1 a2 a3
 have key:Wd Try.prog (mH cv) f .normal .returning t ⟨[{ target:=.fn (.func g) [].toArray,args:=([]++[]:List Value).toArray }],um⟩ h (.game X) Q:=by
  refine wd_late rfl fun O hO=>⟨X,rfl,hd,?_,hO _ _ ?_⟩
  ·exact says_enable
  ·have:=at_ret0 (kd:=.normal) (n:=n) (e:=e) (L:=L) (B:=mH cv) (x:=.game { X with deaf:=false }) hf hr hQ (.inl rfl:Ex.ret=.ret∨Ex.ret=.normal) hR
   exact this t h a1 a2 a3
 rcases hex with rfl | rfl
 ·exact key
 ·exact key
section
variable {cv:Value} {X:GX} {L F:List HProp}
theorem uAdd_tr (p:X.wt=.play) (h1:X.ad<1000) (h2:X.ad=X.seats.length+X.nf) (tk:X.tok.isSome=true) (hd:X.deaf=true) :
  Tr Try.prog (mH cv) 86 [.pointer (some ⟨X.wg,0,none⟩),.int .u64 4294967296] L (.game X) fun v L' x'=>∃ m:Nat,m≤X.ad∧v=.int .u64 ((m+1:Nat)*kk)∧L'=L∧x'=.game { X with ad:=X.ad+1 }:=by
 refine tr_of_body Try.func86 rfl Try.ntmps86 (by simp) fun um Q _ hQ=>?_
 simp only [argE,Nat.zero_add,Nat.reduceAdd]
 repeat (first | (fail) | refine we_seq ?_ | (refine wR ?_;try simp only [oS]) | refine wo_nil ?_ | refine wM ?_ | refine wA ?_ | (apply wo_no;exact rfl) | (apply wo_nu;exact rfl) | refine wK ?_ | refine wJ ?_ | refine wN ?_ | refine wD ?_ | (apply wo_po;apply mo_extract;exact rfl;exact rfl;exact gY) | (apply wo_po;apply mo_not;exact rfl;exact gY) | refine wL ?_ | (apply wo_po;apply mo_bin;exact rfl;exact rfl;exact bin_lss;exact gY) | (apply wo_po;apply mo_bin;exact rfl;exact rfl;exact bin_gtr;exact gY) | (apply wo_po;apply mo_bin;exact rfl;exact rfl;exact bin_leq;exact gY) | (apply wo_po;apply mo_bin;exact rfl;exact rfl;exact bin_geq;exact gY) | (apply wo_po;apply mo_bin;exact rfl;exact rfl;exact bin_eql;exact gY) | (apply wo_po;apply mo_bin;exact rfl;exact rfl;exact bin_neq;exact gY) | refine wadd ?_ | refine wsub ?_ | (apply wo_po;apply mo_bin;exact rfl;exact rfl;apply bin_ne;apply eql_ptr_nil;exact gY) | (apply wo_po;apply mo_bin;exact rfl;exact rfl;apply bin_eq;apply eql_ptr_nil;exact gY) | (apply wo_po;apply mo_bin;exact rfl;exact rfl;apply bin_ne;apply eql_slice_nil;exact gY) | (apply wo_po;apply mo_bin;exact rfl;exact rfl;apply bin_eq;apply eql_slice_nil;exact gY) | (apply wo_po;apply mo_bin;exact rfl;exact rfl;apply bin_ne;apply eql_nil_nil;exact gY) | (apply wo_po;apply mo_bin;exact rfl;exact rfl;apply bin_eq;apply eql_nil_nil;exact gY) | (apply wo_po;apply mo_bin;exact rfl;exact rfl;apply bin_ne;apply eql_iface_nil;exact gY) | refine wE ?_ | (apply wo_po;apply mo_conv;exact rfl;(first | exact wrap_i64 (by omega) (by omega) | exact wrap_u64 (by omega) (by omega));exact gY) | (apply wo_po;apply mo_min;exact rfl;exact rfl;exact gY) | refine wT ?_ | refine wF ?_ | refine we_ret ?_ | refine we_skip ?_ | refine we_label ?_ | refine we_block ?_ | refine we_scope ?_ | refine we_exit ?_)
 refine wo_add rfl rfl p h1 h2 tk hd trivial (by decide) fun m hm=>?_
 repeat (first | (fail) | refine we_seq ?_ | (refine wR ?_;try simp only [oS]) | refine wo_nil ?_ | refine wM ?_ | refine wA ?_ | (apply wo_no;exact rfl) | (apply wo_nu;exact rfl) | refine wK ?_ | refine wJ ?_ | refine wN ?_ | refine wD ?_ | (apply wo_po;apply mo_extract;exact rfl;exact rfl;exact gY) | (apply wo_po;apply mo_not;exact rfl;exact gY) | refine wL ?_ | (apply wo_po;apply mo_bin;exact rfl;exact rfl;exact bin_lss;exact gY) | (apply wo_po;apply mo_bin;exact rfl;exact rfl;exact bin_gtr;exact gY) | (apply wo_po;apply mo_bin;exact rfl;exact rfl;exact bin_leq;exact gY) | (apply wo_po;apply mo_bin;exact rfl;exact rfl;exact bin_geq;exact gY) | (apply wo_po;apply mo_bin;exact rfl;exact rfl;exact bin_eql;exact gY) | (apply wo_po;apply mo_bin;exact rfl;exact rfl;exact bin_neq;exact gY) | refine wadd ?_ | refine wsub ?_ | (apply wo_po;apply mo_bin;exact rfl;exact rfl;apply bin_ne;apply eql_ptr_nil;exact gY) | (apply wo_po;apply mo_bin;exact rfl;exact rfl;apply bin_eq;apply eql_ptr_nil;exact gY) | (apply wo_po;apply mo_bin;exact rfl;exact rfl;apply bin_ne;apply eql_slice_nil;exact gY) | (apply wo_po;apply mo_bin;exact rfl;exact rfl;apply bin_eq;apply eql_slice_nil;exact gY) | (apply wo_po;apply mo_bin;exact rfl;exact rfl;apply bin_ne;apply eql_nil_nil;exact gY) | (apply wo_po;apply mo_bin;exact rfl;exact rfl;apply bin_eq;apply eql_nil_nil;exact gY) | (apply wo_po;apply mo_bin;exact rfl;exact rfl;apply bin_ne;apply eql_iface_nil;exact gY) | refine wE ?_ | (apply wo_po;apply mo_conv;exact rfl;(first | exact wrap_i64 (by omega) (by omega) | exact wrap_u64 (by omega) (by omega));exact gY) | (apply wo_po;apply mo_min;exact rfl;exact rfl;exact gY) | refine wT ?_ | refine wF ?_ | refine we_ret ?_ | refine we_skip ?_ | refine we_label ?_ | refine we_block ?_ | refine we_scope ?_ | refine we_exit ?_)
 (first | refine or1 Try.func86 Try.results86 hQ rfl ?_ | refine on1 Try.func86 Try.results86 hQ rfl ?_)
 exact ⟨m,hm,rfl,rfl,rfl⟩
theorem uLook_tr (b:Nat) (p:X.wt=.wait b∨(X.wt=.play∧b=X.ad∧X.ad=X.seats.length+X.nf∧∀ s∈X.seats,s.closed)) (hd:X.deaf=true) :
  Tr Try.prog (mH cv) 47 [.pointer (some ⟨X.wg,0,none⟩)] L (.game X) fun v L' x'=>L'=L∧((∃ m:Nat,0<m∧m≤b∧v=.int .u64 (m*kk)∧x'=.game { X with wt:=.seen m })∨(v=.int .u64 0∧x'=.game { X with wt:=.zero })):=by
 refine tr_of_body Try.func47 rfl Try.ntmps47 (by simp) fun um Q _ hQ=>?_
 simp only [argE,Nat.zero_add,Nat.reduceAdd]
 repeat (first | (fail) | refine we_seq ?_ | (refine wR ?_;try simp only [oS]) | refine wo_nil ?_ | refine wM ?_ | refine wA ?_ | (apply wo_no;exact rfl) | (apply wo_nu;exact rfl) | refine wK ?_ | refine wJ ?_ | refine wN ?_ | refine wD ?_ | (apply wo_po;apply mo_extract;exact rfl;exact rfl;exact gY) | (apply wo_po;apply mo_not;exact rfl;exact gY) | refine wL ?_ | (apply wo_po;apply mo_bin;exact rfl;exact rfl;exact bin_lss;exact gY) | (apply wo_po;apply mo_bin;exact rfl;exact rfl;exact bin_gtr;exact gY) | (apply wo_po;apply mo_bin;exact rfl;exact rfl;exact bin_leq;exact gY) | (apply wo_po;apply mo_bin;exact rfl;exact rfl;exact bin_geq;exact gY) | (apply wo_po;apply mo_bin;exact rfl;exact rfl;exact bin_eql;exact gY) | (apply wo_po;apply mo_bin;exact rfl;exact rfl;exact bin_neq;exact gY) | refine wadd ?_ | refine wsub ?_ | (apply wo_po;apply mo_bin;exact rfl;exact rfl;apply bin_ne;apply eql_ptr_nil;exact gY) | (apply wo_po;apply mo_bin;exact rfl;exact rfl;apply bin_eq;apply eql_ptr_nil;exact gY) | (apply wo_po;apply mo_bin;exact rfl;exact rfl;apply bin_ne;apply eql_slice_nil;exact gY) | (apply wo_po;apply mo_bin;exact rfl;exact rfl;apply bin_eq;apply eql_slice_nil;exact gY) | (apply wo_po;apply mo_bin;exact rfl;exact rfl;apply bin_ne;apply eql_nil_nil;exact gY) | (apply wo_po;apply mo_bin;exact rfl;exact rfl;apply bin_eq;apply eql_nil_nil;exact gY) | (apply wo_po;apply mo_bin;exact rfl;exact rfl;apply bin_ne;apply eql_iface_nil;exact gY) | refine wE ?_ | (apply wo_po;apply mo_conv;exact rfl;(first | exact wrap_i64 (by omega) (by omega) | exact wrap_u64 (by omega) (by omega));exact gY) | (apply wo_po;apply mo_min;exact rfl;exact rfl;exact gY) | refine wT ?_ | refine wF ?_ | refine we_ret ?_ | refine we_skip ?_ | refine we_label ?_ | refine we_block ?_ | refine we_scope ?_ | refine we_exit ?_)
 refine wo_look b rfl p hd trivial (by decide) (fun m h1 h2=>?_) ?_
 ·repeat (first | (fail) | refine we_seq ?_ | (refine wR ?_;try simp only [oS]) | refine wo_nil ?_ | refine wM ?_ | refine wA ?_ | (apply wo_no;exact rfl) | (apply wo_nu;exact rfl) | refine wK ?_ | refine wJ ?_ | refine wN ?_ | refine wD ?_ | (apply wo_po;apply mo_extract;exact rfl;exact rfl;exact gY) | (apply wo_po;apply mo_not;exact rfl;exact gY) | refine wL ?_ | (apply wo_po;apply mo_bin;exact rfl;exact rfl;exact bin_lss;exact gY) | (apply wo_po;apply mo_bin;exact rfl;exact rfl;exact bin_gtr;exact gY) | (apply wo_po;apply mo_bin;exact rfl;exact rfl;exact bin_leq;exact gY) | (apply wo_po;apply mo_bin;exact rfl;exact rfl;exact bin_geq;exact gY) | (apply wo_po;apply mo_bin;exact rfl;exact rfl;exact bin_eql;exact gY) | (apply wo_po;apply mo_bin;exact rfl;exact rfl;exact bin_neq;exact gY) | refine wadd ?_ | refine wsub ?_ | (apply wo_po;apply mo_bin;exact rfl;exact rfl;apply bin_ne;apply eql_ptr_nil;exact gY) | (apply wo_po;apply mo_bin;exact rfl;exact rfl;apply bin_eq;apply eql_ptr_nil;exact gY) | (apply wo_po;apply mo_bin;exact rfl;exact rfl;apply bin_ne;apply eql_slice_nil;exact gY) | (apply wo_po;apply mo_bin;exact rfl;exact rfl;apply bin_eq;apply eql_slice_nil;exact gY) | (apply wo_po;apply mo_bin;exact rfl;exact rfl;apply bin_ne;apply eql_nil_nil;exact gY) | (apply wo_po;apply mo_bin;exact rfl;exact rfl;apply bin_eq;apply eql_nil_nil;exact gY) | (apply wo_po;apply mo_bin;exact rfl;exact rfl;apply bin_ne;apply eql_iface_nil;exact gY) | refine wE ?_ | (apply wo_po;apply mo_conv;exact rfl;(first | exact wrap_i64 (by omega) (by omega) | exact wrap_u64 (by omega) (by omega));exact gY) | (apply wo_po;apply mo_min;exact rfl;exact rfl;exact gY) | refine wT ?_ | refine wF ?_ | refine we_ret ?_ | refine we_skip ?_ | refine we_label ?_ | refine we_block ?_ | refine we_scope ?_ | refine we_exit ?_)
  (first | refine or1 Try.func47 Try.results47 hQ rfl ?_ | refine on1 Try.func47 Try.results47 hQ rfl ?_)
  exact ⟨rfl,.inl ⟨m,h1,h2,rfl,rfl⟩⟩
 ·repeat (first | (fail) | refine we_seq ?_ | (refine wR ?_;try simp only [oS]) | refine wo_nil ?_ | refine wM ?_ | refine wA ?_ | (apply wo_no;exact rfl) | (apply wo_nu;exact rfl) | refine wK ?_ | refine wJ ?_ | refine wN ?_ | refine wD ?_ | (apply wo_po;apply mo_extract;exact rfl;exact rfl;exact gY) | (apply wo_po;apply mo_not;exact rfl;exact gY) | refine wL ?_ | (apply wo_po;apply mo_bin;exact rfl;exact rfl;exact bin_lss;exact gY) | (apply wo_po;apply mo_bin;exact rfl;exact rfl;exact bin_gtr;exact gY) | (apply wo_po;apply mo_bin;exact rfl;exact rfl;exact bin_leq;exact gY) | (apply wo_po;apply mo_bin;exact rfl;exact rfl;exact bin_geq;exact gY) | (apply wo_po;apply mo_bin;exact rfl;exact rfl;exact bin_eql;exact gY) | (apply wo_po;apply mo_bin;exact rfl;exact rfl;exact bin_neq;exact gY) | refine wadd ?_ | refine wsub ?_ | (apply wo_po;apply mo_bin;exact rfl;exact rfl;apply bin_ne;apply eql_ptr_nil;exact gY) | (apply wo_po;apply mo_bin;exact rfl;exact rfl;apply bin_eq;apply eql_ptr_nil;exact gY) | (apply wo_po;apply mo_bin;exact rfl;exact rfl;apply bin_ne;apply eql_slice_nil;exact gY) | (apply wo_po;apply mo_bin;exact rfl;exact rfl;apply bin_eq;apply eql_slice_nil;exact gY) | (apply wo_po;apply mo_bin;exact rfl;exact rfl;apply bin_ne;apply eql_nil_nil;exact gY) | (apply wo_po;apply mo_bin;exact rfl;exact rfl;apply bin_eq;apply eql_nil_nil;exact gY) | (apply wo_po;apply mo_bin;exact rfl;exact rfl;apply bin_ne;apply eql_iface_nil;exact gY) | refine wE ?_ | (apply wo_po;apply mo_conv;exact rfl;(first | exact wrap_i64 (by omega) (by omega) | exact wrap_u64 (by omega) (by omega));exact gY) | (apply wo_po;apply mo_min;exact rfl;exact rfl;exact gY) | refine wT ?_ | refine wF ?_ | refine we_ret ?_ | refine we_skip ?_ | refine we_label ?_ | refine we_block ?_ | refine we_scope ?_ | refine we_exit ?_)
  (first | refine or1 Try.func47 Try.results47 hQ rfl ?_ | refine on1 Try.func47 Try.results47 hQ rfl ?_)
  exact ⟨rfl,.inr ⟨rfl,rfl⟩⟩
theorem uLast_tr (p:X.wt=.woken) (hd:X.deaf=true) :
  Tr Try.prog (mH cv) 47 [.pointer (some ⟨X.wg,0,none⟩)] L (.game X) fun v L' x'=>L'=L∧v=.int .u64 0∧x'=.game { X with wt:=.zero }:=by
 refine tr_of_body Try.func47 rfl Try.ntmps47 (by simp) fun um Q _ hQ=>?_
 simp only [argE,Nat.zero_add,Nat.reduceAdd]
 repeat (first | (fail) | refine we_seq ?_ | (refine wR ?_;try simp only [oS]) | refine wo_nil ?_ | refine wM ?_ | refine wA ?_ | (apply wo_no;exact rfl) | (apply wo_nu;exact rfl) | refine wK ?_ | refine wJ ?_ | refine wN ?_ | refine wD ?_ | (apply wo_po;apply mo_extract;exact rfl;exact rfl;exact gY) | (apply wo_po;apply mo_not;exact rfl;exact gY) | refine wL ?_ | (apply wo_po;apply mo_bin;exact rfl;exact rfl;exact bin_lss;exact gY) | (apply wo_po;apply mo_bin;exact rfl;exact rfl;exact bin_gtr;exact gY) | (apply wo_po;apply mo_bin;exact rfl;exact rfl;exact bin_leq;exact gY) | (apply wo_po;apply mo_bin;exact rfl;exact rfl;exact bin_geq;exact gY) | (apply wo_po;apply mo_bin;exact rfl;exact rfl;exact bin_eql;exact gY) | (apply wo_po;apply mo_bin;exact rfl;exact rfl;exact bin_neq;exact gY) | refine wadd ?_ | refine wsub ?_ | (apply wo_po;apply mo_bin;exact rfl;exact rfl;apply bin_ne;apply eql_ptr_nil;exact gY) | (apply wo_po;apply mo_bin;exact rfl;exact rfl;apply bin_eq;apply eql_ptr_nil;exact gY) | (apply wo_po;apply mo_bin;exact rfl;exact rfl;apply bin_ne;apply eql_slice_nil;exact gY) | (apply wo_po;apply mo_bin;exact rfl;exact rfl;apply bin_eq;apply eql_slice_nil;exact gY) | (apply wo_po;apply mo_bin;exact rfl;exact rfl;apply bin_ne;apply eql_nil_nil;exact gY) | (apply wo_po;apply mo_bin;exact rfl;exact rfl;apply bin_eq;apply eql_nil_nil;exact gY) | (apply wo_po;apply mo_bin;exact rfl;exact rfl;apply bin_ne;apply eql_iface_nil;exact gY) | refine wE ?_ | (apply wo_po;apply mo_conv;exact rfl;(first | exact wrap_i64 (by omega) (by omega) | exact wrap_u64 (by omega) (by omega));exact gY) | (apply wo_po;apply mo_min;exact rfl;exact rfl;exact gY) | refine wT ?_ | refine wF ?_ | refine we_ret ?_ | refine we_skip ?_ | refine we_label ?_ | refine we_block ?_ | refine we_scope ?_ | refine we_exit ?_)
 refine wo_last rfl p hd trivial (by decide) ?_
 repeat (first | (fail) | refine we_seq ?_ | (refine wR ?_;try simp only [oS]) | refine wo_nil ?_ | refine wM ?_ | refine wA ?_ | (apply wo_no;exact rfl) | (apply wo_nu;exact rfl) | refine wK ?_ | refine wJ ?_ | refine wN ?_ | refine wD ?_ | (apply wo_po;apply mo_extract;exact rfl;exact rfl;exact gY) | (apply wo_po;apply mo_not;exact rfl;exact gY) | refine wL ?_ | (apply wo_po;apply mo_bin;exact rfl;exact rfl;exact bin_lss;exact gY) | (apply wo_po;apply mo_bin;exact rfl;exact rfl;exact bin_gtr;exact gY) | (apply wo_po;apply mo_bin;exact rfl;exact rfl;exact bin_leq;exact gY) | (apply wo_po;apply mo_bin;exact rfl;exact rfl;exact bin_geq;exact gY) | (apply wo_po;apply mo_bin;exact rfl;exact rfl;exact bin_eql;exact gY) | (apply wo_po;apply mo_bin;exact rfl;exact rfl;exact bin_neq;exact gY) | refine wadd ?_ | refine wsub ?_ | (apply wo_po;apply mo_bin;exact rfl;exact rfl;apply bin_ne;apply eql_ptr_nil;exact gY) | (apply wo_po;apply mo_bin;exact rfl;exact rfl;apply bin_eq;apply eql_ptr_nil;exact gY) | (apply wo_po;apply mo_bin;exact rfl;exact rfl;apply bin_ne;apply eql_slice_nil;exact gY) | (apply wo_po;apply mo_bin;exact rfl;exact rfl;apply bin_eq;apply eql_slice_nil;exact gY) | (apply wo_po;apply mo_bin;exact rfl;exact rfl;apply bin_ne;apply eql_nil_nil;exact gY) | (apply wo_po;apply mo_bin;exact rfl;exact rfl;apply bin_eq;apply eql_nil_nil;exact gY) | (apply wo_po;apply mo_bin;exact rfl;exact rfl;apply bin_ne;apply eql_iface_nil;exact gY) | refine wE ?_ | (apply wo_po;apply mo_conv;exact rfl;(first | exact wrap_i64 (by omega) (by omega) | exact wrap_u64 (by omega) (by omega));exact gY) | (apply wo_po;apply mo_min;exact rfl;exact rfl;exact gY) | refine wT ?_ | refine wF ?_ | refine we_ret ?_ | refine we_skip ?_ | refine we_label ?_ | refine we_block ?_ | refine we_scope ?_ | refine we_exit ?_)
 (first | refine or1 Try.func47 Try.results47 hQ rfl ?_ | refine on1 Try.func47 Try.results47 hQ rfl ?_)
 exact ⟨rfl,rfl,rfl⟩
theorem uSwap_tr {v:Nat} (hv:0<v) (p:X.wt=.seen v) (hd:X.deaf=true) :
  Tr Try.prog (mH cv) 48 [.pointer (some ⟨X.wg,0,none⟩),.int .u64 (v*kk),.int .u64 (v*kk+1)] L (.game X) fun w L' x'=>L'=L∧((w=.bool true∧x'=.game { X with wt:=.parked })∨∃ b,b<v∧w=.bool false∧x'=.game { X with wt:=.wait b }):=by
 refine tr_of_body Try.func48 rfl Try.ntmps48 (by simp) fun um Q _ hQ=>?_
 simp only [argE,Nat.zero_add,Nat.reduceAdd]
 repeat (first | (fail) | refine we_seq ?_ | (refine wR ?_;try simp only [oS]) | refine wo_nil ?_ | refine wM ?_ | refine wA ?_ | (apply wo_no;exact rfl) | (apply wo_nu;exact rfl) | refine wK ?_ | refine wJ ?_ | refine wN ?_ | refine wD ?_ | (apply wo_po;apply mo_extract;exact rfl;exact rfl;exact gY) | (apply wo_po;apply mo_not;exact rfl;exact gY) | refine wL ?_ | (apply wo_po;apply mo_bin;exact rfl;exact rfl;exact bin_lss;exact gY) | (apply wo_po;apply mo_bin;exact rfl;exact rfl;exact bin_gtr;exact gY) | (apply wo_po;apply mo_bin;exact rfl;exact rfl;exact bin_leq;exact gY) | (apply wo_po;apply mo_bin;exact rfl;exact rfl;exact bin_geq;exact gY) | (apply wo_po;apply mo_bin;exact rfl;exact rfl;exact bin_eql;exact gY) | (apply wo_po;apply mo_bin;exact rfl;exact rfl;exact bin_neq;exact gY) | refine wadd ?_ | refine wsub ?_ | (apply wo_po;apply mo_bin;exact rfl;exact rfl;apply bin_ne;apply eql_ptr_nil;exact gY) | (apply wo_po;apply mo_bin;exact rfl;exact rfl;apply bin_eq;apply eql_ptr_nil;exact gY) | (apply wo_po;apply mo_bin;exact rfl;exact rfl;apply bin_ne;apply eql_slice_nil;exact gY) | (apply wo_po;apply mo_bin;exact rfl;exact rfl;apply bin_eq;apply eql_slice_nil;exact gY) | (apply wo_po;apply mo_bin;exact rfl;exact rfl;apply bin_ne;apply eql_nil_nil;exact gY) | (apply wo_po;apply mo_bin;exact rfl;exact rfl;apply bin_eq;apply eql_nil_nil;exact gY) | (apply wo_po;apply mo_bin;exact rfl;exact rfl;apply bin_ne;apply eql_iface_nil;exact gY) | refine wE ?_ | (apply wo_po;apply mo_conv;exact rfl;(first | exact wrap_i64 (by omega) (by omega) | exact wrap_u64 (by omega) (by omega));exact gY) | (apply wo_po;apply mo_min;exact rfl;exact rfl;exact gY) | refine wT ?_ | refine wF ?_ | refine we_ret ?_ | refine we_skip ?_ | refine we_label ?_ | refine we_block ?_ | refine we_scope ?_ | refine we_exit ?_)
 refine wo_swap rfl rfl rfl hv p hd trivial (by decide) ?_ fun b hb=>?_
 ·repeat (first | (fail) | refine we_seq ?_ | (refine wR ?_;try simp only [oS]) | refine wo_nil ?_ | refine wM ?_ | refine wA ?_ | (apply wo_no;exact rfl) | (apply wo_nu;exact rfl) | refine wK ?_ | refine wJ ?_ | refine wN ?_ | refine wD ?_ | (apply wo_po;apply mo_extract;exact rfl;exact rfl;exact gY) | (apply wo_po;apply mo_not;exact rfl;exact gY) | refine wL ?_ | (apply wo_po;apply mo_bin;exact rfl;exact rfl;exact bin_lss;exact gY) | (apply wo_po;apply mo_bin;exact rfl;exact rfl;exact bin_gtr;exact gY) | (apply wo_po;apply mo_bin;exact rfl;exact rfl;exact bin_leq;exact gY) | (apply wo_po;apply mo_bin;exact rfl;exact rfl;exact bin_geq;exact gY) | (apply wo_po;apply mo_bin;exact rfl;exact rfl;exact bin_eql;exact gY) | (apply wo_po;apply mo_bin;exact rfl;exact rfl;exact bin_neq;exact gY) | refine wadd ?_ | refine wsub ?_ | (apply wo_po;apply mo_bin;exact rfl;exact rfl;apply bin_ne;apply eql_ptr_nil;exact gY) | (apply wo_po;apply mo_bin;exact rfl;exact rfl;apply bin_eq;apply eql_ptr_nil;exact gY) | (apply wo_po;apply mo_bin;exact rfl;exact rfl;apply bin_ne;apply eql_slice_nil;exact gY) | (apply wo_po;apply mo_bin;exact rfl;exact rfl;apply bin_eq;apply eql_slice_nil;exact gY) | (apply wo_po;apply mo_bin;exact rfl;exact rfl;apply bin_ne;apply eql_nil_nil;exact gY) | (apply wo_po;apply mo_bin;exact rfl;exact rfl;apply bin_eq;apply eql_nil_nil;exact gY) | (apply wo_po;apply mo_bin;exact rfl;exact rfl;apply bin_ne;apply eql_iface_nil;exact gY) | refine wE ?_ | (apply wo_po;apply mo_conv;exact rfl;(first | exact wrap_i64 (by omega) (by omega) | exact wrap_u64 (by omega) (by omega));exact gY) | (apply wo_po;apply mo_min;exact rfl;exact rfl;exact gY) | refine wT ?_ | refine wF ?_ | refine we_ret ?_ | refine we_skip ?_ | refine we_label ?_ | refine we_block ?_ | refine we_scope ?_ | refine we_exit ?_)
  (first | refine or1 Try.func48 Try.results48 hQ rfl ?_ | refine on1 Try.func48 Try.results48 hQ rfl ?_)
  exact ⟨rfl,.inl ⟨rfl,rfl⟩⟩
 ·repeat (first | (fail) | refine we_seq ?_ | (refine wR ?_;try simp only [oS]) | refine wo_nil ?_ | refine wM ?_ | refine wA ?_ | (apply wo_no;exact rfl) | (apply wo_nu;exact rfl) | refine wK ?_ | refine wJ ?_ | refine wN ?_ | refine wD ?_ | (apply wo_po;apply mo_extract;exact rfl;exact rfl;exact gY) | (apply wo_po;apply mo_not;exact rfl;exact gY) | refine wL ?_ | (apply wo_po;apply mo_bin;exact rfl;exact rfl;exact bin_lss;exact gY) | (apply wo_po;apply mo_bin;exact rfl;exact rfl;exact bin_gtr;exact gY) | (apply wo_po;apply mo_bin;exact rfl;exact rfl;exact bin_leq;exact gY) | (apply wo_po;apply mo_bin;exact rfl;exact rfl;exact bin_geq;exact gY) | (apply wo_po;apply mo_bin;exact rfl;exact rfl;exact bin_eql;exact gY) | (apply wo_po;apply mo_bin;exact rfl;exact rfl;exact bin_neq;exact gY) | refine wadd ?_ | refine wsub ?_ | (apply wo_po;apply mo_bin;exact rfl;exact rfl;apply bin_ne;apply eql_ptr_nil;exact gY) | (apply wo_po;apply mo_bin;exact rfl;exact rfl;apply bin_eq;apply eql_ptr_nil;exact gY) | (apply wo_po;apply mo_bin;exact rfl;exact rfl;apply bin_ne;apply eql_slice_nil;exact gY) | (apply wo_po;apply mo_bin;exact rfl;exact rfl;apply bin_eq;apply eql_slice_nil;exact gY) | (apply wo_po;apply mo_bin;exact rfl;exact rfl;apply bin_ne;apply eql_nil_nil;exact gY) | (apply wo_po;apply mo_bin;exact rfl;exact rfl;apply bin_eq;apply eql_nil_nil;exact gY) | (apply wo_po;apply mo_bin;exact rfl;exact rfl;apply bin_ne;apply eql_iface_nil;exact gY) | refine wE ?_ | (apply wo_po;apply mo_conv;exact rfl;(first | exact wrap_i64 (by omega) (by omega) | exact wrap_u64 (by omega) (by omega));exact gY) | (apply wo_po;apply mo_min;exact rfl;exact rfl;exact gY) | refine wT ?_ | refine wF ?_ | refine we_ret ?_ | refine we_skip ?_ | refine we_label ?_ | refine we_block ?_ | refine we_scope ?_ | refine we_exit ?_)
  (first | refine or1 Try.func48 Try.results48 hQ rfl ?_ | refine on1 Try.func48 Try.results48 hQ rfl ?_)
  exact ⟨rfl,.inr ⟨b,hb,rfl,rfl⟩⟩
theorem kk_bits {m:Nat} (h:m<1002):IntKind.u64.wrap (BitVec.ofInt IntKind.u64.bits ((m:Int)*kk) &&& BitVec.ofInt IntKind.u64.bits (2147483648:Int)).toNat=0 ∧
  IntKind.u64.wrap (BitVec.ofInt IntKind.u64.bits ((m:Int)*kk) &&& BitVec.ofInt IntKind.u64.bits (2147483647:Int)).toNat=0∧((m:Int)*kk).fdiv (2^(min (32:Int).toNat IntKind.u64.bits))=m∧IntKind.i32.wrap (m:Int)=m:=by
 have key:∀ m∈List.range 1002,IntKind.u64.wrap (BitVec.ofInt IntKind.u64.bits ((m:Int)*kk) &&& BitVec.ofInt IntKind.u64.bits (2147483648:Int)).toNat=0 ∧
  IntKind.u64.wrap (BitVec.ofInt IntKind.u64.bits ((m:Int)*kk) &&& BitVec.ofInt IntKind.u64.bits (2147483647:Int)).toNat=0∧((m:Int)*kk).fdiv (2^(min (32:Int).toNat IntKind.u64.bits))=m∧IntKind.i32.wrap (m:Int)=m:=by decide +kernel
 exact key m (List.mem_range.2 h)
theorem wgAdd_tr (p:X.wt=.play) (h1:X.ad<1000) (h2:X.ad=X.seats.length+X.nf) (tk:X.tok.isSome=true) (hd:X.deaf=false) (hs:∀ h,Star L h→h.shp X.wg=some (119,2)) :
  Tr Try.prog (mH cv) 60 [.pointer (some ⟨X.wg,0,none⟩),.int .i64 1] L (.game X) fun v L' x'=>v=.tuple #[]∧L'=L∧x'=.game { X with ad:=X.ad+1 }:=by
 refine tr_of_body Try.func60 rfl Try.ntmps60 (by simp) fun um Q _ hQ=>?_
 simp only [argE,Nat.zero_add,Nat.reduceAdd]
 repeat (first | (fail) | refine wlssT ?_ | refine wlssF ?_ | refine wleqT ?_ | refine wleqF ?_ | refine wgtrT ?_ | refine wgtrF ?_ | refine wgeqT ?_ | refine wgeqF ?_ | refine weqlT ?_ | refine weqlF ?_ | refine wneqT ?_ | refine wneqF ?_ | refine we_seq ?_ | (refine wR ?_;try simp only [oS]) | refine wo_nil ?_ | refine wM ?_ | refine wA ?_ | (apply wo_no;exact rfl) | (apply wo_nu;exact rfl) | refine wK ?_ | refine wJ ?_ | refine wN ?_ | refine wD ?_ | (apply wo_po;apply mo_extract;exact rfl;exact rfl;exact gY) | (apply wo_po;apply mo_not;exact rfl;exact gY) | refine wL ?_ | (apply wo_po;apply mo_bin;exact rfl;exact rfl;exact bin_lss;exact gY) | (apply wo_po;apply mo_bin;exact rfl;exact rfl;exact bin_gtr;exact gY) | (apply wo_po;apply mo_bin;exact rfl;exact rfl;exact bin_leq;exact gY) | (apply wo_po;apply mo_bin;exact rfl;exact rfl;exact bin_geq;exact gY) | (apply wo_po;apply mo_bin;exact rfl;exact rfl;exact bin_eql;exact gY) | (apply wo_po;apply mo_bin;exact rfl;exact rfl;exact bin_neq;exact gY) | refine wadd ?_ | refine wsub ?_ | (apply wo_po;apply mo_bin;exact rfl;exact rfl;apply bin_ne;apply eql_ptr_nil;exact gY) | (apply wo_po;apply mo_bin;exact rfl;exact rfl;apply bin_eq;apply eql_ptr_nil;exact gY) | (apply wo_po;apply mo_bin;exact rfl;exact rfl;apply bin_ne;apply eql_slice_nil;exact gY) | (apply wo_po;apply mo_bin;exact rfl;exact rfl;apply bin_eq;apply eql_slice_nil;exact gY) | (apply wo_po;apply mo_bin;exact rfl;exact rfl;apply bin_ne;apply eql_nil_nil;exact gY) | (apply wo_po;apply mo_bin;exact rfl;exact rfl;apply bin_eq;apply eql_nil_nil;exact gY) | (apply wo_po;apply mo_bin;exact rfl;exact rfl;apply bin_ne;apply eql_iface_nil;exact gY) | refine wE ?_ | (apply wo_po;apply mo_conv;exact rfl;(first | exact wrap_i64 (by omega) (by omega) | exact wrap_u64 (by omega) (by omega));exact gY) | (apply wo_po;apply mo_min;exact rfl;exact rfl;exact gY) | refine wT ?_ | refine wF ?_ | refine we_ret ?_ | refine we_skip ?_ | refine we_label ?_ | refine we_block ?_ | refine we_scope ?_ | refine we_exit ?_)
 refine wo_disable trivial (by decide) hd ?_
 repeat (first | (fail) | refine wlssT ?_ | refine wlssF ?_ | refine wleqT ?_ | refine wleqF ?_ | refine wgtrT ?_ | refine wgtrF ?_ | refine wgeqT ?_ | refine wgeqF ?_ | refine weqlT ?_ | refine weqlF ?_ | refine wneqT ?_ | refine wneqF ?_ | refine we_seq ?_ | (refine wR ?_;try simp only [oS]) | refine wo_nil ?_ | refine wM ?_ | refine wA ?_ | (apply wo_no;exact rfl) | (apply wo_nu;exact rfl) | refine wK ?_ | refine wJ ?_ | refine wN ?_ | refine wD ?_ | (apply wo_po;apply mo_extract;exact rfl;exact rfl;exact gY) | (apply wo_po;apply mo_not;exact rfl;exact gY) | refine wL ?_ | (apply wo_po;apply mo_bin;exact rfl;exact rfl;exact bin_lss;exact gY) | (apply wo_po;apply mo_bin;exact rfl;exact rfl;exact bin_gtr;exact gY) | (apply wo_po;apply mo_bin;exact rfl;exact rfl;exact bin_leq;exact gY) | (apply wo_po;apply mo_bin;exact rfl;exact rfl;exact bin_geq;exact gY) | (apply wo_po;apply mo_bin;exact rfl;exact rfl;exact bin_eql;exact gY) | (apply wo_po;apply mo_bin;exact rfl;exact rfl;exact bin_neq;exact gY) | refine wadd ?_ | refine wsub ?_ | (apply wo_po;apply mo_bin;exact rfl;exact rfl;apply bin_ne;apply eql_ptr_nil;exact gY) | (apply wo_po;apply mo_bin;exact rfl;exact rfl;apply bin_eq;apply eql_ptr_nil;exact gY) | (apply wo_po;apply mo_bin;exact rfl;exact rfl;apply bin_ne;apply eql_slice_nil;exact gY) | (apply wo_po;apply mo_bin;exact rfl;exact rfl;apply bin_eq;apply eql_slice_nil;exact gY) | (apply wo_po;apply mo_bin;exact rfl;exact rfl;apply bin_ne;apply eql_nil_nil;exact gY) | (apply wo_po;apply mo_bin;exact rfl;exact rfl;apply bin_eq;apply eql_nil_nil;exact gY) | (apply wo_po;apply mo_bin;exact rfl;exact rfl;apply bin_ne;apply eql_iface_nil;exact gY) | refine wE ?_ | (apply wo_po;apply mo_conv;exact rfl;(first | exact wrap_i64 (by omega) (by omega) | exact wrap_u64 (by omega) (by omega));exact gY) | (apply wo_po;apply mo_min;exact rfl;exact rfl;exact gY) | refine wT ?_ | refine wF ?_ | refine we_ret ?_ | refine we_skip ?_ | refine we_label ?_ | refine we_block ?_ | refine we_scope ?_ | refine we_exit ?_)
 refine wo_defer (first:=[]) (cap:=[]) (vs:=[]) rfl .nil trivial ?_
 repeat (first | (apply wo_po;apply mo_noBubble;exact trivial) | refine wlssT ?_ | refine wlssF ?_ | refine wleqT ?_ | refine wleqF ?_ | refine wgtrT ?_ | refine wgtrF ?_ | refine wgeqT ?_ | refine wgeqF ?_ | refine weqlT ?_ | refine weqlF ?_ | refine wneqT ?_ | refine wneqF ?_ | refine we_seq ?_ | (refine wR ?_;try simp only [oS]) | refine wo_nil ?_ | refine wM ?_ | refine wA ?_ | (apply wo_no;exact rfl) | (apply wo_nu;exact rfl) | refine wK ?_ | refine wJ ?_ | refine wN ?_ | refine wD ?_ | (apply wo_po;apply mo_extract;exact rfl;exact rfl;exact gY) | (apply wo_po;apply mo_not;exact rfl;exact gY) | refine wL ?_ | (apply wo_po;apply mo_bin;exact rfl;exact rfl;exact bin_lss;exact gY) | (apply wo_po;apply mo_bin;exact rfl;exact rfl;exact bin_gtr;exact gY) | (apply wo_po;apply mo_bin;exact rfl;exact rfl;exact bin_leq;exact gY) | (apply wo_po;apply mo_bin;exact rfl;exact rfl;exact bin_geq;exact gY) | (apply wo_po;apply mo_bin;exact rfl;exact rfl;exact bin_eql;exact gY) | (apply wo_po;apply mo_bin;exact rfl;exact rfl;exact bin_neq;exact gY) | refine wadd ?_ | refine wsub ?_ | (apply wo_po;apply mo_bin;exact rfl;exact rfl;apply bin_ne;apply eql_ptr_nil;exact gY) | (apply wo_po;apply mo_bin;exact rfl;exact rfl;apply bin_eq;apply eql_ptr_nil;exact gY) | (apply wo_po;apply mo_bin;exact rfl;exact rfl;apply bin_ne;apply eql_slice_nil;exact gY) | (apply wo_po;apply mo_bin;exact rfl;exact rfl;apply bin_eq;apply eql_slice_nil;exact gY) | (apply wo_po;apply mo_bin;exact rfl;exact rfl;apply bin_ne;apply eql_nil_nil;exact gY) | (apply wo_po;apply mo_bin;exact rfl;exact rfl;apply bin_eq;apply eql_nil_nil;exact gY) | (apply wo_po;apply mo_bin;exact rfl;exact rfl;apply bin_ne;apply eql_iface_nil;exact gY) | refine wE ?_ | (apply wo_po;apply mo_conv;exact rfl;(first | exact wrap_i64 (by omega) (by omega) | exact wrap_u64 (by omega) (by omega));exact gY) | (apply wo_po;apply mo_min;exact rfl;exact rfl;exact gY) | refine wT ?_ | refine wF ?_ | refine we_ret ?_ | refine we_skip ?_ | refine we_label ?_ | refine we_block ?_ | refine we_scope ?_ | refine we_exit ?_)
 have c1:IntKind.u64.wrap (1:Int)=1:=by decide
 have c2:IntKind.u64.wrap ((1:Int)*2^(min (32:Int).toNat IntKind.u64.bits))=4294967296:=by decide
 repeat (first | (apply wo_po;apply mo_conv;exact rfl;exact c1;exact trivial) | (apply wo_po;apply mo_bin;exact rfl;exact rfl;apply bin_shl;omega;exact c2;exact trivial) | refine wlssT ?_ | refine wlssF ?_ | refine wleqT ?_ | refine wleqF ?_ | refine wgtrT ?_ | refine wgtrF ?_ | refine wgeqT ?_ | refine wgeqF ?_ | refine weqlT ?_ | refine weqlF ?_ | refine wneqT ?_ | refine wneqF ?_ | refine we_seq ?_ | (refine wR ?_;try simp only [oS]) | refine wo_nil ?_ | refine wM ?_ | refine wA ?_ | (apply wo_no;exact rfl) | (apply wo_nu;exact rfl) | refine wK ?_ | refine wJ ?_ | refine wN ?_ | refine wD ?_ | (apply wo_po;apply mo_extract;exact rfl;exact rfl;exact gY) | (apply wo_po;apply mo_not;exact rfl;exact gY) | refine wL ?_ | (apply wo_po;apply mo_bin;exact rfl;exact rfl;exact bin_lss;exact gY) | (apply wo_po;apply mo_bin;exact rfl;exact rfl;exact bin_gtr;exact gY) | (apply wo_po;apply mo_bin;exact rfl;exact rfl;exact bin_leq;exact gY) | (apply wo_po;apply mo_bin;exact rfl;exact rfl;exact bin_geq;exact gY) | (apply wo_po;apply mo_bin;exact rfl;exact rfl;exact bin_eql;exact gY) | (apply wo_po;apply mo_bin;exact rfl;exact rfl;exact bin_neq;exact gY) | refine wadd ?_ | refine wsub ?_ | (apply wo_po;apply mo_bin;exact rfl;exact rfl;apply bin_ne;apply eql_ptr_nil;exact gY) | (apply wo_po;apply mo_bin;exact rfl;exact rfl;apply bin_eq;apply eql_ptr_nil;exact gY) | (apply wo_po;apply mo_bin;exact rfl;exact rfl;apply bin_ne;apply eql_slice_nil;exact gY) | (apply wo_po;apply mo_bin;exact rfl;exact rfl;apply bin_eq;apply eql_slice_nil;exact gY) | (apply wo_po;apply mo_bin;exact rfl;exact rfl;apply bin_ne;apply eql_nil_nil;exact gY) | (apply wo_po;apply mo_bin;exact rfl;exact rfl;apply bin_eq;apply eql_nil_nil;exact gY) | (apply wo_po;apply mo_bin;exact rfl;exact rfl;apply bin_ne;apply eql_iface_nil;exact gY) | refine wE ?_ | (apply wo_po;apply mo_conv;exact rfl;(first | exact wrap_i64 (by omega) (by omega) | exact wrap_u64 (by omega) (by omega));exact gY) | (apply wo_po;apply mo_min;exact rfl;exact rfl;exact gY) | refine wT ?_ | refine wF ?_ | refine we_ret ?_ | refine we_skip ?_ | refine we_label ?_ | refine we_block ?_ | refine we_scope ?_ | refine we_exit ?_)
 refine wo_call (.cons rfl (.cons rfl .nil)) trivial (uAdd_tr (X:={ X with deaf:=true }) p h1 h2 tk rfl) ?_
 rintro v1 L1 x1 ⟨m,hm,rfl,rfl,rfl⟩
 replace hm:m≤X.ad:=hm
 obtain ⟨b1,b2,b3,b4⟩:=kk_bits (m:=m+1) (by omega)
 have b5:IntKind.u32.wrap 0=0:=by decide
 have b6:IntKind.i32.wrap 1=1:=by decide
 repeat (first | (apply wo_po;apply mo_bin;exact rfl;exact rfl;apply bin_and;(first | exact b1 | exact b2);exact trivial) | (apply wo_po;apply mo_bin;exact rfl;exact rfl;apply bin_shr;omega;exact b3;exact trivial) | (apply wo_po;apply mo_conv;exact rfl;(first | exact b4 | exact b5 | exact b6);exact gY) | refine wlssT ?_ | refine wlssF ?_ | refine wleqT ?_ | refine wleqF ?_ | refine wgtrT ?_ | refine wgtrF ?_ | refine wgeqT ?_ | refine wgeqF ?_ | refine weqlT ?_ | refine weqlF ?_ | refine wneqT ?_ | refine wneqF ?_ | refine we_seq ?_ | (refine wR ?_;try simp only [oS]) | refine wo_nil ?_ | refine wM ?_ | refine wA ?_ | (apply wo_no;exact rfl) | (apply wo_nu;exact rfl) | refine wK ?_ | refine wJ ?_ | refine wN ?_ | refine wD ?_ | (apply wo_po;apply mo_extract;exact rfl;exact rfl;exact gY) | (apply wo_po;apply mo_not;exact rfl;exact gY) | refine wL ?_ | (apply wo_po;apply mo_bin;exact rfl;exact rfl;exact bin_lss;exact gY) | (apply wo_po;apply mo_bin;exact rfl;exact rfl;exact bin_gtr;exact gY) | (apply wo_po;apply mo_bin;exact rfl;exact rfl;exact bin_leq;exact gY) | (apply wo_po;apply mo_bin;exact rfl;exact rfl;exact bin_geq;exact gY) | (apply wo_po;apply mo_bin;exact rfl;exact rfl;exact bin_eql;exact gY) | (apply wo_po;apply mo_bin;exact rfl;exact rfl;exact bin_neq;exact gY) | refine wadd ?_ | refine wsub ?_ | (apply wo_po;apply mo_bin;exact rfl;exact rfl;apply bin_ne;apply eql_ptr_nil;exact gY) | (apply wo_po;apply mo_bin;exact rfl;exact rfl;apply bin_eq;apply eql_ptr_nil;exact gY) | (apply wo_po;apply mo_bin;exact rfl;exact rfl;apply bin_ne;apply eql_slice_nil;exact gY) | (apply wo_po;apply mo_bin;exact rfl;exact rfl;apply bin_eq;apply eql_slice_nil;exact gY) | (apply wo_po;apply mo_bin;exact rfl;exact rfl;apply bin_ne;apply eql_nil_nil;exact gY) | (apply wo_po;apply mo_bin;exact rfl;exact rfl;apply bin_eq;apply eql_nil_nil;exact gY) | (apply wo_po;apply mo_bin;exact rfl;exact rfl;apply bin_ne;apply eql_iface_nil;exact gY) | refine wE ?_ | (apply wo_po;apply mo_conv;exact rfl;(first | exact wrap_i64 (by omega) (by omega) | exact wrap_u64 (by omega) (by omega));exact gY) | (apply wo_po;apply mo_min;exact rfl;exact rfl;exact gY) | refine wT ?_ | refine wF ?_ | refine we_ret ?_ | refine we_skip ?_ | refine we_label ?_ | refine we_block ?_ | refine we_scope ?_ | refine we_exit ?_)
 by_cases hm0:m=0
 ·repeat (first | (apply wo_po;apply mo_convPUo (c:=1) (m:=2) (by decide:(1:Nat)≠0);exact rfl;exact hs;omega;exact trivial) | refine wlssT ?_ | refine wlssF ?_ | refine wleqT ?_ | refine wleqF ?_ | refine wgtrT ?_ | refine wgtrF ?_ | refine wgeqT ?_ | refine wgeqF ?_ | refine weqlT ?_ | refine weqlF ?_ | refine wneqT ?_ | refine wneqF ?_ | refine we_seq ?_ | (refine wR ?_;try simp only [oS]) | refine wo_nil ?_ | refine wM ?_ | refine wA ?_ | (apply wo_no;exact rfl) | (apply wo_nu;exact rfl) | refine wK ?_ | refine wJ ?_ | refine wN ?_ | refine wD ?_ | (apply wo_po;apply mo_extract;exact rfl;exact rfl;exact gY) | (apply wo_po;apply mo_not;exact rfl;exact gY) | refine wL ?_ | (apply wo_po;apply mo_bin;exact rfl;exact rfl;exact bin_lss;exact gY) | (apply wo_po;apply mo_bin;exact rfl;exact rfl;exact bin_gtr;exact gY) | (apply wo_po;apply mo_bin;exact rfl;exact rfl;exact bin_leq;exact gY) | (apply wo_po;apply mo_bin;exact rfl;exact rfl;exact bin_geq;exact gY) | (apply wo_po;apply mo_bin;exact rfl;exact rfl;exact bin_eql;exact gY) | (apply wo_po;apply mo_bin;exact rfl;exact rfl;exact bin_neq;exact gY) | refine wadd ?_ | refine wsub ?_ | (apply wo_po;apply mo_bin;exact rfl;exact rfl;apply bin_ne;apply eql_ptr_nil;exact gY) | (apply wo_po;apply mo_bin;exact rfl;exact rfl;apply bin_eq;apply eql_ptr_nil;exact gY) | (apply wo_po;apply mo_bin;exact rfl;exact rfl;apply bin_ne;apply eql_slice_nil;exact gY) | (apply wo_po;apply mo_bin;exact rfl;exact rfl;apply bin_eq;apply eql_slice_nil;exact gY) | (apply wo_po;apply mo_bin;exact rfl;exact rfl;apply bin_ne;apply eql_nil_nil;exact gY) | (apply wo_po;apply mo_bin;exact rfl;exact rfl;apply bin_eq;apply eql_nil_nil;exact gY) | (apply wo_po;apply mo_bin;exact rfl;exact rfl;apply bin_ne;apply eql_iface_nil;exact gY) | refine wE ?_ | (apply wo_po;apply mo_conv;exact rfl;(first | exact wrap_i64 (by omega) (by omega) | exact wrap_u64 (by omega) (by omega));exact gY) | (apply wo_po;apply mo_min;exact rfl;exact rfl;exact gY) | refine wT ?_ | refine wF ?_ | refine we_ret ?_ | refine we_skip ?_ | refine we_label ?_ | refine we_block ?_ | refine we_scope ?_ | refine we_exit ?_)
  apply wo_mark (X:={ X with deaf:=true,ad:=X.ad+1 }) (m:=Mark.read)
  exact rfl
  exact .inl rfl
  exact trivial
  decide
  repeat (first | (fail) | refine wlssT ?_ | refine wlssF ?_ | refine wleqT ?_ | refine wleqF ?_ | refine wgtrT ?_ | refine wgtrF ?_ | refine wgeqT ?_ | refine wgeqF ?_ | refine weqlT ?_ | refine weqlF ?_ | refine wneqT ?_ | refine wneqF ?_ | refine we_seq ?_ | (refine wR ?_;try simp only [oS]) | refine wo_nil ?_ | refine wM ?_ | refine wA ?_ | (apply wo_no;exact rfl) | (apply wo_nu;exact rfl) | refine wK ?_ | refine wJ ?_ | refine wN ?_ | refine wD ?_ | (apply wo_po;apply mo_extract;exact rfl;exact rfl;exact gY) | (apply wo_po;apply mo_not;exact rfl;exact gY) | refine wL ?_ | (apply wo_po;apply mo_bin;exact rfl;exact rfl;exact bin_lss;exact gY) | (apply wo_po;apply mo_bin;exact rfl;exact rfl;exact bin_gtr;exact gY) | (apply wo_po;apply mo_bin;exact rfl;exact rfl;exact bin_leq;exact gY) | (apply wo_po;apply mo_bin;exact rfl;exact rfl;exact bin_geq;exact gY) | (apply wo_po;apply mo_bin;exact rfl;exact rfl;exact bin_eql;exact gY) | (apply wo_po;apply mo_bin;exact rfl;exact rfl;exact bin_neq;exact gY) | refine wadd ?_ | refine wsub ?_ | (apply wo_po;apply mo_bin;exact rfl;exact rfl;apply bin_ne;apply eql_ptr_nil;exact gY) | (apply wo_po;apply mo_bin;exact rfl;exact rfl;apply bin_eq;apply eql_ptr_nil;exact gY) | (apply wo_po;apply mo_bin;exact rfl;exact rfl;apply bin_ne;apply eql_slice_nil;exact gY) | (apply wo_po;apply mo_bin;exact rfl;exact rfl;apply bin_eq;apply eql_slice_nil;exact gY) | (apply wo_po;apply mo_bin;exact rfl;exact rfl;apply bin_ne;apply eql_nil_nil;exact gY) | (apply wo_po;apply mo_bin;exact rfl;exact rfl;apply bin_eq;apply eql_nil_nil;exact gY) | (apply wo_po;apply mo_bin;exact rfl;exact rfl;apply bin_ne;apply eql_iface_nil;exact gY) | refine wE ?_ | (apply wo_po;apply mo_conv;exact rfl;(first | exact wrap_i64 (by omega) (by omega) | exact wrap_u64 (by omega) (by omega));exact gY) | (apply wo_po;apply mo_min;exact rfl;exact rfl;exact gY) | refine wT ?_ | refine wF ?_ | refine we_ret ?_ | refine we_skip ?_ | refine we_label ?_ | refine we_block ?_ | refine we_scope ?_ | refine we_exit ?_)
  refine at_enable (X:={ X with deaf:=true,ad:=X.ad+1 }) Try.func60 Try.results60 hQ (.inl rfl) rfl ?_
  exact ⟨rfl,rfl,by rw [← hd]⟩
 ·repeat (first | (fail) | refine wlssT ?_ | refine wlssF ?_ | refine wleqT ?_ | refine wleqF ?_ | refine wgtrT ?_ | refine wgtrF ?_ | refine wgeqT ?_ | refine wgeqF ?_ | refine weqlT ?_ | refine weqlF ?_ | refine wneqT ?_ | refine wneqF ?_ | refine we_seq ?_ | (refine wR ?_;try simp only [oS]) | refine wo_nil ?_ | refine wM ?_ | refine wA ?_ | (apply wo_no;exact rfl) | (apply wo_nu;exact rfl) | refine wK ?_ | refine wJ ?_ | refine wN ?_ | refine wD ?_ | (apply wo_po;apply mo_extract;exact rfl;exact rfl;exact gY) | (apply wo_po;apply mo_not;exact rfl;exact gY) | refine wL ?_ | (apply wo_po;apply mo_bin;exact rfl;exact rfl;exact bin_lss;exact gY) | (apply wo_po;apply mo_bin;exact rfl;exact rfl;exact bin_gtr;exact gY) | (apply wo_po;apply mo_bin;exact rfl;exact rfl;exact bin_leq;exact gY) | (apply wo_po;apply mo_bin;exact rfl;exact rfl;exact bin_geq;exact gY) | (apply wo_po;apply mo_bin;exact rfl;exact rfl;exact bin_eql;exact gY) | (apply wo_po;apply mo_bin;exact rfl;exact rfl;exact bin_neq;exact gY) | refine wadd ?_ | refine wsub ?_ | (apply wo_po;apply mo_bin;exact rfl;exact rfl;apply bin_ne;apply eql_ptr_nil;exact gY) | (apply wo_po;apply mo_bin;exact rfl;exact rfl;apply bin_eq;apply eql_ptr_nil;exact gY) | (apply wo_po;apply mo_bin;exact rfl;exact rfl;apply bin_ne;apply eql_slice_nil;exact gY) | (apply wo_po;apply mo_bin;exact rfl;exact rfl;apply bin_eq;apply eql_slice_nil;exact gY) | (apply wo_po;apply mo_bin;exact rfl;exact rfl;apply bin_ne;apply eql_nil_nil;exact gY) | (apply wo_po;apply mo_bin;exact rfl;exact rfl;apply bin_eq;apply eql_nil_nil;exact gY) | (apply wo_po;apply mo_bin;exact rfl;exact rfl;apply bin_ne;apply eql_iface_nil;exact gY) | refine wE ?_ | (apply wo_po;apply mo_conv;exact rfl;(first | exact wrap_i64 (by omega) (by omega) | exact wrap_u64 (by omega) (by omega));exact gY) | (apply wo_po;apply mo_min;exact rfl;exact rfl;exact gY) | refine wT ?_ | refine wF ?_ | refine we_ret ?_ | refine we_skip ?_ | refine we_label ?_ | refine we_block ?_ | refine we_scope ?_ | refine we_exit ?_)
  refine at_enable (X:={ X with deaf:=true,ad:=X.ad+1 }) Try.func60 Try.results60 hQ (.inl rfl) rfl ?_
  exact ⟨rfl,rfl,by rw [← hd]⟩
def waitX (X:GX):Option Nat→GX
 | none=>{ X with deaf:=true }
 | some b=>{ X with deaf:=true,wt:=.wait b }
def WaitI (X:GX) (ptr:Value) (L:List HProp):PB.Inv (Option Nat) MX where
 e:=fun _=>[(0,ptr)]
 L:=fun _=>L
 x:=fun b=>.game (waitX X b)
 ok:=fun b=>∀ c,b=some c→c≤X.ad
def waitM (X:GX):Option Nat→Nat
 | none=>X.ad+1
 | some b=>b
theorem wgWait_tr (p:X.wt=.play) (h1:X.ad<1000) (h2:X.ad=X.seats.length+X.nf) (hc:∀ s∈X.seats,s.closed) (hn:∀ d,X.free=some d→X.nf=d.q0.length) (hd:X.deaf=false) (hs:∀ h,Star L h→h.shp X.wg=some (119,2)) :
  Tr Try.prog (mH cv) 53 [.pointer (some ⟨X.wg,0,none⟩)] L (.game X) fun v L' x'=>v=.tuple #[]∧L'=X.ends::L∧x'=.idle:=by
 have b5:IntKind.u32.wrap 0=0:=by decide
 refine tr_of_body Try.func53 rfl Try.ntmps53 (by simp) fun um Q _ hQ=>?_
 simp only [argE,Nat.zero_add,Nat.reduceAdd]
 repeat (first | (fail) | refine wlssT ?_ | refine wlssF ?_ | refine wleqT ?_ | refine wleqF ?_ | refine wgtrT ?_ | refine wgtrF ?_ | refine wgeqT ?_ | refine wgeqF ?_ | refine weqlT ?_ | refine weqlF ?_ | refine wneqT ?_ | refine wneqF ?_ | refine we_seq ?_ | (refine wR ?_;try simp only [oS]) | refine wo_nil ?_ | refine wM ?_ | refine wA ?_ | (apply wo_no;exact rfl) | (apply wo_nu;exact rfl) | refine wK ?_ | refine wJ ?_ | refine wN ?_ | refine wD ?_ | (apply wo_po;apply mo_extract;exact rfl;exact rfl;exact gY) | (apply wo_po;apply mo_not;exact rfl;exact gY) | refine wL ?_ | (apply wo_po;apply mo_bin;exact rfl;exact rfl;exact bin_lss;exact gY) | (apply wo_po;apply mo_bin;exact rfl;exact rfl;exact bin_gtr;exact gY) | (apply wo_po;apply mo_bin;exact rfl;exact rfl;exact bin_leq;exact gY) | (apply wo_po;apply mo_bin;exact rfl;exact rfl;exact bin_geq;exact gY) | (apply wo_po;apply mo_bin;exact rfl;exact rfl;exact bin_eql;exact gY) | (apply wo_po;apply mo_bin;exact rfl;exact rfl;exact bin_neq;exact gY) | refine wadd ?_ | refine wsub ?_ | (apply wo_po;apply mo_bin;exact rfl;exact rfl;apply bin_ne;apply eql_ptr_nil;exact gY) | (apply wo_po;apply mo_bin;exact rfl;exact rfl;apply bin_eq;apply eql_ptr_nil;exact gY) | (apply wo_po;apply mo_bin;exact rfl;exact rfl;apply bin_ne;apply eql_slice_nil;exact gY) | (apply wo_po;apply mo_bin;exact rfl;exact rfl;apply bin_eq;apply eql_slice_nil;exact gY) | (apply wo_po;apply mo_bin;exact rfl;exact rfl;apply bin_ne;apply eql_nil_nil;exact gY) | (apply wo_po;apply mo_bin;exact rfl;exact rfl;apply bin_eq;apply eql_nil_nil;exact gY) | (apply wo_po;apply mo_bin;exact rfl;exact rfl;apply bin_ne;apply eql_iface_nil;exact gY) | refine wE ?_ | (apply wo_po;apply mo_conv;exact rfl;(first | exact wrap_i64 (by omega) (by omega) | exact wrap_u64 (by omega) (by omega));exact gY) | (apply wo_po;apply mo_min;exact rfl;exact rfl;exact gY) | refine wT ?_ | refine wF ?_ | refine we_ret ?_ | refine we_skip ?_ | refine we_label ?_ | refine we_block ?_ | refine we_scope ?_ | refine we_exit ?_)
 refine wo_disable trivial (by decide) hd ?_
 repeat (first | (fail) | refine wlssT ?_ | refine wlssF ?_ | refine wleqT ?_ | refine wleqF ?_ | refine wgtrT ?_ | refine wgtrF ?_ | refine wgeqT ?_ | refine wgeqF ?_ | refine weqlT ?_ | refine weqlF ?_ | refine wneqT ?_ | refine wneqF ?_ | refine we_seq ?_ | (refine wR ?_;try simp only [oS]) | refine wo_nil ?_ | refine wM ?_ | refine wA ?_ | (apply wo_no;exact rfl) | (apply wo_nu;exact rfl) | refine wK ?_ | refine wJ ?_ | refine wN ?_ | refine wD ?_ | (apply wo_po;apply mo_extract;exact rfl;exact rfl;exact gY) | (apply wo_po;apply mo_not;exact rfl;exact gY) | refine wL ?_ | (apply wo_po;apply mo_bin;exact rfl;exact rfl;exact bin_lss;exact gY) | (apply wo_po;apply mo_bin;exact rfl;exact rfl;exact bin_gtr;exact gY) | (apply wo_po;apply mo_bin;exact rfl;exact rfl;exact bin_leq;exact gY) | (apply wo_po;apply mo_bin;exact rfl;exact rfl;exact bin_geq;exact gY) | (apply wo_po;apply mo_bin;exact rfl;exact rfl;exact bin_eql;exact gY) | (apply wo_po;apply mo_bin;exact rfl;exact rfl;exact bin_neq;exact gY) | refine wadd ?_ | refine wsub ?_ | (apply wo_po;apply mo_bin;exact rfl;exact rfl;apply bin_ne;apply eql_ptr_nil;exact gY) | (apply wo_po;apply mo_bin;exact rfl;exact rfl;apply bin_eq;apply eql_ptr_nil;exact gY) | (apply wo_po;apply mo_bin;exact rfl;exact rfl;apply bin_ne;apply eql_slice_nil;exact gY) | (apply wo_po;apply mo_bin;exact rfl;exact rfl;apply bin_eq;apply eql_slice_nil;exact gY) | (apply wo_po;apply mo_bin;exact rfl;exact rfl;apply bin_ne;apply eql_nil_nil;exact gY) | (apply wo_po;apply mo_bin;exact rfl;exact rfl;apply bin_eq;apply eql_nil_nil;exact gY) | (apply wo_po;apply mo_bin;exact rfl;exact rfl;apply bin_ne;apply eql_iface_nil;exact gY) | refine wE ?_ | (apply wo_po;apply mo_conv;exact rfl;(first | exact wrap_i64 (by omega) (by omega) | exact wrap_u64 (by omega) (by omega));exact gY) | (apply wo_po;apply mo_min;exact rfl;exact rfl;exact gY) | refine wT ?_ | refine wF ?_ | refine we_ret ?_ | refine we_skip ?_ | refine we_label ?_ | refine we_block ?_ | refine we_scope ?_ | refine we_exit ?_)
 refine we_loopN (WaitI X (.pointer (some ⟨X.wg,0,none⟩)) L) (waitM X) none (fun c h=>by cases h) (by exact ⟨rfl,trivial⟩) .refl rfl ?_
 intro ob hob
 obtain ⟨b,hb,hbm⟩:∃ b,b≤X.ad∧(∀ c,c<b→c<waitM X ob)∧((waitX X ob).wt=.wait b∨((waitX X ob).wt=.play∧b=(waitX X ob).ad∧(waitX X ob).ad=(waitX X ob).seats.length+(waitX X ob).nf∧∀ s∈(waitX X ob).seats,s.closed)):=by
  cases ob with
  | none=>exact ⟨X.ad,Nat.le_refl _,fun c h=>Nat.lt_succ_of_lt h,.inr ⟨p,rfl,h2,hc⟩⟩
  | some b=>exact ⟨b,hob b rfl,fun c h=>h,.inl rfl⟩
 obtain ⟨hlt,hbm⟩:=hbm
 have hY:∀ w,{ waitX X ob with wt:=w }={ X with deaf:=true,wt:=w }:=fun w=>by cases ob <;> rfl
 have hwg:(waitX X ob).wg=X.wg:=by cases ob <;> rfl
 have hdf:(waitX X ob).deaf=true:=by cases ob <;> rfl
 repeat (first | (fail) | refine wlssT ?_ | refine wlssF ?_ | refine wleqT ?_ | refine wleqF ?_ | refine wgtrT ?_ | refine wgtrF ?_ | refine wgeqT ?_ | refine wgeqF ?_ | refine weqlT ?_ | refine weqlF ?_ | refine wneqT ?_ | refine wneqF ?_ | refine we_seq ?_ | (refine wR ?_;try simp only [oS]) | refine wo_nil ?_ | refine wM ?_ | refine wA ?_ | (apply wo_no;exact rfl) | (apply wo_nu;exact rfl) | refine wK ?_ | refine wJ ?_ | refine wN ?_ | refine wD ?_ | (apply wo_po;apply mo_extract;exact rfl;exact rfl;exact gY) | (apply wo_po;apply mo_not;exact rfl;exact gY) | refine wL ?_ | (apply wo_po;apply mo_bin;exact rfl;exact rfl;exact bin_lss;exact gY) | (apply wo_po;apply mo_bin;exact rfl;exact rfl;exact bin_gtr;exact gY) | (apply wo_po;apply mo_bin;exact rfl;exact rfl;exact bin_leq;exact gY) | (apply wo_po;apply mo_bin;exact rfl;exact rfl;exact bin_geq;exact gY) | (apply wo_po;apply mo_bin;exact rfl;exact rfl;exact bin_eql;exact gY) | (apply wo_po;apply mo_bin;exact rfl;exact rfl;exact bin_neq;exact gY) | refine wadd ?_ | refine wsub ?_ | (apply wo_po;apply mo_bin;exact rfl;exact rfl;apply bin_ne;apply eql_ptr_nil;exact gY) | (apply wo_po;apply mo_bin;exact rfl;exact rfl;apply bin_eq;apply eql_ptr_nil;exact gY) | (apply wo_po;apply mo_bin;exact rfl;exact rfl;apply bin_ne;apply eql_slice_nil;exact gY) | (apply wo_po;apply mo_bin;exact rfl;exact rfl;apply bin_eq;apply eql_slice_nil;exact gY) | (apply wo_po;apply mo_bin;exact rfl;exact rfl;apply bin_ne;apply eql_nil_nil;exact gY) | (apply wo_po;apply mo_bin;exact rfl;exact rfl;apply bin_eq;apply eql_nil_nil;exact gY) | (apply wo_po;apply mo_bin;exact rfl;exact rfl;apply bin_ne;apply eql_iface_nil;exact gY) | refine wE ?_ | (apply wo_po;apply mo_conv;exact rfl;(first | exact wrap_i64 (by omega) (by omega) | exact wrap_u64 (by omega) (by omega));exact gY) | (apply wo_po;apply mo_min;exact rfl;exact rfl;exact gY) | refine wT ?_ | refine wF ?_ | refine we_ret ?_ | refine we_skip ?_ | refine we_label ?_ | refine we_block ?_ | refine we_scope ?_ | refine we_exit ?_)
 refine wo_call (vs:=[.pointer (some ⟨(waitX X ob).wg,0,none⟩)]) (.cons (by rw [hwg];rfl) .nil) trivial (uLook_tr b hbm hdf) ?_
 rintro v1 L1 x1 ⟨rfl,⟨m,hm0,hm,rfl,rfl⟩ | ⟨rfl,rfl⟩⟩
 ·obtain ⟨k1,k2,k3,k4⟩:=kk_bits (m:=m) (by clear hbm h2;omega)
  clear hbm h2
  have k6:IntKind.u64.wrap ((m:Int)*kk+1)=(m:Int)*kk+1:=wrap_u64 (by unfold kk;omega) (by unfold kk;omega)
  rw [hY]
  repeat (first | (apply wo_po;apply mo_bin;exact rfl;exact rfl;apply bin_and;(first | exact k1 | exact k2);exact trivial) | (apply wo_po;apply mo_bin;exact rfl;exact rfl;apply bin_shr;omega;exact k3;exact trivial) | (apply wo_po;apply mo_conv;exact rfl;(first | exact k4 | exact b5);exact gY) | (apply wo_po;apply mo_bin;exact rfl;exact rfl;apply bin_add;exact k6;exact trivial) | refine wlssT ?_ | refine wlssF ?_ | refine wleqT ?_ | refine wleqF ?_ | refine wgtrT ?_ | refine wgtrF ?_ | refine wgeqT ?_ | refine wgeqF ?_ | refine weqlT ?_ | refine weqlF ?_ | refine wneqT ?_ | refine wneqF ?_ | refine we_seq ?_ | (refine wR ?_;try simp only [oS]) | refine wo_nil ?_ | refine wM ?_ | refine wA ?_ | (apply wo_no;exact rfl) | (apply wo_nu;exact rfl) | refine wK ?_ | refine wJ ?_ | refine wN ?_ | refine wD ?_ | (apply wo_po;apply mo_extract;exact rfl;exact rfl;exact gY) | (apply wo_po;apply mo_not;exact rfl;exact gY) | refine wL ?_ | (apply wo_po;apply mo_bin;exact rfl;exact rfl;exact bin_lss;exact gY) | (apply wo_po;apply mo_bin;exact rfl;exact rfl;exact bin_gtr;exact gY) | (apply wo_po;apply mo_bin;exact rfl;exact rfl;exact bin_leq;exact gY) | (apply wo_po;apply mo_bin;exact rfl;exact rfl;exact bin_geq;exact gY) | (apply wo_po;apply mo_bin;exact rfl;exact rfl;exact bin_eql;exact gY) | (apply wo_po;apply mo_bin;exact rfl;exact rfl;exact bin_neq;exact gY) | refine wadd ?_ | refine wsub ?_ | (apply wo_po;apply mo_bin;exact rfl;exact rfl;apply bin_ne;apply eql_ptr_nil;exact gY) | (apply wo_po;apply mo_bin;exact rfl;exact rfl;apply bin_eq;apply eql_ptr_nil;exact gY) | (apply wo_po;apply mo_bin;exact rfl;exact rfl;apply bin_ne;apply eql_slice_nil;exact gY) | (apply wo_po;apply mo_bin;exact rfl;exact rfl;apply bin_eq;apply eql_slice_nil;exact gY) | (apply wo_po;apply mo_bin;exact rfl;exact rfl;apply bin_ne;apply eql_nil_nil;exact gY) | (apply wo_po;apply mo_bin;exact rfl;exact rfl;apply bin_eq;apply eql_nil_nil;exact gY) | (apply wo_po;apply mo_bin;exact rfl;exact rfl;apply bin_ne;apply eql_iface_nil;exact gY) | refine wE ?_ | (apply wo_po;apply mo_conv;exact rfl;(first | exact wrap_i64 (by omega) (by omega) | exact wrap_u64 (by omega) (by omega));exact gY) | (apply wo_po;apply mo_min;exact rfl;exact rfl;exact gY) | refine wT ?_ | refine wF ?_ | refine we_ret ?_ | refine we_skip ?_ | refine we_label ?_ | refine we_block ?_ | refine we_scope ?_ | refine we_exit ?_)
  refine wo_call (.cons rfl (.cons rfl (.cons rfl .nil))) trivial (uSwap_tr (X:={ X with deaf:=true,wt:=.seen m }) hm0 rfl rfl) ?_
  rintro v1 L2 x1 ⟨rfl,⟨rfl,rfl⟩ | ⟨c,hcm,rfl,rfl⟩⟩
  ·repeat (first | (apply wo_po;apply mo_convPUo (c:=1) (m:=2) (by decide:(1:Nat)≠0);exact rfl;exact hs;omega;exact trivial) | refine wlssT ?_ | refine wlssF ?_ | refine wleqT ?_ | refine wleqF ?_ | refine wgtrT ?_ | refine wgtrF ?_ | refine wgeqT ?_ | refine wgeqF ?_ | refine weqlT ?_ | refine weqlF ?_ | refine wneqT ?_ | refine wneqF ?_ | refine we_seq ?_ | (refine wR ?_;try simp only [oS]) | refine wo_nil ?_ | refine wM ?_ | refine wA ?_ | (apply wo_no;exact rfl) | (apply wo_nu;exact rfl) | refine wK ?_ | refine wJ ?_ | refine wN ?_ | refine wD ?_ | (apply wo_po;apply mo_extract;exact rfl;exact rfl;exact gY) | (apply wo_po;apply mo_not;exact rfl;exact gY) | refine wL ?_ | (apply wo_po;apply mo_bin;exact rfl;exact rfl;exact bin_lss;exact gY) | (apply wo_po;apply mo_bin;exact rfl;exact rfl;exact bin_gtr;exact gY) | (apply wo_po;apply mo_bin;exact rfl;exact rfl;exact bin_leq;exact gY) | (apply wo_po;apply mo_bin;exact rfl;exact rfl;exact bin_geq;exact gY) | (apply wo_po;apply mo_bin;exact rfl;exact rfl;exact bin_eql;exact gY) | (apply wo_po;apply mo_bin;exact rfl;exact rfl;exact bin_neq;exact gY) | refine wadd ?_ | refine wsub ?_ | (apply wo_po;apply mo_bin;exact rfl;exact rfl;apply bin_ne;apply eql_ptr_nil;exact gY) | (apply wo_po;apply mo_bin;exact rfl;exact rfl;apply bin_eq;apply eql_ptr_nil;exact gY) | (apply wo_po;apply mo_bin;exact rfl;exact rfl;apply bin_ne;apply eql_slice_nil;exact gY) | (apply wo_po;apply mo_bin;exact rfl;exact rfl;apply bin_eq;apply eql_slice_nil;exact gY) | (apply wo_po;apply mo_bin;exact rfl;exact rfl;apply bin_ne;apply eql_nil_nil;exact gY) | (apply wo_po;apply mo_bin;exact rfl;exact rfl;apply bin_eq;apply eql_nil_nil;exact gY) | (apply wo_po;apply mo_bin;exact rfl;exact rfl;apply bin_ne;apply eql_iface_nil;exact gY) | refine wE ?_ | (apply wo_po;apply mo_conv;exact rfl;(first | exact wrap_i64 (by omega) (by omega) | exact wrap_u64 (by omega) (by omega));exact gY) | (apply wo_po;apply mo_min;exact rfl;exact rfl;exact gY) | refine wT ?_ | refine wF ?_ | refine we_ret ?_ | refine we_skip ?_ | refine we_label ?_ | refine we_block ?_ | refine we_scope ?_ | refine we_exit ?_)
   apply wo_mark (X:={ X with deaf:=true,wt:=.parked }) (m:=Mark.write)
   exact rfl
   exact .inr rfl
   exact trivial
   decide
   repeat (first | (apply wo_po;apply mo_bin;exact rfl;exact rfl;apply bin_and;(first | exact k1 | exact k2);exact trivial) | refine wlssT ?_ | refine wlssF ?_ | refine wleqT ?_ | refine wleqF ?_ | refine wgtrT ?_ | refine wgtrF ?_ | refine wgeqT ?_ | refine wgeqF ?_ | refine weqlT ?_ | refine weqlF ?_ | refine wneqT ?_ | refine wneqF ?_ | refine we_seq ?_ | (refine wR ?_;try simp only [oS]) | refine wo_nil ?_ | refine wM ?_ | refine wA ?_ | (apply wo_no;exact rfl) | (apply wo_nu;exact rfl) | refine wK ?_ | refine wJ ?_ | refine wN ?_ | refine wD ?_ | (apply wo_po;apply mo_extract;exact rfl;exact rfl;exact gY) | (apply wo_po;apply mo_not;exact rfl;exact gY) | refine wL ?_ | (apply wo_po;apply mo_bin;exact rfl;exact rfl;exact bin_lss;exact gY) | (apply wo_po;apply mo_bin;exact rfl;exact rfl;exact bin_gtr;exact gY) | (apply wo_po;apply mo_bin;exact rfl;exact rfl;exact bin_leq;exact gY) | (apply wo_po;apply mo_bin;exact rfl;exact rfl;exact bin_geq;exact gY) | (apply wo_po;apply mo_bin;exact rfl;exact rfl;exact bin_eql;exact gY) | (apply wo_po;apply mo_bin;exact rfl;exact rfl;exact bin_neq;exact gY) | refine wadd ?_ | refine wsub ?_ | (apply wo_po;apply mo_bin;exact rfl;exact rfl;apply bin_ne;apply eql_ptr_nil;exact gY) | (apply wo_po;apply mo_bin;exact rfl;exact rfl;apply bin_eq;apply eql_ptr_nil;exact gY) | (apply wo_po;apply mo_bin;exact rfl;exact rfl;apply bin_ne;apply eql_slice_nil;exact gY) | (apply wo_po;apply mo_bin;exact rfl;exact rfl;apply bin_eq;apply eql_slice_nil;exact gY) | (apply wo_po;apply mo_bin;exact rfl;exact rfl;apply bin_ne;apply eql_nil_nil;exact gY) | (apply wo_po;apply mo_bin;exact rfl;exact rfl;apply bin_eq;apply eql_nil_nil;exact gY) | (apply wo_po;apply mo_bin;exact rfl;exact rfl;apply bin_ne;apply eql_iface_nil;exact gY) | refine wE ?_ | (apply wo_po;apply mo_conv;exact rfl;(first | exact wrap_i64 (by omega) (by omega) | exact wrap_u64 (by omega) (by omega));exact gY) | (apply wo_po;apply mo_min;exact rfl;exact rfl;exact gY) | refine wT ?_ | refine wF ?_ | refine we_ret ?_ | refine we_skip ?_ | refine we_label ?_ | refine we_block ?_ | refine we_scope ?_ | refine we_exit ?_)
   apply wo_sem (X:={ X with deaf:=true,wt:=.parked })
   exact rfl
   exact rfl
   exact rfl
   exact rfl
   exact trivial
   decide
   repeat (first | (fail) | refine wlssT ?_ | refine wlssF ?_ | refine wleqT ?_ | refine wleqF ?_ | refine wgtrT ?_ | refine wgtrF ?_ | refine wgeqT ?_ | refine wgeqF ?_ | refine weqlT ?_ | refine weqlF ?_ | refine wneqT ?_ | refine wneqF ?_ | refine we_seq ?_ | (refine wR ?_;try simp only [oS]) | refine wo_nil ?_ | refine wM ?_ | refine wA ?_ | (apply wo_no;exact rfl) | (apply wo_nu;exact rfl) | refine wK ?_ | refine wJ ?_ | refine wN ?_ | refine wD ?_ | (apply wo_po;apply mo_extract;exact rfl;exact rfl;exact gY) | (apply wo_po;apply mo_not;exact rfl;exact gY) | refine wL ?_ | (apply wo_po;apply mo_bin;exact rfl;exact rfl;exact bin_lss;exact gY) | (apply wo_po;apply mo_bin;exact rfl;exact rfl;exact bin_gtr;exact gY) | (apply wo_po;apply mo_bin;exact rfl;exact rfl;exact bin_leq;exact gY) | (apply wo_po;apply mo_bin;exact rfl;exact rfl;exact bin_geq;exact gY) | (apply wo_po;apply mo_bin;exact rfl;exact rfl;exact bin_eql;exact gY) | (apply wo_po;apply mo_bin;exact rfl;exact rfl;exact bin_neq;exact gY) | refine wadd ?_ | refine wsub ?_ | (apply wo_po;apply mo_bin;exact rfl;exact rfl;apply bin_ne;apply eql_ptr_nil;exact gY) | (apply wo_po;apply mo_bin;exact rfl;exact rfl;apply bin_eq;apply eql_ptr_nil;exact gY) | (apply wo_po;apply mo_bin;exact rfl;exact rfl;apply bin_ne;apply eql_slice_nil;exact gY) | (apply wo_po;apply mo_bin;exact rfl;exact rfl;apply bin_eq;apply eql_slice_nil;exact gY) | (apply wo_po;apply mo_bin;exact rfl;exact rfl;apply bin_ne;apply eql_nil_nil;exact gY) | (apply wo_po;apply mo_bin;exact rfl;exact rfl;apply bin_eq;apply eql_nil_nil;exact gY) | (apply wo_po;apply mo_bin;exact rfl;exact rfl;apply bin_ne;apply eql_iface_nil;exact gY) | refine wE ?_ | (apply wo_po;apply mo_conv;exact rfl;(first | exact wrap_i64 (by omega) (by omega) | exact wrap_u64 (by omega) (by omega));exact gY) | (apply wo_po;apply mo_min;exact rfl;exact rfl;exact gY) | refine wT ?_ | refine wF ?_ | refine we_ret ?_ | refine we_skip ?_ | refine we_label ?_ | refine we_block ?_ | refine we_scope ?_ | refine we_exit ?_)
   refine wo_call (.cons rfl .nil) trivial (uLast_tr (X:={ X with deaf:=true,wt:=.woken }) rfl rfl) ?_
   rintro v1 L3 x1 ⟨rfl,rfl,rfl⟩
   repeat (first | (fail) | refine wlssT ?_ | refine wlssF ?_ | refine wleqT ?_ | refine wleqF ?_ | refine wgtrT ?_ | refine wgtrF ?_ | refine wgeqT ?_ | refine wgeqF ?_ | refine weqlT ?_ | refine weqlF ?_ | refine wneqT ?_ | refine wneqF ?_ | refine we_seq ?_ | (refine wR ?_;try simp only [oS]) | refine wo_nil ?_ | refine wM ?_ | refine wA ?_ | (apply wo_no;exact rfl) | (apply wo_nu;exact rfl) | refine wK ?_ | refine wJ ?_ | refine wN ?_ | refine wD ?_ | (apply wo_po;apply mo_extract;exact rfl;exact rfl;exact gY) | (apply wo_po;apply mo_not;exact rfl;exact gY) | refine wL ?_ | (apply wo_po;apply mo_bin;exact rfl;exact rfl;exact bin_lss;exact gY) | (apply wo_po;apply mo_bin;exact rfl;exact rfl;exact bin_gtr;exact gY) | (apply wo_po;apply mo_bin;exact rfl;exact rfl;exact bin_leq;exact gY) | (apply wo_po;apply mo_bin;exact rfl;exact rfl;exact bin_geq;exact gY) | (apply wo_po;apply mo_bin;exact rfl;exact rfl;exact bin_eql;exact gY) | (apply wo_po;apply mo_bin;exact rfl;exact rfl;exact bin_neq;exact gY) | refine wadd ?_ | refine wsub ?_ | (apply wo_po;apply mo_bin;exact rfl;exact rfl;apply bin_ne;apply eql_ptr_nil;exact gY) | (apply wo_po;apply mo_bin;exact rfl;exact rfl;apply bin_eq;apply eql_ptr_nil;exact gY) | (apply wo_po;apply mo_bin;exact rfl;exact rfl;apply bin_ne;apply eql_slice_nil;exact gY) | (apply wo_po;apply mo_bin;exact rfl;exact rfl;apply bin_eq;apply eql_slice_nil;exact gY) | (apply wo_po;apply mo_bin;exact rfl;exact rfl;apply bin_ne;apply eql_nil_nil;exact gY) | (apply wo_po;apply mo_bin;exact rfl;exact rfl;apply bin_eq;apply eql_nil_nil;exact gY) | (apply wo_po;apply mo_bin;exact rfl;exact rfl;apply bin_ne;apply eql_iface_nil;exact gY) | refine wE ?_ | (apply wo_po;apply mo_conv;exact rfl;(first | exact wrap_i64 (by omega) (by omega) | exact wrap_u64 (by omega) (by omega));exact gY) | (apply wo_po;apply mo_min;exact rfl;exact rfl;exact gY) | refine wT ?_ | refine wF ?_ | refine we_ret ?_ | refine we_skip ?_ | refine we_label ?_ | refine we_block ?_ | refine we_scope ?_ | refine we_exit ?_)
   apply wo_enable (X:={ X with deaf:=true,wt:=.zero })
   exact trivial
   decide
   exact rfl
   repeat (first | (apply wo_po;apply mo_convPUo (c:=0) (m:=2) (by decide:(2:Nat)≠0);exact rfl;exact hs;omega;exact trivial) | refine wlssT ?_ | refine wlssF ?_ | refine wleqT ?_ | refine wleqF ?_ | refine wgtrT ?_ | refine wgtrF ?_ | refine wgeqT ?_ | refine wgeqF ?_ | refine weqlT ?_ | refine weqlF ?_ | refine wneqT ?_ | refine wneqF ?_ | refine we_seq ?_ | (refine wR ?_;try simp only [oS]) | refine wo_nil ?_ | refine wM ?_ | refine wA ?_ | (apply wo_no;exact rfl) | (apply wo_nu;exact rfl) | refine wK ?_ | refine wJ ?_ | refine wN ?_ | refine wD ?_ | (apply wo_po;apply mo_extract;exact rfl;exact rfl;exact gY) | (apply wo_po;apply mo_not;exact rfl;exact gY) | refine wL ?_ | (apply wo_po;apply mo_bin;exact rfl;exact rfl;exact bin_lss;exact gY) | (apply wo_po;apply mo_bin;exact rfl;exact rfl;exact bin_gtr;exact gY) | (apply wo_po;apply mo_bin;exact rfl;exact rfl;exact bin_leq;exact gY) | (apply wo_po;apply mo_bin;exact rfl;exact rfl;exact bin_geq;exact gY) | (apply wo_po;apply mo_bin;exact rfl;exact rfl;exact bin_eql;exact gY) | (apply wo_po;apply mo_bin;exact rfl;exact rfl;exact bin_neq;exact gY) | refine wadd ?_ | refine wsub ?_ | (apply wo_po;apply mo_bin;exact rfl;exact rfl;apply bin_ne;apply eql_ptr_nil;exact gY) | (apply wo_po;apply mo_bin;exact rfl;exact rfl;apply bin_eq;apply eql_ptr_nil;exact gY) | (apply wo_po;apply mo_bin;exact rfl;exact rfl;apply bin_ne;apply eql_slice_nil;exact gY) | (apply wo_po;apply mo_bin;exact rfl;exact rfl;apply bin_eq;apply eql_slice_nil;exact gY) | (apply wo_po;apply mo_bin;exact rfl;exact rfl;apply bin_ne;apply eql_nil_nil;exact gY) | (apply wo_po;apply mo_bin;exact rfl;exact rfl;apply bin_eq;apply eql_nil_nil;exact gY) | (apply wo_po;apply mo_bin;exact rfl;exact rfl;apply bin_ne;apply eql_iface_nil;exact gY) | refine wE ?_ | (apply wo_po;apply mo_conv;exact rfl;(first | exact wrap_i64 (by omega) (by omega) | exact wrap_u64 (by omega) (by omega));exact gY) | (apply wo_po;apply mo_min;exact rfl;exact rfl;exact gY) | refine wT ?_ | refine wF ?_ | refine we_ret ?_ | refine we_skip ?_ | refine we_label ?_ | refine we_block ?_ | refine we_scope ?_ | refine we_exit ?_)
   apply wo_acquire (X:={ X with deaf:=false,wt:=.zero })
   exact rfl
   exact rfl
   exact rfl
   exact hn
   exact trivial
   decide
   repeat (first | (fail) | refine wlssT ?_ | refine wlssF ?_ | refine wleqT ?_ | refine wleqF ?_ | refine wgtrT ?_ | refine wgtrF ?_ | refine wgeqT ?_ | refine wgeqF ?_ | refine weqlT ?_ | refine weqlF ?_ | refine wneqT ?_ | refine wneqF ?_ | refine we_seq ?_ | (refine wR ?_;try simp only [oS]) | refine wo_nil ?_ | refine wM ?_ | refine wA ?_ | (apply wo_no;exact rfl) | (apply wo_nu;exact rfl) | refine wK ?_ | refine wJ ?_ | refine wN ?_ | refine wD ?_ | (apply wo_po;apply mo_extract;exact rfl;exact rfl;exact gY) | (apply wo_po;apply mo_not;exact rfl;exact gY) | refine wL ?_ | (apply wo_po;apply mo_bin;exact rfl;exact rfl;exact bin_lss;exact gY) | (apply wo_po;apply mo_bin;exact rfl;exact rfl;exact bin_gtr;exact gY) | (apply wo_po;apply mo_bin;exact rfl;exact rfl;exact bin_leq;exact gY) | (apply wo_po;apply mo_bin;exact rfl;exact rfl;exact bin_geq;exact gY) | (apply wo_po;apply mo_bin;exact rfl;exact rfl;exact bin_eql;exact gY) | (apply wo_po;apply mo_bin;exact rfl;exact rfl;exact bin_neq;exact gY) | refine wadd ?_ | refine wsub ?_ | (apply wo_po;apply mo_bin;exact rfl;exact rfl;apply bin_ne;apply eql_ptr_nil;exact gY) | (apply wo_po;apply mo_bin;exact rfl;exact rfl;apply bin_eq;apply eql_ptr_nil;exact gY) | (apply wo_po;apply mo_bin;exact rfl;exact rfl;apply bin_ne;apply eql_slice_nil;exact gY) | (apply wo_po;apply mo_bin;exact rfl;exact rfl;apply bin_eq;apply eql_slice_nil;exact gY) | (apply wo_po;apply mo_bin;exact rfl;exact rfl;apply bin_ne;apply eql_nil_nil;exact gY) | (apply wo_po;apply mo_bin;exact rfl;exact rfl;apply bin_eq;apply eql_nil_nil;exact gY) | (apply wo_po;apply mo_bin;exact rfl;exact rfl;apply bin_ne;apply eql_iface_nil;exact gY) | refine wE ?_ | (apply wo_po;apply mo_conv;exact rfl;(first | exact wrap_i64 (by omega) (by omega) | exact wrap_u64 (by omega) (by omega));exact gY) | (apply wo_po;apply mo_min;exact rfl;exact rfl;exact gY) | refine wT ?_ | refine wF ?_ | refine we_ret ?_ | refine we_skip ?_ | refine we_label ?_ | refine we_block ?_ | refine we_scope ?_ | refine we_exit ?_)
   (first | refine or0 Try.func53 Try.results53 hQ ?_ | refine on0 Try.func53 Try.results53 hQ ?_)
   exact ⟨rfl,congrArg (·::_) ends_eq,rfl⟩
  ·repeat (first | (fail) | refine wlssT ?_ | refine wlssF ?_ | refine wleqT ?_ | refine wleqF ?_ | refine wgtrT ?_ | refine wgtrF ?_ | refine wgeqT ?_ | refine wgeqF ?_ | refine weqlT ?_ | refine weqlF ?_ | refine wneqT ?_ | refine wneqF ?_ | refine we_seq ?_ | (refine wR ?_;try simp only [oS]) | refine wo_nil ?_ | refine wM ?_ | refine wA ?_ | (apply wo_no;exact rfl) | (apply wo_nu;exact rfl) | refine wK ?_ | refine wJ ?_ | refine wN ?_ | refine wD ?_ | (apply wo_po;apply mo_extract;exact rfl;exact rfl;exact gY) | (apply wo_po;apply mo_not;exact rfl;exact gY) | refine wL ?_ | (apply wo_po;apply mo_bin;exact rfl;exact rfl;exact bin_lss;exact gY) | (apply wo_po;apply mo_bin;exact rfl;exact rfl;exact bin_gtr;exact gY) | (apply wo_po;apply mo_bin;exact rfl;exact rfl;exact bin_leq;exact gY) | (apply wo_po;apply mo_bin;exact rfl;exact rfl;exact bin_geq;exact gY) | (apply wo_po;apply mo_bin;exact rfl;exact rfl;exact bin_eql;exact gY) | (apply wo_po;apply mo_bin;exact rfl;exact rfl;exact bin_neq;exact gY) | refine wadd ?_ | refine wsub ?_ | (apply wo_po;apply mo_bin;exact rfl;exact rfl;apply bin_ne;apply eql_ptr_nil;exact gY) | (apply wo_po;apply mo_bin;exact rfl;exact rfl;apply bin_eq;apply eql_ptr_nil;exact gY) | (apply wo_po;apply mo_bin;exact rfl;exact rfl;apply bin_ne;apply eql_slice_nil;exact gY) | (apply wo_po;apply mo_bin;exact rfl;exact rfl;apply bin_eq;apply eql_slice_nil;exact gY) | (apply wo_po;apply mo_bin;exact rfl;exact rfl;apply bin_ne;apply eql_nil_nil;exact gY) | (apply wo_po;apply mo_bin;exact rfl;exact rfl;apply bin_eq;apply eql_nil_nil;exact gY) | (apply wo_po;apply mo_bin;exact rfl;exact rfl;apply bin_ne;apply eql_iface_nil;exact gY) | refine wE ?_ | (apply wo_po;apply mo_conv;exact rfl;(first | exact wrap_i64 (by omega) (by omega) | exact wrap_u64 (by omega) (by omega));exact gY) | (apply wo_po;apply mo_min;exact rfl;exact rfl;exact gY) | refine wT ?_ | refine wF ?_ | refine we_ret ?_ | refine we_skip ?_ | refine we_label ?_ | refine we_block ?_ | refine we_scope ?_ | refine we_exit ?_)
   have hok:(WaitI X (.pointer (some ⟨X.wg,0,none⟩)) L2).ok (some c):=fun c' h=>by obtain rfl:=Option.some.inj h;omega
   refine at_round (B:=mH cv) (I:=WaitI X (.pointer (some ⟨X.wg,0,none⟩)) L2) (R:=fun i'=>waitM X i'<waitM X ob) (some c) (hlt c (by omega)) hok ?_ .refl rfl
   exact ⟨rfl,trivial⟩
 ·rw [hY]
  obtain ⟨k1,k2,k3,k4⟩:=kk_bits (m:=0) (by omega)
  repeat (first | (apply wo_po;apply mo_bin;exact rfl;exact rfl;apply bin_and;(first | exact k1 | exact k2);exact trivial) | (apply wo_po;apply mo_bin;exact rfl;exact rfl;apply bin_shr;omega;exact k3;exact trivial) | (apply wo_po;apply mo_conv;exact rfl;(first | exact k4 | exact b5);exact gY) | refine wlssT ?_ | refine wlssF ?_ | refine wleqT ?_ | refine wleqF ?_ | refine wgtrT ?_ | refine wgtrF ?_ | refine wgeqT ?_ | refine wgeqF ?_ | refine weqlT ?_ | refine weqlF ?_ | refine wneqT ?_ | refine wneqF ?_ | refine we_seq ?_ | (refine wR ?_;try simp only [oS]) | refine wo_nil ?_ | refine wM ?_ | refine wA ?_ | (apply wo_no;exact rfl) | (apply wo_nu;exact rfl) | refine wK ?_ | refine wJ ?_ | refine wN ?_ | refine wD ?_ | (apply wo_po;apply mo_extract;exact rfl;exact rfl;exact gY) | (apply wo_po;apply mo_not;exact rfl;exact gY) | refine wL ?_ | (apply wo_po;apply mo_bin;exact rfl;exact rfl;exact bin_lss;exact gY) | (apply wo_po;apply mo_bin;exact rfl;exact rfl;exact bin_gtr;exact gY) | (apply wo_po;apply mo_bin;exact rfl;exact rfl;exact bin_leq;exact gY) | (apply wo_po;apply mo_bin;exact rfl;exact rfl;exact bin_geq;exact gY) | (apply wo_po;apply mo_bin;exact rfl;exact rfl;exact bin_eql;exact gY) | (apply wo_po;apply mo_bin;exact rfl;exact rfl;exact bin_neq;exact gY) | refine wadd ?_ | refine wsub ?_ | (apply wo_po;apply mo_bin;exact rfl;exact rfl;apply bin_ne;apply eql_ptr_nil;exact gY) | (apply wo_po;apply mo_bin;exact rfl;exact rfl;apply bin_eq;apply eql_ptr_nil;exact gY) | (apply wo_po;apply mo_bin;exact rfl;exact rfl;apply bin_ne;apply eql_slice_nil;exact gY) | (apply wo_po;apply mo_bin;exact rfl;exact rfl;apply bin_eq;apply eql_slice_nil;exact gY) | (apply wo_po;apply mo_bin;exact rfl;exact rfl;apply bin_ne;apply eql_nil_nil;exact gY) | (apply wo_po;apply mo_bin;exact rfl;exact rfl;apply bin_eq;apply eql_nil_nil;exact gY) | (apply wo_po;apply mo_bin;exact rfl;exact rfl;apply bin_ne;apply eql_iface_nil;exact gY) | refine wE ?_ | (apply wo_po;apply mo_conv;exact rfl;(first | exact wrap_i64 (by omega) (by omega) | exact wrap_u64 (by omega) (by omega));exact gY) | (apply wo_po;apply mo_min;exact rfl;exact rfl;exact gY) | refine wT ?_ | refine wF ?_ | refine we_ret ?_ | refine we_skip ?_ | refine we_label ?_ | refine we_block ?_ | refine we_scope ?_ | refine we_exit ?_)
  apply wo_enable (X:={ X with deaf:=true,wt:=.zero })
  exact trivial
  decide
  exact rfl
  repeat (first | (apply wo_po;apply mo_convPUo (c:=0) (m:=2) (by decide:(2:Nat)≠0);exact rfl;exact hs;omega;exact trivial) | refine wlssT ?_ | refine wlssF ?_ | refine wleqT ?_ | refine wleqF ?_ | refine wgtrT ?_ | refine wgtrF ?_ | refine wgeqT ?_ | refine wgeqF ?_ | refine weqlT ?_ | refine weqlF ?_ | refine wneqT ?_ | refine wneqF ?_ | refine we_seq ?_ | (refine wR ?_;try simp only [oS]) | refine wo_nil ?_ | refine wM ?_ | refine wA ?_ | (apply wo_no;exact rfl) | (apply wo_nu;exact rfl) | refine wK ?_ | refine wJ ?_ | refine wN ?_ | refine wD ?_ | (apply wo_po;apply mo_extract;exact rfl;exact rfl;exact gY) | (apply wo_po;apply mo_not;exact rfl;exact gY) | refine wL ?_ | (apply wo_po;apply mo_bin;exact rfl;exact rfl;exact bin_lss;exact gY) | (apply wo_po;apply mo_bin;exact rfl;exact rfl;exact bin_gtr;exact gY) | (apply wo_po;apply mo_bin;exact rfl;exact rfl;exact bin_leq;exact gY) | (apply wo_po;apply mo_bin;exact rfl;exact rfl;exact bin_geq;exact gY) | (apply wo_po;apply mo_bin;exact rfl;exact rfl;exact bin_eql;exact gY) | (apply wo_po;apply mo_bin;exact rfl;exact rfl;exact bin_neq;exact gY) | refine wadd ?_ | refine wsub ?_ | (apply wo_po;apply mo_bin;exact rfl;exact rfl;apply bin_ne;apply eql_ptr_nil;exact gY) | (apply wo_po;apply mo_bin;exact rfl;exact rfl;apply bin_eq;apply eql_ptr_nil;exact gY) | (apply wo_po;apply mo_bin;exact rfl;exact rfl;apply bin_ne;apply eql_slice_nil;exact gY) | (apply wo_po;apply mo_bin;exact rfl;exact rfl;apply bin_eq;apply eql_slice_nil;exact gY) | (apply wo_po;apply mo_bin;exact rfl;exact rfl;apply bin_ne;apply eql_nil_nil;exact gY) | (apply wo_po;apply mo_bin;exact rfl;exact rfl;apply bin_eq;apply eql_nil_nil;exact gY) | (apply wo_po;apply mo_bin;exact rfl;exact rfl;apply bin_ne;apply eql_iface_nil;exact gY) | refine wE ?_ | (apply wo_po;apply mo_conv;exact rfl;(first | exact wrap_i64 (by omega) (by omega) | exact wrap_u64 (by omega) (by omega));exact gY) | (apply wo_po;apply mo_min;exact rfl;exact rfl;exact gY) | refine wT ?_ | refine wF ?_ | refine we_ret ?_ | refine we_skip ?_ | refine we_label ?_ | refine we_block ?_ | refine we_scope ?_ | refine we_exit ?_)
  apply wo_acquire (X:={ X with deaf:=false,wt:=.zero })
  exact rfl
  exact rfl
  exact rfl
  exact hn
  exact trivial
  decide
  repeat (first | (apply wo_po;apply mo_bin;exact rfl;exact rfl;apply bin_and;(first | exact k1 | exact k2);exact rfl) | refine wlssT ?_ | refine wlssF ?_ | refine wleqT ?_ | refine wleqF ?_ | refine wgtrT ?_ | refine wgtrF ?_ | refine wgeqT ?_ | refine wgeqF ?_ | refine weqlT ?_ | refine weqlF ?_ | refine wneqT ?_ | refine wneqF ?_ | refine we_seq ?_ | (refine wR ?_;try simp only [oS]) | refine wo_nil ?_ | refine wM ?_ | refine wA ?_ | (apply wo_no;exact rfl) | (apply wo_nu;exact rfl) | refine wK ?_ | refine wJ ?_ | refine wN ?_ | refine wD ?_ | (apply wo_po;apply mo_extract;exact rfl;exact rfl;exact gY) | (apply wo_po;apply mo_not;exact rfl;exact gY) | refine wL ?_ | (apply wo_po;apply mo_bin;exact rfl;exact rfl;exact bin_lss;exact gY) | (apply wo_po;apply mo_bin;exact rfl;exact rfl;exact bin_gtr;exact gY) | (apply wo_po;apply mo_bin;exact rfl;exact rfl;exact bin_leq;exact gY) | (apply wo_po;apply mo_bin;exact rfl;exact rfl;exact bin_geq;exact gY) | (apply wo_po;apply mo_bin;exact rfl;exact rfl;exact bin_eql;exact gY) | (apply wo_po;apply mo_bin;exact rfl;exact rfl;exact bin_neq;exact gY) | refine wadd ?_ | refine wsub ?_ | (apply wo_po;apply mo_bin;exact rfl;exact rfl;apply bin_ne;apply eql_ptr_nil;exact gY) | (apply wo_po;apply mo_bin;exact rfl;exact rfl;apply bin_eq;apply eql_ptr_nil;exact gY) | (apply wo_po;apply mo_bin;exact rfl;exact rfl;apply bin_ne;apply eql_slice_nil;exact gY) | (apply wo_po;apply mo_bin;exact rfl;exact rfl;apply bin_eq;apply eql_slice_nil;exact gY) | (apply wo_po;apply mo_bin;exact rfl;exact rfl;apply bin_ne;apply eql_nil_nil;exact gY) | (apply wo_po;apply mo_bin;exact rfl;exact rfl;apply bin_eq;apply eql_nil_nil;exact gY) | (apply wo_po;apply mo_bin;exact rfl;exact rfl;apply bin_ne;apply eql_iface_nil;exact gY) | refine wE ?_ | (apply wo_po;apply mo_conv;exact rfl;(first | exact wrap_i64 (by omega) (by omega) | exact wrap_u64 (by omega) (by omega));exact gY) | (apply wo_po;apply mo_min;exact rfl;exact rfl;exact gY) | refine wT ?_ | refine wF ?_ | refine we_ret ?_ | refine we_skip ?_ | refine we_label ?_ | refine we_block ?_ | refine we_scope ?_ | refine we_exit ?_)
  (first | refine or0 Try.func53 Try.results53 hQ ?_ | refine on0 Try.func53 Try.results53 hQ ?_)
  exact ⟨rfl,congrArg (·::_) ends_eq,rfl⟩
end
end Go.Proofs.Ytodgemainhokjaa
namespace Go.PB
open Go.Conc
theorem star_cut {b o:Nat} {us vs:List Value} {L:List HProp} {h:Hp} (s:Star (arr b o (us++vs)::L) h):Star (arr b o us::arr b (o+us.length) vs::L) h:=by
 obtain ⟨h1,h2,s1,ha,hL⟩:=s
 have hus:∀ (i:Nat) v,us[i]?=some v→h1.own b (o+i)=some v:=fun i v e=>ha i v (by rw [List.getElem?_append_left (List.getElem?_eq_some_iff.1 e).1];exact e)
 have hvs:∀ (i:Nat) v,vs[i]?=some v→h1.own b (o+us.length+i)=some v:=fun i v e=>by
  have:=ha (us.length+i) v (by rw [List.getElem?_append_right (by omega)];simpa using e)
  rwa [← Nat.add_assoc] at this
 have dec:∀ b' o',Decidable (b'=b∧o'<o+us.length):=fun _ _=>inferInstance
 refine ⟨⟨fun b' o'=>if b'=b∧o'<o+us.length then h1.own b' o' else none,h1.ro,h1.obj,h1.shp⟩,⟨fun b' o'=>if b'=b∧o'<o+us.length then h2.own b' o' else h.own b' o',h2.ro,h2.obj,h2.shp⟩,
  ⟨s1.r1,s1.r2,fun b' o' v e=>?_,fun b' o' v e=>?_,fun b' o'=>?_,s1.b1,s1.b2,s1.bd,s1.s1,s1.s2⟩,fun i v e=>?_,
  ⟨fun b' o'=>if b'=b∧o'<o+us.length then none else h1.own b' o',fun _ _=>none,fun _=>none,fun _=>none⟩,h2,⟨fun _ _ _ e=>by simp at e,fun _ _ _ e=>e,fun b' o' v e=>?_,fun b' o' v e=>?_,fun b' o'=>?_,fun _ _ e=>by simp at e,fun _ _ e=>e,fun _=>.inl rfl,fun _ _ e=>by simp at e,fun _ _ e=>e⟩,fun i v e=>?_,hL⟩
 ·simp only at e;split at e
  ·exact s1.o1 _ _ _ e
  ·cases e
 ·simp only at e;split at e
  ·exact s1.o2 _ _ _ e
  ·exact e
 ·simp only
  by_cases hc:b'=b∧o'<o+us.length
  ·rw [if_pos hc,if_pos hc];exact s1.od _ _
  ·rw [if_neg hc];exact .inl rfl
 ·simp only
  rw [if_pos ⟨trivial,by have:=(List.getElem?_eq_some_iff.1 e).1;omega⟩]
  exact hus i v e
 ·simp only at e ⊢;split at e
  ·cases e
  ·rename_i hc;rw [if_neg hc];exact s1.o1 _ _ _ e
 ·simp only;split
  ·exact e
  ·exact s1.o2 _ _ _ e
 ·simp only;split
  ·exact .inl rfl
  ·exact s1.od _ _
 ·simp only
  rw [if_neg (by rintro ⟨_,h⟩;omega)]
  exact hvs i v e
theorem Has.trans {L F G:List HProp} {c d:HProp} (a:Has L c F) (b:Has F d G):∃ G',Has L d G':=by
 induction a generalizing G with
 | here=>exact ⟨_,.there b⟩
 | there _ ih =>
  cases b with
  | here=>exact ⟨_,.here⟩
  | there b=>obtain ⟨G',h⟩:=ih b;exact ⟨_,.there h⟩
theorem star_one {c:HProp} {h:Hp} (a:c h):Star [c] h :=
 ⟨h,Hp.empty,⟨fun _ _ _ e=>e,fun _ _ _ e=>(by cases e),fun _ _ _ e=>e,fun _ _ _ e=>(by cases e),fun _ _=>.inr rfl,fun _ _ e=>e,fun _ _ e=>(by cases e),fun _=>.inr rfl,fun _ _ e=>e,fun _ _ e=>(by cases e)⟩,a,trivial⟩
section
variable {P:Program} {B:Hand} {kd:CallKind} {n:Nat} {ops:Array Oper} {ord R:List Nat} {Pd:List Pn} {K:Post B} {e:Env} {z:Z} {L:List HProp} {x:B.X}
theorem ap_talk [MonoH B] [Lets B] {i:Nat} {o:Oper} {d:Option Nat} {Pd':List Pn} {cases:Array CommCase} {bl:Bool} {sh:CommShape} {Q:Value→List HProp→B.X→Prop} (ho:nth ops.toList i=some o) (hd:o.dst=d) (hdom:(R.all fun j=>(anc ops ops.size j).contains i)=true) (hpd':pdKeep ops i Pd=Pd') (hg:gYes (resE (readsOf n ops i) e) (guardOf n ops o))
  (hx:∀ t w,Agree (resE (readsOf n ops i) e) t→(execOp (evT t) (opOf o.op o.type)).runT P w #[]=(.ok (.comm cases bl sh) w,#[]))
  (ha:∀ h (O:Value→Hp→B.X→Prop),Star L h→(∀ v L' x' h',Q v L' x'→Star L' h'→O v h' x')→B.comm cases bl sh h x O)
  (hre:∀ v L' x',Q v L' x'→∀ p∈Pd',p.st=true∨∃ o,nth ops.toList p.i=some o∧gYes p.e (guardOf n ops o)∧Mo P p.e o.op o.type L' (fun v' L1=>v'=p.v∧L1=L'))
  (k:∀ v L' x',Q v L' x'→Ap P B kd n ops ord R Pd' K (setE d v e) z L' x'):Ap P B kd n ops ord (i::R) Pd K e z L x:=by
 subst hd
 subst hpd'
 have ho:=nth_at ho
 refine ap_loud_gen ho hdom hg fun idx t h ht ag s hw kk=>?_
 refine wr_talk ho hw (fun w=>by rw [execOp_of (op:=o.op) (ty:=o.type) _ rfl rfl];exact hx t w ag) ?_
 refine ha h _ s fun v L' x' h' r s'=>?_
 exact kk v L' x' h' s' (fun p hp hk=>by
  by_cases hs:p.st=true
  ·exact pd_still (Pd':=[p]) (by simp [hs]) p (by simp) hk
  ·rcases hre v L' x' r p hp with h | ⟨o,h1,h2,h3⟩
   ·exact absurd h hs
   ·exact ⟨o,nth_at h1,.inl ⟨h2,by rw [if_neg hs];exact h3⟩⟩) (k v L' x' r)
end
section
variable {P:Program} {cv:Value} {done:FuncId} {wgT:TypeId} {kd:CallKind} {n:Nat} {ops:Array Oper} {ord R:List Nat} {Pd:List Pn} {K:Post (mHand P cv done wgT)} {e:Env} {z:Z} {L:List HProp} {X:GX}
theorem ap_hear {ct el:TypeId} {dr:ChanDir} {zv:Value} {o:Operand} {i j:Nat} {d:Option Nat} {ty:TypeId} {pos:String} {aft:Array Edge} {gd:Option (Nat × Bool)} {Pd':List Pn} {c:Seat X.g.σ X.g.θ} {s:X.g.σ} {q:X.g.θ} [pu:Und P ct (.chan dr el)] [zr:Zer P el zv]
  (ho:nth ops.toList i=some ⟨d,.recv ct o false,ty,pos,aft,gd⟩) (hdom:(R.all fun j=>(anc ops ops.size j).contains i)=true) (hpd':pdKeep ops i Pd=Pd') (hg:gYes (resE (readsOf n ops i) e) (guardOf n ops ⟨d,.recv ct o false,ty,pos,aft,gd⟩))
  (hx:ev (resE (readsOf n ops i) e) o=some (.chan (some c.says))) (p:X.wt=.play) (hd:X.deaf=false) (hj:X.seats[j]?=some c) (st:c.st=.run s q) (tk:X.tok=none)
  (hre:∀ p∈Pd',p.st=true∨∃ o,nth ops.toList p.i=some o∧gYes p.e (guardOf n ops o)∧Mo P p.e o.op o.type (X.g.U s::L) (fun v' L1=>v'=p.v∧L1=X.g.U s::L))
  (k:Ap P (mHand P cv done wgT) kd n ops ord R Pd' K (setE d (X.g.says q) e) z (X.g.U s::L) (.game { X with tok:=some s,seats:=X.seats.set j { c with st:=.said q } })) :
  Ap P (mHand P cv done wgT) kd n ops ord (i::R) Pd K e z L (.game X) :=
 ap_talk (cases:=#[rcase c.says zv]) (bl:=true) (sh:=.recv false) (Q:=fun w L' x'=>w=X.g.says q∧L'=X.g.U s::L∧x'=.game { X with tok:=some s,seats:=X.seats.set j { c with st:=.said q } }) ho rfl hdom hpd' hg
  (fun t w ag=>by
   show (Sem.bind (underlying ct) fun dd=>match dd with
    | .chan _ el=>Sem.bind (zeroValue el) fun zv=>(pure (.comm #[{ chan:=evT t o,send:=none,zero:=zv }] true (.recv false)):Sem Next)
    | _=>stuck "receive: channel type expected").runT P w #[]=_
   rw [und_runT pu.ok]
   show (Sem.bind (zeroValue el) _).runT P w #[]=_
   rw [runT_zero zr.ok,ag.ev hx];rfl)
  (fun h O st' qq=>⟨rfl,X,j,c,rfl,p,hd,hj,.inl ⟨zv,s,q,rfl,rfl,st,tk,fun r h' hr hs=>qq _ _ _ h' ⟨rfl,rfl,rfl⟩ ⟨r,h,hs.swap,hr,st'⟩⟩⟩)
  (by rintro _ _ _ ⟨rfl,rfl,rfl⟩;exact hre) (by rintro _ _ _ ⟨rfl,rfl,rfl⟩;exact k)
end
end Go.PB
namespace Go.Proofs.Ytodgemainhokjaa
open Go Go.PB
attribute [local irreducible] Mo Bin Eql Tr Wo Ap Wle
abbrev cvT:Value:=.iface 165 (.agg #[])
abbrev tH:Hand:=tHand Try.prog cvT
abbrev mT:Hand:=mH cvT
abbrev seatR (sb says turn fin:Nat):HProp:=fro sb 0 [.chan (some turn),.chan (some fin),.chan (some says)]
abbrev gateV (sb:Nat):Value:=.iface 123 (.pointer (some ⟨sb,0,none⟩))
abbrev tx (g:Game) (says turn fin wg:Nat) (ph:Ph g.σ g.θ):TX:=⟨g,says,turn,fin,wg,ph⟩
section
variable {g:Game} {says turn fin wg sb:Nat} {L F G:List HProp}
theorem Rd.seat {k:Nat} {v:Value} (hS:Has L (seatR sb says turn fin) G) (hk:[Value.chan (some turn),.chan (some fin),.chan (some says)][k]?=some v):Rd L sb k v :=
 Rd.of hS (Rd.fro hk (Nat.zero_add k).symm)
theorem seat_tr {s:g.σ} {q:g.θ} {m:Nat} {mk:Int × Int} {f:g.σ→g.σ × g.θ} (hp:g.plan q=some (mk,f)) (hh:Has L (g.U s) F) (hS:Has F (seatR sb says turn fin) G) (hcut:∀ h,Star F h→g.Pv q h) :
  Tr Try.prog tH 111 [.pointer (some ⟨sb,0,none⟩),.agg #[.int .u8 mk.1,.int .i64 mk.2]] L (tx g says turn fin wg (.busy s q m)) fun v L' x'=>∃ m' s',m=m'+1∧g.ok s'∧v=.tuple #[]∧L'=g.U s'::F∧x'=tx g says turn fin wg (.busy (f s').1 (f s').2 m'):=by
 refine Tr.post (R:=fun v L' x'=>∃ m' s',m=m'+1∧g.ok s'∧v=.tuple #[]∧x'=tx g says turn fin wg (.busy (f s').1 (f s').2 m')∧∀ h,Star L' h→Star (g.U s'::F) h) ?_
  (by rintro v L' x' ⟨m',s',h1,h0,rfl,rfl,h2⟩;exact ⟨_,⟨m',s',h1,h0,rfl,rfl,rfl⟩,h2⟩)
 have hsays:g.says q=.agg #[.int .u8 mk.1,.int .i64 mk.2,.bool false]:=by unfold Game.says;rw [hp];rfl
 obtain ⟨L2,hS2⟩:=hh.trans hS
 have r0:=Rd.seat (k:=0) hS rfl
 have r1:=Rd.seat (k:=1) hS2 rfl
 have r1':=Rd.seat (k:=1) hS rfl
 have r2:=Rd.seat (k:=2) hS2 rfl
 refine tr_of_body Try.func111 rfl Try.ntmps111 (by simp) fun um Q _ hQ=>?_
 simp only [argE,Nat.zero_add,Nat.reduceAdd]
 repeat (first | (apply wo_mo;apply mo_box;exact rfl;exact trivial) | refine we_seq ?_ | (refine wR ?_;try simp only [oS]) | refine wo_nil ?_ | refine wM ?_ | refine wA ?_ | (apply wo_no;exact rfl) | (apply wo_nu;exact rfl) | refine wK ?_ | refine wJ ?_ | refine wN ?_ | refine wD ?_ | (apply wo_po;apply mo_extract;exact rfl;exact rfl;exact gY) | (apply wo_po;apply mo_not;exact rfl;exact gY) | refine wL ?_ | (apply wo_po;apply mo_bin;exact rfl;exact rfl;exact bin_lss;exact gY) | (apply wo_po;apply mo_bin;exact rfl;exact rfl;exact bin_gtr;exact gY) | (apply wo_po;apply mo_bin;exact rfl;exact rfl;exact bin_leq;exact gY) | (apply wo_po;apply mo_bin;exact rfl;exact rfl;exact bin_geq;exact gY) | (apply wo_po;apply mo_bin;exact rfl;exact rfl;exact bin_eql;exact gY) | (apply wo_po;apply mo_bin;exact rfl;exact rfl;exact bin_neq;exact gY) | refine wadd ?_ | refine wsub ?_ | (apply wo_po;apply mo_bin;exact rfl;exact rfl;apply bin_ne;apply eql_ptr_nil;exact gY) | (apply wo_po;apply mo_bin;exact rfl;exact rfl;apply bin_eq;apply eql_ptr_nil;exact gY) | (apply wo_po;apply mo_bin;exact rfl;exact rfl;apply bin_ne;apply eql_slice_nil;exact gY) | (apply wo_po;apply mo_bin;exact rfl;exact rfl;apply bin_eq;apply eql_slice_nil;exact gY) | (apply wo_po;apply mo_bin;exact rfl;exact rfl;apply bin_ne;apply eql_nil_nil;exact gY) | (apply wo_po;apply mo_bin;exact rfl;exact rfl;apply bin_eq;apply eql_nil_nil;exact gY) | (apply wo_po;apply mo_bin;exact rfl;exact rfl;apply bin_ne;apply eql_iface_nil;exact gY) | refine wE ?_ | (apply wo_po;apply mo_conv;exact rfl;(first | exact wrap_i64 (by omega) (by omega) | exact wrap_u64 (by omega) (by omega));exact gY) | (apply wo_po;apply mo_min;exact rfl;exact rfl;exact gY) | refine wT ?_ | refine wF ?_ | refine we_ret ?_ | refine we_skip ?_ | refine we_label ?_ | refine we_block ?_ | refine we_scope ?_ | refine we_exit ?_)
 rintro v' L' ⟨bb,rfl,rfl⟩
 refine wo_ent (arr bb 0 [.int .u8 mk.1,.int .i64 mk.2]::L) .refl ?_
 repeat (first | (apply wo_po;apply mo_load;exact rfl;(first | exact .there r1 | exact .there r2);exact trivial) | (apply wo_po;apply mo_loadA (vs:=[.int .u8 mk.1,.int .i64 mk.2]);exact rfl;exact rfl;exact Rds.all .here;exact trivial) | (apply wo_po;apply mo_build (pv:=[(0,_)]);exact rfl;exact .cons rfl .nil;exact rfl;exact trivial) | refine we_seq ?_ | (refine wR ?_;try simp only [oS]) | refine wo_nil ?_ | refine wM ?_ | refine wA ?_ | (apply wo_no;exact rfl) | (apply wo_nu;exact rfl) | refine wK ?_ | refine wJ ?_ | refine wN ?_ | refine wD ?_ | (apply wo_po;apply mo_extract;exact rfl;exact rfl;exact gY) | (apply wo_po;apply mo_not;exact rfl;exact gY) | refine wL ?_ | (apply wo_po;apply mo_bin;exact rfl;exact rfl;exact bin_lss;exact gY) | (apply wo_po;apply mo_bin;exact rfl;exact rfl;exact bin_gtr;exact gY) | (apply wo_po;apply mo_bin;exact rfl;exact rfl;exact bin_leq;exact gY) | (apply wo_po;apply mo_bin;exact rfl;exact rfl;exact bin_geq;exact gY) | (apply wo_po;apply mo_bin;exact rfl;exact rfl;exact bin_eql;exact gY) | (apply wo_po;apply mo_bin;exact rfl;exact rfl;exact bin_neq;exact gY) | refine wadd ?_ | refine wsub ?_ | (apply wo_po;apply mo_bin;exact rfl;exact rfl;apply bin_ne;apply eql_ptr_nil;exact gY) | (apply wo_po;apply mo_bin;exact rfl;exact rfl;apply bin_eq;apply eql_ptr_nil;exact gY) | (apply wo_po;apply mo_bin;exact rfl;exact rfl;apply bin_ne;apply eql_slice_nil;exact gY) | (apply wo_po;apply mo_bin;exact rfl;exact rfl;apply bin_eq;apply eql_slice_nil;exact gY) | (apply wo_po;apply mo_bin;exact rfl;exact rfl;apply bin_ne;apply eql_nil_nil;exact gY) | (apply wo_po;apply mo_bin;exact rfl;exact rfl;apply bin_eq;apply eql_nil_nil;exact gY) | (apply wo_po;apply mo_bin;exact rfl;exact rfl;apply bin_ne;apply eql_iface_nil;exact gY) | refine wE ?_ | (apply wo_po;apply mo_conv;exact rfl;(first | exact wrap_i64 (by omega) (by omega) | exact wrap_u64 (by omega) (by omega));exact gY) | (apply wo_po;apply mo_min;exact rfl;exact rfl;exact gY) | refine wT ?_ | refine wF ?_ | refine we_ret ?_ | refine we_skip ?_ | refine we_label ?_ | refine we_block ?_ | refine we_scope ?_ | refine we_exit ?_)
 apply wo_say (q:=q) (R:=arr bb 0 [.int .u8 mk.1,.int .i64 mk.2]::F)
 exact rfl
 rw [hsays];exact rfl
 exact rfl
 exact .there hh
 exact trivial
 rw [show g.next q m=.said q m by unfold Game.next;rw [hp]]
 repeat (first | (apply wo_po;apply mo_load;exact rfl;(first | exact .there r0 | exact .there r1');exact trivial) | refine wlssT ?_ | refine wlssF ?_ | refine wleqT ?_ | refine wleqF ?_ | refine wgtrT ?_ | refine wgtrF ?_ | refine wgeqT ?_ | refine wgeqF ?_ | refine weqlT ?_ | refine weqlF ?_ | refine wneqT ?_ | refine wneqF ?_ | refine we_seq ?_ | (refine wR ?_;try simp only [oS]) | refine wo_nil ?_ | refine wM ?_ | refine wA ?_ | (apply wo_no;exact rfl) | (apply wo_nu;exact rfl) | refine wK ?_ | refine wJ ?_ | refine wN ?_ | refine wD ?_ | (apply wo_po;apply mo_extract;exact rfl;exact rfl;exact gY) | (apply wo_po;apply mo_not;exact rfl;exact gY) | refine wL ?_ | (apply wo_po;apply mo_bin;exact rfl;exact rfl;exact bin_lss;exact gY) | (apply wo_po;apply mo_bin;exact rfl;exact rfl;exact bin_gtr;exact gY) | (apply wo_po;apply mo_bin;exact rfl;exact rfl;exact bin_leq;exact gY) | (apply wo_po;apply mo_bin;exact rfl;exact rfl;exact bin_geq;exact gY) | (apply wo_po;apply mo_bin;exact rfl;exact rfl;exact bin_eql;exact gY) | (apply wo_po;apply mo_bin;exact rfl;exact rfl;exact bin_neq;exact gY) | refine wadd ?_ | refine wsub ?_ | (apply wo_po;apply mo_bin;exact rfl;exact rfl;apply bin_ne;apply eql_ptr_nil;exact gY) | (apply wo_po;apply mo_bin;exact rfl;exact rfl;apply bin_eq;apply eql_ptr_nil;exact gY) | (apply wo_po;apply mo_bin;exact rfl;exact rfl;apply bin_ne;apply eql_slice_nil;exact gY) | (apply wo_po;apply mo_bin;exact rfl;exact rfl;apply bin_eq;apply eql_slice_nil;exact gY) | (apply wo_po;apply mo_bin;exact rfl;exact rfl;apply bin_ne;apply eql_nil_nil;exact gY) | (apply wo_po;apply mo_bin;exact rfl;exact rfl;apply bin_eq;apply eql_nil_nil;exact gY) | (apply wo_po;apply mo_bin;exact rfl;exact rfl;apply bin_ne;apply eql_iface_nil;exact gY) | refine wE ?_ | (apply wo_po;apply mo_conv;exact rfl;(first | exact wrap_i64 (by omega) (by omega) | exact wrap_u64 (by omega) (by omega));exact gY) | (apply wo_po;apply mo_min;exact rfl;exact rfl;exact gY) | refine wT ?_ | refine wF ?_ | refine we_ret ?_ | refine we_skip ?_ | refine we_label ?_ | refine we_block ?_ | refine we_scope ?_ | refine we_exit ?_)
 apply wo_wait
 exact rfl
 exact rfl
 exact hp
 exact trivial
 ·intro m' s' hm ho
  repeat (first | (fail) | refine wlssT ?_ | refine wlssF ?_ | refine wleqT ?_ | refine wleqF ?_ | refine wgtrT ?_ | refine wgtrF ?_ | refine wgeqT ?_ | refine wgeqF ?_ | refine weqlT ?_ | refine weqlF ?_ | refine wneqT ?_ | refine wneqF ?_ | refine we_seq ?_ | (refine wR ?_;try simp only [oS]) | refine wo_nil ?_ | refine wM ?_ | refine wA ?_ | (apply wo_no;exact rfl) | (apply wo_nu;exact rfl) | refine wK ?_ | refine wJ ?_ | refine wN ?_ | refine wD ?_ | (apply wo_po;apply mo_extract;exact rfl;exact rfl;exact gY) | (apply wo_po;apply mo_not;exact rfl;exact gY) | refine wL ?_ | (apply wo_po;apply mo_bin;exact rfl;exact rfl;exact bin_lss;exact gY) | (apply wo_po;apply mo_bin;exact rfl;exact rfl;exact bin_gtr;exact gY) | (apply wo_po;apply mo_bin;exact rfl;exact rfl;exact bin_leq;exact gY) | (apply wo_po;apply mo_bin;exact rfl;exact rfl;exact bin_geq;exact gY) | (apply wo_po;apply mo_bin;exact rfl;exact rfl;exact bin_eql;exact gY) | (apply wo_po;apply mo_bin;exact rfl;exact rfl;exact bin_neq;exact gY) | refine wadd ?_ | refine wsub ?_ | (apply wo_po;apply mo_bin;exact rfl;exact rfl;apply bin_ne;apply eql_ptr_nil;exact gY) | (apply wo_po;apply mo_bin;exact rfl;exact rfl;apply bin_eq;apply eql_ptr_nil;exact gY) | (apply wo_po;apply mo_bin;exact rfl;exact rfl;apply bin_ne;apply eql_slice_nil;exact gY) | (apply wo_po;apply mo_bin;exact rfl;exact rfl;apply bin_eq;apply eql_slice_nil;exact gY) | (apply wo_po;apply mo_bin;exact rfl;exact rfl;apply bin_ne;apply eql_nil_nil;exact gY) | (apply wo_po;apply mo_bin;exact rfl;exact rfl;apply bin_eq;apply eql_nil_nil;exact gY) | (apply wo_po;apply mo_bin;exact rfl;exact rfl;apply bin_ne;apply eql_iface_nil;exact gY) | refine wE ?_ | (apply wo_po;apply mo_conv;exact rfl;(first | exact wrap_i64 (by omega) (by omega) | exact wrap_u64 (by omega) (by omega));exact gY) | (apply wo_po;apply mo_min;exact rfl;exact rfl;exact gY) | refine wT ?_ | refine wF ?_ | refine we_ret ?_ | refine we_skip ?_ | refine we_label ?_ | refine we_block ?_ | refine we_scope ?_ | refine we_exit ?_)
  (first | refine or0 Try.func111 Try.results111 hQ ?_ | refine on0 Try.func111 Try.results111 hQ ?_)
  exact ⟨m',s',hm,ho,rfl,rfl,fun h st=>star_map st (fun _ a=>a) (fun _=>star_drop)⟩
 ·repeat (first | (apply wo_po;apply mo_build (pv:=[]);exact rfl;exact .nil;exact rfl;exact trivial) | (apply wo_po;apply mo_makeInterface;exact rfl;exact trivial) | refine wlssT ?_ | refine wlssF ?_ | refine wleqT ?_ | refine wleqF ?_ | refine wgtrT ?_ | refine wgtrF ?_ | refine wgeqT ?_ | refine wgeqF ?_ | refine weqlT ?_ | refine weqlF ?_ | refine wneqT ?_ | refine wneqF ?_ | refine we_seq ?_ | (refine wR ?_;try simp only [oS]) | refine wo_nil ?_ | refine wM ?_ | refine wA ?_ | (apply wo_no;exact rfl) | (apply wo_nu;exact rfl) | refine wK ?_ | refine wJ ?_ | refine wN ?_ | refine wD ?_ | (apply wo_po;apply mo_extract;exact rfl;exact rfl;exact gY) | (apply wo_po;apply mo_not;exact rfl;exact gY) | refine wL ?_ | (apply wo_po;apply mo_bin;exact rfl;exact rfl;exact bin_lss;exact gY) | (apply wo_po;apply mo_bin;exact rfl;exact rfl;exact bin_gtr;exact gY) | (apply wo_po;apply mo_bin;exact rfl;exact rfl;exact bin_leq;exact gY) | (apply wo_po;apply mo_bin;exact rfl;exact rfl;exact bin_geq;exact gY) | (apply wo_po;apply mo_bin;exact rfl;exact rfl;exact bin_eql;exact gY) | (apply wo_po;apply mo_bin;exact rfl;exact rfl;exact bin_neq;exact gY) | refine wadd ?_ | refine wsub ?_ | (apply wo_po;apply mo_bin;exact rfl;exact rfl;apply bin_ne;apply eql_ptr_nil;exact gY) | (apply wo_po;apply mo_bin;exact rfl;exact rfl;apply bin_eq;apply eql_ptr_nil;exact gY) | (apply wo_po;apply mo_bin;exact rfl;exact rfl;apply bin_ne;apply eql_slice_nil;exact gY) | (apply wo_po;apply mo_bin;exact rfl;exact rfl;apply bin_eq;apply eql_slice_nil;exact gY) | (apply wo_po;apply mo_bin;exact rfl;exact rfl;apply bin_ne;apply eql_nil_nil;exact gY) | (apply wo_po;apply mo_bin;exact rfl;exact rfl;apply bin_eq;apply eql_nil_nil;exact gY) | (apply wo_po;apply mo_bin;exact rfl;exact rfl;apply bin_ne;apply eql_iface_nil;exact gY) | refine wE ?_ | (apply wo_po;apply mo_conv;exact rfl;(first | exact wrap_i64 (by omega) (by omega) | exact wrap_u64 (by omega) (by omega));exact gY) | (apply wo_po;apply mo_min;exact rfl;exact rfl;exact gY) | refine wT ?_ | refine wF ?_ | refine we_ret ?_ | refine we_skip ?_ | refine we_label ?_ | refine we_block ?_ | refine we_scope ?_ | refine we_exit ?_)
  apply wo_panic
  exact rfl
  exact trivial
  exact fun t h _ _ st=>Pass.ok _ t h _ (show tH.cut _ h (tx g says turn fin wg (.cut q)) from ⟨q,rfl,rfl,star_one (hcut h (star_drop st))⟩)
end
end Go.Proofs.Ytodgemainhokjaa
namespace Go.Proofs.Ytodgemainhokjaa
open Go Go.PB
attribute [local irreducible] Mo Bin Eql Tr Wo Ap Wle
structure ThrOk (g:Game) (ini:g.σ→g.σ × g.θ) (fv:Value) (M:HProp):Prop where
 run:∃ f first cap,callee? fv=some (f,first,cap)∧Ent' Try.prog f∧∀ sb says turn fin wg s n F,g.ok s→Tr Try.prog tH f (first++[gateV sb]++cap) (g.U s::seatR sb says turn fin::M::F) (tx g says turn fin wg (.busy (ini s).1 (ini s).2 n)) fun v L' x' =>
  ∃ s' q' n',x'=tx g says turn fin wg (.busy s' q' n')∧g.plan q'=none∧∀ h,Star L' h→Star (g.U s'::seatR sb says turn fin::g.Fin q'::F) h
theorem callee_one {fv:Value} {f:FuncId} {first cap:List Value} (h:callee? fv=some (f,first,cap)):fv.cells=#[fv]:=by
 cases fv <;> first | rfl | cases h
section
variable {g:Game} {says turn fin wg sb:Nat} {L F G:List HProp}
theorem rec_ok:∀ um h (x:TX) (L:List HProp) (Q:PB.End→FrameMode→Hp→TX→Prop),(um=.returning∨um=.panicking [{ v:=cvT,recovered:=false }])→Star L h→(∀ v um' h',settled um'=.returning→Star L h'→Q (.ret v) um' h' x)→Wf Try.prog tH 69 .deferred #[] um h x Q:=by
 intro um h x L Q hum hs hq
 refine wf_of_argE (args:=[]) (L:=L) Try.func69 rfl Try.ntmps69 (by simp) hs ?_
 simp only [argE]
 rcases hum with rfl | rfl
 ·repeat (first | (fail) | refine wlssT ?_ | refine wlssF ?_ | refine wleqT ?_ | refine wleqF ?_ | refine wgtrT ?_ | refine wgtrF ?_ | refine wgeqT ?_ | refine wgeqF ?_ | refine weqlT ?_ | refine weqlF ?_ | refine wneqT ?_ | refine wneqF ?_ | refine we_seq ?_ | (refine wR ?_;try simp only [oS]) | refine wo_nil ?_ | refine wM ?_ | refine wA ?_ | (apply wo_no;exact rfl) | (apply wo_nu;exact rfl) | refine wK ?_ | refine wJ ?_ | refine wN ?_ | refine wD ?_ | (apply wo_po;apply mo_extract;exact rfl;exact rfl;exact gY) | (apply wo_po;apply mo_not;exact rfl;exact gY) | refine wL ?_ | (apply wo_po;apply mo_bin;exact rfl;exact rfl;exact bin_lss;exact gY) | (apply wo_po;apply mo_bin;exact rfl;exact rfl;exact bin_gtr;exact gY) | (apply wo_po;apply mo_bin;exact rfl;exact rfl;exact bin_leq;exact gY) | (apply wo_po;apply mo_bin;exact rfl;exact rfl;exact bin_geq;exact gY) | (apply wo_po;apply mo_bin;exact rfl;exact rfl;exact bin_eql;exact gY) | (apply wo_po;apply mo_bin;exact rfl;exact rfl;exact bin_neq;exact gY) | refine wadd ?_ | refine wsub ?_ | (apply wo_po;apply mo_bin;exact rfl;exact rfl;apply bin_ne;apply eql_ptr_nil;exact gY) | (apply wo_po;apply mo_bin;exact rfl;exact rfl;apply bin_eq;apply eql_ptr_nil;exact gY) | (apply wo_po;apply mo_bin;exact rfl;exact rfl;apply bin_ne;apply eql_slice_nil;exact gY) | (apply wo_po;apply mo_bin;exact rfl;exact rfl;apply bin_eq;apply eql_slice_nil;exact gY) | (apply wo_po;apply mo_bin;exact rfl;exact rfl;apply bin_ne;apply eql_nil_nil;exact gY) | (apply wo_po;apply mo_bin;exact rfl;exact rfl;apply bin_eq;apply eql_nil_nil;exact gY) | (apply wo_po;apply mo_bin;exact rfl;exact rfl;apply bin_ne;apply eql_iface_nil;exact gY) | refine wE ?_ | (apply wo_po;apply mo_conv;exact rfl;(first | exact wrap_i64 (by omega) (by omega) | exact wrap_u64 (by omega) (by omega));exact gY) | (apply wo_po;apply mo_min;exact rfl;exact rfl;exact gY) | refine wT ?_ | refine wF ?_ | refine we_ret ?_ | refine we_skip ?_ | refine we_label ?_ | refine we_block ?_ | refine we_scope ?_ | refine we_exit ?_)
  refine wo_recN trivial rfl rfl ?_
  repeat (first | (fail) | refine wlssT ?_ | refine wlssF ?_ | refine wleqT ?_ | refine wleqF ?_ | refine wgtrT ?_ | refine wgtrF ?_ | refine wgeqT ?_ | refine wgeqF ?_ | refine weqlT ?_ | refine weqlF ?_ | refine wneqT ?_ | refine wneqF ?_ | refine we_seq ?_ | (refine wR ?_;try simp only [oS]) | refine wo_nil ?_ | refine wM ?_ | refine wA ?_ | (apply wo_no;exact rfl) | (apply wo_nu;exact rfl) | refine wK ?_ | refine wJ ?_ | refine wN ?_ | refine wD ?_ | (apply wo_po;apply mo_extract;exact rfl;exact rfl;exact gY) | (apply wo_po;apply mo_not;exact rfl;exact gY) | refine wL ?_ | (apply wo_po;apply mo_bin;exact rfl;exact rfl;exact bin_lss;exact gY) | (apply wo_po;apply mo_bin;exact rfl;exact rfl;exact bin_gtr;exact gY) | (apply wo_po;apply mo_bin;exact rfl;exact rfl;exact bin_leq;exact gY) | (apply wo_po;apply mo_bin;exact rfl;exact rfl;exact bin_geq;exact gY) | (apply wo_po;apply mo_bin;exact rfl;exact rfl;exact bin_eql;exact gY) | (apply wo_po;apply mo_bin;exact rfl;exact rfl;exact bin_neq;exact gY) | refine wadd ?_ | refine wsub ?_ | (apply wo_po;apply mo_bin;exact rfl;exact rfl;apply bin_ne;apply eql_ptr_nil;exact gY) | (apply wo_po;apply mo_bin;exact rfl;exact rfl;apply bin_eq;apply eql_ptr_nil;exact gY) | (apply wo_po;apply mo_bin;exact rfl;exact rfl;apply bin_ne;apply eql_slice_nil;exact gY) | (apply wo_po;apply mo_bin;exact rfl;exact rfl;apply bin_eq;apply eql_slice_nil;exact gY) | (apply wo_po;apply mo_bin;exact rfl;exact rfl;apply bin_ne;apply eql_nil_nil;exact gY) | (apply wo_po;apply mo_bin;exact rfl;exact rfl;apply bin_eq;apply eql_nil_nil;exact gY) | (apply wo_po;apply mo_bin;exact rfl;exact rfl;apply bin_ne;apply eql_iface_nil;exact gY) | refine wE ?_ | (apply wo_po;apply mo_conv;exact rfl;(first | exact wrap_i64 (by omega) (by omega) | exact wrap_u64 (by omega) (by omega));exact gY) | (apply wo_po;apply mo_min;exact rfl;exact rfl;exact gY) | refine wT ?_ | refine wF ?_ | refine we_ret ?_ | refine we_skip ?_ | refine we_label ?_ | refine we_block ?_ | refine we_scope ?_ | refine we_exit ?_)
  exact at_ret0 (kd:=.deferred) (R:=fun v L' x'=>L'=L∧x'=x) Try.func69 Try.results69 (by rintro v L' x' h' ⟨rfl,rfl⟩ st;exact hq v _ h' rfl st) (.inr rfl:Ex.normal=.ret∨Ex.normal=.normal) ⟨rfl,rfl⟩
 ·repeat (first | (fail) | refine wlssT ?_ | refine wlssF ?_ | refine wleqT ?_ | refine wleqF ?_ | refine wgtrT ?_ | refine wgtrF ?_ | refine wgeqT ?_ | refine wgeqF ?_ | refine weqlT ?_ | refine weqlF ?_ | refine wneqT ?_ | refine wneqF ?_ | refine we_seq ?_ | (refine wR ?_;try simp only [oS]) | refine wo_nil ?_ | refine wM ?_ | refine wA ?_ | (apply wo_no;exact rfl) | (apply wo_nu;exact rfl) | refine wK ?_ | refine wJ ?_ | refine wN ?_ | refine wD ?_ | (apply wo_po;apply mo_extract;exact rfl;exact rfl;exact gY) | (apply wo_po;apply mo_not;exact rfl;exact gY) | refine wL ?_ | (apply wo_po;apply mo_bin;exact rfl;exact rfl;exact bin_lss;exact gY) | (apply wo_po;apply mo_bin;exact rfl;exact rfl;exact bin_gtr;exact gY) | (apply wo_po;apply mo_bin;exact rfl;exact rfl;exact bin_leq;exact gY) | (apply wo_po;apply mo_bin;exact rfl;exact rfl;exact bin_geq;exact gY) | (apply wo_po;apply mo_bin;exact rfl;exact rfl;exact bin_eql;exact gY) | (apply wo_po;apply mo_bin;exact rfl;exact rfl;exact bin_neq;exact gY) | refine wadd ?_ | refine wsub ?_ | (apply wo_po;apply mo_bin;exact rfl;exact rfl;apply bin_ne;apply eql_ptr_nil;exact gY) | (apply wo_po;apply mo_bin;exact rfl;exact rfl;apply bin_eq;apply eql_ptr_nil;exact gY) | (apply wo_po;apply mo_bin;exact rfl;exact rfl;apply bin_ne;apply eql_slice_nil;exact gY) | (apply wo_po;apply mo_bin;exact rfl;exact rfl;apply bin_eq;apply eql_slice_nil;exact gY) | (apply wo_po;apply mo_bin;exact rfl;exact rfl;apply bin_ne;apply eql_nil_nil;exact gY) | (apply wo_po;apply mo_bin;exact rfl;exact rfl;apply bin_eq;apply eql_nil_nil;exact gY) | (apply wo_po;apply mo_bin;exact rfl;exact rfl;apply bin_ne;apply eql_iface_nil;exact gY) | refine wE ?_ | (apply wo_po;apply mo_conv;exact rfl;(first | exact wrap_i64 (by omega) (by omega) | exact wrap_u64 (by omega) (by omega));exact gY) | (apply wo_po;apply mo_min;exact rfl;exact rfl;exact gY) | refine wT ?_ | refine wF ?_ | refine we_ret ?_ | refine we_skip ?_ | refine we_label ?_ | refine we_block ?_ | refine we_scope ?_ | refine we_exit ?_)
  refine wo_recP trivial rfl rfl ?_
  repeat (first | (apply wo_po;apply mo_assertT;exact rfl;exact trivial) | (apply wo_mo;apply mo_alloc;exact trivial) | refine wlssT ?_ | refine wlssF ?_ | refine wleqT ?_ | refine wleqF ?_ | refine wgtrT ?_ | refine wgtrF ?_ | refine wgeqT ?_ | refine wgeqF ?_ | refine weqlT ?_ | refine weqlF ?_ | refine wneqT ?_ | refine wneqF ?_ | refine we_seq ?_ | (refine wR ?_;try simp only [oS]) | refine wo_nil ?_ | refine wM ?_ | refine wA ?_ | (apply wo_no;exact rfl) | (apply wo_nu;exact rfl) | refine wK ?_ | refine wJ ?_ | refine wN ?_ | refine wD ?_ | (apply wo_po;apply mo_extract;exact rfl;exact rfl;exact gY) | (apply wo_po;apply mo_not;exact rfl;exact gY) | refine wL ?_ | (apply wo_po;apply mo_bin;exact rfl;exact rfl;exact bin_lss;exact gY) | (apply wo_po;apply mo_bin;exact rfl;exact rfl;exact bin_gtr;exact gY) | (apply wo_po;apply mo_bin;exact rfl;exact rfl;exact bin_leq;exact gY) | (apply wo_po;apply mo_bin;exact rfl;exact rfl;exact bin_geq;exact gY) | (apply wo_po;apply mo_bin;exact rfl;exact rfl;exact bin_eql;exact gY) | (apply wo_po;apply mo_bin;exact rfl;exact rfl;exact bin_neq;exact gY) | refine wadd ?_ | refine wsub ?_ | (apply wo_po;apply mo_bin;exact rfl;exact rfl;apply bin_ne;apply eql_ptr_nil;exact gY) | (apply wo_po;apply mo_bin;exact rfl;exact rfl;apply bin_eq;apply eql_ptr_nil;exact gY) | (apply wo_po;apply mo_bin;exact rfl;exact rfl;apply bin_ne;apply eql_slice_nil;exact gY) | (apply wo_po;apply mo_bin;exact rfl;exact rfl;apply bin_eq;apply eql_slice_nil;exact gY) | (apply wo_po;apply mo_bin;exact rfl;exact rfl;apply bin_ne;apply eql_nil_nil;exact gY) | (apply wo_po;apply mo_bin;exact rfl;exact rfl;apply bin_eq;apply eql_nil_nil;exact gY) | (apply wo_po;apply mo_bin;exact rfl;exact rfl;apply bin_ne;apply eql_iface_nil;exact gY) | refine wE ?_ | (apply wo_po;apply mo_conv;exact rfl;(first | exact wrap_i64 (by omega) (by omega) | exact wrap_u64 (by omega) (by omega));exact gY) | (apply wo_po;apply mo_min;exact rfl;exact rfl;exact gY) | refine wT ?_ | refine wF ?_ | refine we_ret ?_ | refine we_skip ?_ | refine we_label ?_ | refine we_block ?_ | refine we_scope ?_ | refine we_exit ?_)
  rintro v' L' ⟨cb,rfl,rfl⟩
  repeat (first | (apply wo_pm;apply mo_storeA (c:=0) (k:=0) (a:=0) (vs:=[]);exact rfl;exact rfl;exact rfl;(intro w hw;simp [Value.cells] at hw);exact rfl;exact Nat.le_refl 0;exact .here;exact trivial) | refine wlssT ?_ | refine wlssF ?_ | refine wleqT ?_ | refine wleqF ?_ | refine wgtrT ?_ | refine wgtrF ?_ | refine wgeqT ?_ | refine wgeqF ?_ | refine weqlT ?_ | refine weqlF ?_ | refine wneqT ?_ | refine wneqF ?_ | refine we_seq ?_ | (refine wR ?_;try simp only [oS]) | refine wo_nil ?_ | refine wM ?_ | refine wA ?_ | (apply wo_no;exact rfl) | (apply wo_nu;exact rfl) | refine wK ?_ | refine wJ ?_ | refine wN ?_ | refine wD ?_ | (apply wo_po;apply mo_extract;exact rfl;exact rfl;exact gY) | (apply wo_po;apply mo_not;exact rfl;exact gY) | refine wL ?_ | (apply wo_po;apply mo_bin;exact rfl;exact rfl;exact bin_lss;exact gY) | (apply wo_po;apply mo_bin;exact rfl;exact rfl;exact bin_gtr;exact gY) | (apply wo_po;apply mo_bin;exact rfl;exact rfl;exact bin_leq;exact gY) | (apply wo_po;apply mo_bin;exact rfl;exact rfl;exact bin_geq;exact gY) | (apply wo_po;apply mo_bin;exact rfl;exact rfl;exact bin_eql;exact gY) | (apply wo_po;apply mo_bin;exact rfl;exact rfl;exact bin_neq;exact gY) | refine wadd ?_ | refine wsub ?_ | (apply wo_po;apply mo_bin;exact rfl;exact rfl;apply bin_ne;apply eql_ptr_nil;exact gY) | (apply wo_po;apply mo_bin;exact rfl;exact rfl;apply bin_eq;apply eql_ptr_nil;exact gY) | (apply wo_po;apply mo_bin;exact rfl;exact rfl;apply bin_ne;apply eql_slice_nil;exact gY) | (apply wo_po;apply mo_bin;exact rfl;exact rfl;apply bin_eq;apply eql_slice_nil;exact gY) | (apply wo_po;apply mo_bin;exact rfl;exact rfl;apply bin_ne;apply eql_nil_nil;exact gY) | (apply wo_po;apply mo_bin;exact rfl;exact rfl;apply bin_eq;apply eql_nil_nil;exact gY) | (apply wo_po;apply mo_bin;exact rfl;exact rfl;apply bin_ne;apply eql_iface_nil;exact gY) | refine wE ?_ | (apply wo_po;apply mo_conv;exact rfl;(first | exact wrap_i64 (by omega) (by omega) | exact wrap_u64 (by omega) (by omega));exact gY) | (apply wo_po;apply mo_min;exact rfl;exact rfl;exact gY) | refine wT ?_ | refine wF ?_ | refine we_ret ?_ | refine we_skip ?_ | refine we_label ?_ | refine we_block ?_ | refine we_scope ?_ | refine we_exit ?_)
  exact at_ret0 (kd:=.deferred) (R:=fun v L' x'=>(∀ h,Star L' h→Star L h)∧x'=x) Try.func69 Try.results69 (by rintro v L' x' h' ⟨hl,rfl⟩ st;exact hq v _ h' rfl (hl _ st)) (.inr rfl:Ex.normal=.ret∨Ex.normal=.normal) ⟨fun h st=>star_drop st,rfl⟩
theorem goes_tr {ini:g.σ→g.σ × g.θ} {fv:Value} {M:HProp} {s:g.σ} {n ab tb xb:Nat} (TO:ThrOk g ini fv M) (hok:g.ok s) (hfin:∀ q h,g.Pv q h→g.Fin q h) {hc:Hp}
  (hs:Star [g.U s,seatR sb says turn fin,M,arr ab 0 [.pointer (some ⟨wg,0,none⟩)],arr tb 0 [fv],fro xb 0 [.pointer (some ⟨sb,0,none⟩)]] hc) :
  Nonempty (Run Try.prog tH false (tEnd Try.prog 62) (goFr Try.prog { target:=.fn (.func 68) [.pointer (some ⟨ab,0,none⟩),.pointer (some ⟨tb,0,none⟩),.pointer (some ⟨xb,0,none⟩)].toArray,args:=#[] }) [] hc
   (tx g says turn fin wg (.busy (ini s).1 (ini s).2 n))):=by
 obtain ⟨f,first,cap,hcal,en,tr⟩:=TO.run
 have e1:Enterable Try.prog 68:=(inferInstance:Ent' Try.prog 68).ok
 have e2:Enterable Try.prog 69:=(inferInstance:Ent' Try.prog 69).ok
 have e3:Enterable Try.prog 62:=(inferInstance:Ent' Try.prog 62).ok
 refine go_run (fR:=69) Try.func68 rfl Try.ntmps68 (by simp) Try.results68 e1 e2 e3 rec_ok ⟨rfl,hfin⟩ hs ?_
 simp only [argE,Nat.zero_add,Nat.reduceAdd]
 have rx:∀ {L:List HProp},Rd ([arr ab 0 [.pointer (some ⟨wg,0,none⟩)],arr tb 0 [fv],fro xb 0 [.pointer (some ⟨sb,0,none⟩)]]) xb 0 (.pointer (some ⟨sb,0,none⟩)):=.there (.there (Rd.fro (k:=0) rfl rfl))
 repeat (first | (fail) | refine wlssT ?_ | refine wlssF ?_ | refine wleqT ?_ | refine wleqF ?_ | refine wgtrT ?_ | refine wgtrF ?_ | refine wgeqT ?_ | refine wgeqF ?_ | refine weqlT ?_ | refine weqlF ?_ | refine wneqT ?_ | refine wneqF ?_ | refine we_seq ?_ | (refine wR ?_;try simp only [oS]) | refine wo_nil ?_ | refine wM ?_ | refine wA ?_ | (apply wo_no;exact rfl) | (apply wo_nu;exact rfl) | refine wK ?_ | refine wJ ?_ | refine wN ?_ | refine wD ?_ | (apply wo_po;apply mo_extract;exact rfl;exact rfl;exact gY) | (apply wo_po;apply mo_not;exact rfl;exact gY) | refine wL ?_ | (apply wo_po;apply mo_bin;exact rfl;exact rfl;exact bin_lss;exact gY) | (apply wo_po;apply mo_bin;exact rfl;exact rfl;exact bin_gtr;exact gY) | (apply wo_po;apply mo_bin;exact rfl;exact rfl;exact bin_leq;exact gY) | (apply wo_po;apply mo_bin;exact rfl;exact rfl;exact bin_geq;exact gY) | (apply wo_po;apply mo_bin;exact rfl;exact rfl;exact bin_eql;exact gY) | (apply wo_po;apply mo_bin;exact rfl;exact rfl;exact bin_neq;exact gY) | refine wadd ?_ | refine wsub ?_ | (apply wo_po;apply mo_bin;exact rfl;exact rfl;apply bin_ne;apply eql_ptr_nil;exact gY) | (apply wo_po;apply mo_bin;exact rfl;exact rfl;apply bin_eq;apply eql_ptr_nil;exact gY) | (apply wo_po;apply mo_bin;exact rfl;exact rfl;apply bin_ne;apply eql_slice_nil;exact gY) | (apply wo_po;apply mo_bin;exact rfl;exact rfl;apply bin_eq;apply eql_slice_nil;exact gY) | (apply wo_po;apply mo_bin;exact rfl;exact rfl;apply bin_ne;apply eql_nil_nil;exact gY) | (apply wo_po;apply mo_bin;exact rfl;exact rfl;apply bin_eq;apply eql_nil_nil;exact gY) | (apply wo_po;apply mo_bin;exact rfl;exact rfl;apply bin_ne;apply eql_iface_nil;exact gY) | refine wE ?_ | (apply wo_po;apply mo_conv;exact rfl;(first | exact wrap_i64 (by omega) (by omega) | exact wrap_u64 (by omega) (by omega));exact gY) | (apply wo_po;apply mo_min;exact rfl;exact rfl;exact gY) | refine wT ?_ | refine wF ?_ | refine we_ret ?_ | refine we_skip ?_ | refine we_label ?_ | refine we_block ?_ | refine we_scope ?_ | refine we_exit ?_)
 refine wo_defer (first:=[]) (cap:=[]) (args:=[_]) (vs:=[.pointer (some ⟨wg,0,none⟩)]) rfl (.cons rfl .nil) trivial ?_
 repeat (first | (fail) | refine wlssT ?_ | refine wlssF ?_ | refine wleqT ?_ | refine wleqF ?_ | refine wgtrT ?_ | refine wgtrF ?_ | refine wgeqT ?_ | refine wgeqF ?_ | refine weqlT ?_ | refine weqlF ?_ | refine wneqT ?_ | refine wneqF ?_ | refine we_seq ?_ | (refine wR ?_;try simp only [oS]) | refine wo_nil ?_ | refine wM ?_ | refine wA ?_ | (apply wo_no;exact rfl) | (apply wo_nu;exact rfl) | refine wK ?_ | refine wJ ?_ | refine wN ?_ | refine wD ?_ | (apply wo_po;apply mo_extract;exact rfl;exact rfl;exact gY) | (apply wo_po;apply mo_not;exact rfl;exact gY) | refine wL ?_ | (apply wo_po;apply mo_bin;exact rfl;exact rfl;exact bin_lss;exact gY) | (apply wo_po;apply mo_bin;exact rfl;exact rfl;exact bin_gtr;exact gY) | (apply wo_po;apply mo_bin;exact rfl;exact rfl;exact bin_leq;exact gY) | (apply wo_po;apply mo_bin;exact rfl;exact rfl;exact bin_geq;exact gY) | (apply wo_po;apply mo_bin;exact rfl;exact rfl;exact bin_eql;exact gY) | (apply wo_po;apply mo_bin;exact rfl;exact rfl;exact bin_neq;exact gY) | refine wadd ?_ | refine wsub ?_ | (apply wo_po;apply mo_bin;exact rfl;exact rfl;apply bin_ne;apply eql_ptr_nil;exact gY) | (apply wo_po;apply mo_bin;exact rfl;exact rfl;apply bin_eq;apply eql_ptr_nil;exact gY) | (apply wo_po;apply mo_bin;exact rfl;exact rfl;apply bin_ne;apply eql_slice_nil;exact gY) | (apply wo_po;apply mo_bin;exact rfl;exact rfl;apply bin_eq;apply eql_slice_nil;exact gY) | (apply wo_po;apply mo_bin;exact rfl;exact rfl;apply bin_ne;apply eql_nil_nil;exact gY) | (apply wo_po;apply mo_bin;exact rfl;exact rfl;apply bin_eq;apply eql_nil_nil;exact gY) | (apply wo_po;apply mo_bin;exact rfl;exact rfl;apply bin_ne;apply eql_iface_nil;exact gY) | refine wE ?_ | (apply wo_po;apply mo_conv;exact rfl;(first | exact wrap_i64 (by omega) (by omega) | exact wrap_u64 (by omega) (by omega));exact gY) | (apply wo_po;apply mo_min;exact rfl;exact rfl;exact gY) | refine wT ?_ | refine wF ?_ | refine we_ret ?_ | refine we_skip ?_ | refine we_label ?_ | refine we_block ?_ | refine we_scope ?_ | refine we_exit ?_)
 refine wo_defer (first:=[]) (cap:=[]) (args:=[]) (vs:=[]) rfl .nil trivial ?_
 repeat (first | (apply wo_po;apply mo_load;exact rfl;exact .there (.there (.there (rx (L:=[]))));exact trivial) | (apply wo_po;apply mo_makeInterface;exact rfl;exact trivial) | refine wlssT ?_ | refine wlssF ?_ | refine wleqT ?_ | refine wleqF ?_ | refine wgtrT ?_ | refine wgtrF ?_ | refine wgeqT ?_ | refine wgeqF ?_ | refine weqlT ?_ | refine weqlF ?_ | refine wneqT ?_ | refine wneqF ?_ | refine we_seq ?_ | (refine wR ?_;try simp only [oS]) | refine wo_nil ?_ | refine wM ?_ | refine wA ?_ | (apply wo_no;exact rfl) | (apply wo_nu;exact rfl) | refine wK ?_ | refine wJ ?_ | refine wN ?_ | refine wD ?_ | (apply wo_po;apply mo_extract;exact rfl;exact rfl;exact gY) | (apply wo_po;apply mo_not;exact rfl;exact gY) | refine wL ?_ | (apply wo_po;apply mo_bin;exact rfl;exact rfl;exact bin_lss;exact gY) | (apply wo_po;apply mo_bin;exact rfl;exact rfl;exact bin_gtr;exact gY) | (apply wo_po;apply mo_bin;exact rfl;exact rfl;exact bin_leq;exact gY) | (apply wo_po;apply mo_bin;exact rfl;exact rfl;exact bin_geq;exact gY) | (apply wo_po;apply mo_bin;exact rfl;exact rfl;exact bin_eql;exact gY) | (apply wo_po;apply mo_bin;exact rfl;exact rfl;exact bin_neq;exact gY) | refine wadd ?_ | refine wsub ?_ | (apply wo_po;apply mo_bin;exact rfl;exact rfl;apply bin_ne;apply eql_ptr_nil;exact gY) | (apply wo_po;apply mo_bin;exact rfl;exact rfl;apply bin_eq;apply eql_ptr_nil;exact gY) | (apply wo_po;apply mo_bin;exact rfl;exact rfl;apply bin_ne;apply eql_slice_nil;exact gY) | (apply wo_po;apply mo_bin;exact rfl;exact rfl;apply bin_eq;apply eql_slice_nil;exact gY) | (apply wo_po;apply mo_bin;exact rfl;exact rfl;apply bin_ne;apply eql_nil_nil;exact gY) | (apply wo_po;apply mo_bin;exact rfl;exact rfl;apply bin_eq;apply eql_nil_nil;exact gY) | (apply wo_po;apply mo_bin;exact rfl;exact rfl;apply bin_ne;apply eql_iface_nil;exact gY) | refine wE ?_ | (apply wo_po;apply mo_conv;exact rfl;(first | exact wrap_i64 (by omega) (by omega) | exact wrap_u64 (by omega) (by omega));exact gY) | (apply wo_po;apply mo_min;exact rfl;exact rfl;exact gY) | refine wT ?_ | refine wF ?_ | refine we_ret ?_ | refine we_skip ?_ | refine we_label ?_ | refine we_block ?_ | refine we_scope ?_ | refine we_exit ?_)
 refine wo_callv (args:=[_]) (pk:=⟨fun ch t h x ⟨q,a,b,c⟩=>⟨rfl,b,q,a,c⟩⟩) rfl hcal (.cons rfl .nil) trivial (tr sb says turn fin wg s n _ hok) ?_
 rintro v L' x' ⟨s',q',n',rfl,hp,hL⟩
 refine wo_star _ hL ?_
 have r2:∀ {c:HProp},Rd (g.U s'::seatR sb says turn fin::g.Fin q'::[arr ab 0 [.pointer (some ⟨wg,0,none⟩)],arr tb 0 [fv],fro xb 0 [.pointer (some ⟨sb,0,none⟩)]]) sb 2 (.chan (some says)):=.there (Rd.fro (k:=2) rfl rfl)
 have r1:Rd (g.U s'::seatR sb says turn fin::g.Fin q'::[arr ab 0 [.pointer (some ⟨wg,0,none⟩)],arr tb 0 [fv],fro xb 0 [.pointer (some ⟨sb,0,none⟩)]]) sb 1 (.chan (some fin)):=.there (Rd.fro (k:=1) rfl rfl)
 have hsays:g.says q'=.agg #[.int .u8 0,.int .i64 0,.bool true]:=by unfold Game.says;rw [hp];rfl
 repeat (first | (apply wo_po;apply mo_load;exact rfl;exact .there (.there (.there (rx (L:=[]))));exact trivial) | (apply wo_po;apply mo_load;exact rfl;(first | exact r2 (c:=g.Fin q') | exact r1);exact trivial) | (apply wo_po;apply mo_build (pv:=[(1,_)]);exact rfl;exact .cons rfl .nil;exact rfl;exact trivial) | refine wlssT ?_ | refine wlssF ?_ | refine wleqT ?_ | refine wleqF ?_ | refine wgtrT ?_ | refine wgtrF ?_ | refine wgeqT ?_ | refine wgeqF ?_ | refine weqlT ?_ | refine weqlF ?_ | refine wneqT ?_ | refine wneqF ?_ | refine we_seq ?_ | (refine wR ?_;try simp only [oS]) | refine wo_nil ?_ | refine wM ?_ | refine wA ?_ | (apply wo_no;exact rfl) | (apply wo_nu;exact rfl) | refine wK ?_ | refine wJ ?_ | refine wN ?_ | refine wD ?_ | (apply wo_po;apply mo_extract;exact rfl;exact rfl;exact gY) | (apply wo_po;apply mo_not;exact rfl;exact gY) | refine wL ?_ | (apply wo_po;apply mo_bin;exact rfl;exact rfl;exact bin_lss;exact gY) | (apply wo_po;apply mo_bin;exact rfl;exact rfl;exact bin_gtr;exact gY) | (apply wo_po;apply mo_bin;exact rfl;exact rfl;exact bin_leq;exact gY) | (apply wo_po;apply mo_bin;exact rfl;exact rfl;exact bin_geq;exact gY) | (apply wo_po;apply mo_bin;exact rfl;exact rfl;exact bin_eql;exact gY) | (apply wo_po;apply mo_bin;exact rfl;exact rfl;exact bin_neq;exact gY) | refine wadd ?_ | refine wsub ?_ | (apply wo_po;apply mo_bin;exact rfl;exact rfl;apply bin_ne;apply eql_ptr_nil;exact gY) | (apply wo_po;apply mo_bin;exact rfl;exact rfl;apply bin_eq;apply eql_ptr_nil;exact gY) | (apply wo_po;apply mo_bin;exact rfl;exact rfl;apply bin_ne;apply eql_slice_nil;exact gY) | (apply wo_po;apply mo_bin;exact rfl;exact rfl;apply bin_eq;apply eql_slice_nil;exact gY) | (apply wo_po;apply mo_bin;exact rfl;exact rfl;apply bin_ne;apply eql_nil_nil;exact gY) | (apply wo_po;apply mo_bin;exact rfl;exact rfl;apply bin_eq;apply eql_nil_nil;exact gY) | (apply wo_po;apply mo_bin;exact rfl;exact rfl;apply bin_ne;apply eql_iface_nil;exact gY) | refine wE ?_ | (apply wo_po;apply mo_conv;exact rfl;(first | exact wrap_i64 (by omega) (by omega) | exact wrap_u64 (by omega) (by omega));exact gY) | (apply wo_po;apply mo_min;exact rfl;exact rfl;exact gY) | refine wT ?_ | refine wF ?_ | refine we_ret ?_ | refine we_skip ?_ | refine we_label ?_ | refine we_block ?_ | refine we_scope ?_ | refine we_exit ?_)
 apply wo_say (q:=q')
 exact rfl
 rw [hsays];exact rfl
 exact rfl
 exact .here
 exact trivial
 rw [show g.next q' n'=.over q' by unfold Game.next;rw [hp]]
 repeat (first | (fail) | refine wlssT ?_ | refine wlssF ?_ | refine wleqT ?_ | refine wleqF ?_ | refine wgtrT ?_ | refine wgtrF ?_ | refine wgeqT ?_ | refine wgeqF ?_ | refine weqlT ?_ | refine weqlF ?_ | refine wneqT ?_ | refine wneqF ?_ | refine we_seq ?_ | (refine wR ?_;try simp only [oS]) | refine wo_nil ?_ | refine wM ?_ | refine wA ?_ | (apply wo_no;exact rfl) | (apply wo_nu;exact rfl) | refine wK ?_ | refine wJ ?_ | refine wN ?_ | refine wD ?_ | (apply wo_po;apply mo_extract;exact rfl;exact rfl;exact gY) | (apply wo_po;apply mo_not;exact rfl;exact gY) | refine wL ?_ | (apply wo_po;apply mo_bin;exact rfl;exact rfl;exact bin_lss;exact gY) | (apply wo_po;apply mo_bin;exact rfl;exact rfl;exact bin_gtr;exact gY) | (apply wo_po;apply mo_bin;exact rfl;exact rfl;exact bin_leq;exact gY) | (apply wo_po;apply mo_bin;exact rfl;exact rfl;exact bin_geq;exact gY) | (apply wo_po;apply mo_bin;exact rfl;exact rfl;exact bin_eql;exact gY) | (apply wo_po;apply mo_bin;exact rfl;exact rfl;exact bin_neq;exact gY) | refine wadd ?_ | refine wsub ?_ | (apply wo_po;apply mo_bin;exact rfl;exact rfl;apply bin_ne;apply eql_ptr_nil;exact gY) | (apply wo_po;apply mo_bin;exact rfl;exact rfl;apply bin_eq;apply eql_ptr_nil;exact gY) | (apply wo_po;apply mo_bin;exact rfl;exact rfl;apply bin_ne;apply eql_slice_nil;exact gY) | (apply wo_po;apply mo_bin;exact rfl;exact rfl;apply bin_eq;apply eql_slice_nil;exact gY) | (apply wo_po;apply mo_bin;exact rfl;exact rfl;apply bin_ne;apply eql_nil_nil;exact gY) | (apply wo_po;apply mo_bin;exact rfl;exact rfl;apply bin_eq;apply eql_nil_nil;exact gY) | (apply wo_po;apply mo_bin;exact rfl;exact rfl;apply bin_ne;apply eql_iface_nil;exact gY) | refine wE ?_ | (apply wo_po;apply mo_conv;exact rfl;(first | exact wrap_i64 (by omega) (by omega) | exact wrap_u64 (by omega) (by omega));exact gY) | (apply wo_po;apply mo_min;exact rfl;exact rfl;exact gY) | refine wT ?_ | refine wF ?_ | refine we_ret ?_ | refine we_skip ?_ | refine we_label ?_ | refine we_block ?_ | refine we_scope ?_ | refine we_exit ?_)
 exact fun t h _ _ st=>⟨rfl,q',rfl,star_map (star_drop st) (fun _ a=>a) (fun _ _=>trivial)⟩
def lastC:Option (Int × Int)→List Value
 | some m=>[.int .u8 m.1,.int .i64 m.2,.bool false]
 | none=>[.int .u8 0,.int .i64 0,.bool true]
theorem lastC_says {q:g.θ}:(g.says q).cells.toList=lastC ((g.plan q).map (·.1)):=by
 unfold Game.says
 cases (g.plan q).map (·.1) <;> rfl
theorem lastC_len {o:Option (Int × Int)}:(lastC o).length=3:=by cases o <;> rfl
theorem lastC_one {o:Option (Int × Int)}:∀ w∈lastC o,one w=true:=by
 cases o <;> intro w hw <;> simp [lastC] at hw <;> rcases hw with rfl | rfl | rfl <;> rfl
abbrev gx (g:Game) (wg:Nat) (seats:List (Seat g.σ g.θ)) (tok:Option g.σ) (left:Nat) (ad:Nat):MX:=.game ⟨g,wg,seats,tok,left,ad,false,.play,none,0⟩
theorem run_tr {ini:g.σ→g.σ × g.θ} {fv:Value} {M:HProp} {s:g.σ} {seats:List (Seat g.σ g.θ)} {left:Nat} (TO:ThrOk g ini fv M) (hok:g.ok s) (hfin:∀ q h,g.Pv q h→g.Fin q h) (hlen:seats.length<1000) (hs:∀ h,Star F h→h.shp wg=some (119,2)) :
  Tr Try.prog mT 51 [.pointer (some ⟨sb,0,none⟩),fv,.pointer (some ⟨wg,0,none⟩)]
   (g.U s::M::arr sb 0 [.chan (some turn),.chan (some fin),.chan (some says),.int .u8 0,.int .i64 0,.bool false]::ob says newChan::ob turn newChan::ob fin newChan::F) (gx g wg seats (some s) left seats.length) fun v L' x' =>
   v=.tuple #[]∧L'=g.U (ini s).1::seatR sb says turn fin::arr sb 3 (lastC ((g.plan (ini s).2).map (·.1)))::F∧x'=gx g wg (seats++[⟨says,turn,fin,.said (ini s).2⟩]) (some (ini s).1) left (seats.length+1):=by
 refine Tr.post (R:=fun v L' x'=>v=.tuple #[]∧x'=gx g wg (seats++[⟨says,turn,fin,.said (ini s).2⟩]) (some (ini s).1) left (seats.length+1)∧∀ h,Star L' h→Star (g.U (ini s).1::seatR sb says turn fin::arr sb 3 (lastC ((g.plan (ini s).2).map (·.1)))::F) h) ?_
  (by rintro v L' x' ⟨rfl,rfl,h2⟩;exact ⟨_,⟨rfl,rfl,rfl⟩,h2⟩)
 have hfv:fv.cells=#[fv]:=by obtain ⟨f,first,cap,hc,_⟩:=TO.run;exact callee_one hc
 refine tr_of_body Try.func51 rfl Try.ntmps51 (by simp) fun um Q _ hQ=>?_
 simp only [argE,Nat.zero_add,Nat.reduceAdd]
 repeat (first | (apply wo_mo;apply mo_box;exact rfl;exact trivial) | refine we_seq ?_ | (refine wR ?_;try simp only [oS]) | refine wo_nil ?_ | refine wM ?_ | refine wA ?_ | (apply wo_no;exact rfl) | (apply wo_nu;exact rfl) | refine wK ?_ | refine wJ ?_ | refine wN ?_ | refine wD ?_ | (apply wo_po;apply mo_extract;exact rfl;exact rfl;exact gY) | (apply wo_po;apply mo_not;exact rfl;exact gY) | refine wL ?_ | (apply wo_po;apply mo_bin;exact rfl;exact rfl;exact bin_lss;exact gY) | (apply wo_po;apply mo_bin;exact rfl;exact rfl;exact bin_gtr;exact gY) | (apply wo_po;apply mo_bin;exact rfl;exact rfl;exact bin_leq;exact gY) | (apply wo_po;apply mo_bin;exact rfl;exact rfl;exact bin_geq;exact gY) | (apply wo_po;apply mo_bin;exact rfl;exact rfl;exact bin_eql;exact gY) | (apply wo_po;apply mo_bin;exact rfl;exact rfl;exact bin_neq;exact gY) | refine wadd ?_ | refine wsub ?_ | (apply wo_po;apply mo_bin;exact rfl;exact rfl;apply bin_ne;apply eql_ptr_nil;exact gY) | (apply wo_po;apply mo_bin;exact rfl;exact rfl;apply bin_eq;apply eql_ptr_nil;exact gY) | (apply wo_po;apply mo_bin;exact rfl;exact rfl;apply bin_ne;apply eql_slice_nil;exact gY) | (apply wo_po;apply mo_bin;exact rfl;exact rfl;apply bin_eq;apply eql_slice_nil;exact gY) | (apply wo_po;apply mo_bin;exact rfl;exact rfl;apply bin_ne;apply eql_nil_nil;exact gY) | (apply wo_po;apply mo_bin;exact rfl;exact rfl;apply bin_eq;apply eql_nil_nil;exact gY) | (apply wo_po;apply mo_bin;exact rfl;exact rfl;apply bin_ne;apply eql_iface_nil;exact gY) | refine wE ?_ | (apply wo_po;apply mo_conv;exact rfl;(first | exact wrap_i64 (by omega) (by omega) | exact wrap_u64 (by omega) (by omega));exact gY) | (apply wo_po;apply mo_min;exact rfl;exact rfl;exact gY) | refine wT ?_ | refine wF ?_ | refine we_ret ?_ | refine we_skip ?_ | refine we_label ?_ | refine we_block ?_ | refine we_scope ?_ | refine we_exit ?_)
 rintro v' L' ⟨xb,rfl,rfl⟩
 repeat (first | (apply wo_mo;apply mo_box;exact rfl;exact trivial) | refine we_seq ?_ | (refine wR ?_;try simp only [oS]) | refine wo_nil ?_ | refine wM ?_ | refine wA ?_ | (apply wo_no;exact rfl) | (apply wo_nu;exact rfl) | refine wK ?_ | refine wJ ?_ | refine wN ?_ | refine wD ?_ | (apply wo_po;apply mo_extract;exact rfl;exact rfl;exact gY) | (apply wo_po;apply mo_not;exact rfl;exact gY) | refine wL ?_ | (apply wo_po;apply mo_bin;exact rfl;exact rfl;exact bin_lss;exact gY) | (apply wo_po;apply mo_bin;exact rfl;exact rfl;exact bin_gtr;exact gY) | (apply wo_po;apply mo_bin;exact rfl;exact rfl;exact bin_leq;exact gY) | (apply wo_po;apply mo_bin;exact rfl;exact rfl;exact bin_geq;exact gY) | (apply wo_po;apply mo_bin;exact rfl;exact rfl;exact bin_eql;exact gY) | (apply wo_po;apply mo_bin;exact rfl;exact rfl;exact bin_neq;exact gY) | refine wadd ?_ | refine wsub ?_ | (apply wo_po;apply mo_bin;exact rfl;exact rfl;apply bin_ne;apply eql_ptr_nil;exact gY) | (apply wo_po;apply mo_bin;exact rfl;exact rfl;apply bin_eq;apply eql_ptr_nil;exact gY) | (apply wo_po;apply mo_bin;exact rfl;exact rfl;apply bin_ne;apply eql_slice_nil;exact gY) | (apply wo_po;apply mo_bin;exact rfl;exact rfl;apply bin_eq;apply eql_slice_nil;exact gY) | (apply wo_po;apply mo_bin;exact rfl;exact rfl;apply bin_ne;apply eql_nil_nil;exact gY) | (apply wo_po;apply mo_bin;exact rfl;exact rfl;apply bin_eq;apply eql_nil_nil;exact gY) | (apply wo_po;apply mo_bin;exact rfl;exact rfl;apply bin_ne;apply eql_iface_nil;exact gY) | refine wE ?_ | (apply wo_po;apply mo_conv;exact rfl;(first | exact wrap_i64 (by omega) (by omega) | exact wrap_u64 (by omega) (by omega));exact gY) | (apply wo_po;apply mo_min;exact rfl;exact rfl;exact gY) | refine wT ?_ | refine wF ?_ | refine we_ret ?_ | refine we_skip ?_ | refine we_label ?_ | refine we_block ?_ | refine we_scope ?_ | refine we_exit ?_)
 rintro v' L' ⟨tb,rfl,rfl⟩
 repeat (first | (apply wo_mo;apply mo_box;exact rfl;exact trivial) | refine we_seq ?_ | (refine wR ?_;try simp only [oS]) | refine wo_nil ?_ | refine wM ?_ | refine wA ?_ | (apply wo_no;exact rfl) | (apply wo_nu;exact rfl) | refine wK ?_ | refine wJ ?_ | refine wN ?_ | refine wD ?_ | (apply wo_po;apply mo_extract;exact rfl;exact rfl;exact gY) | (apply wo_po;apply mo_not;exact rfl;exact gY) | refine wL ?_ | (apply wo_po;apply mo_bin;exact rfl;exact rfl;exact bin_lss;exact gY) | (apply wo_po;apply mo_bin;exact rfl;exact rfl;exact bin_gtr;exact gY) | (apply wo_po;apply mo_bin;exact rfl;exact rfl;exact bin_leq;exact gY) | (apply wo_po;apply mo_bin;exact rfl;exact rfl;exact bin_geq;exact gY) | (apply wo_po;apply mo_bin;exact rfl;exact rfl;exact bin_eql;exact gY) | (apply wo_po;apply mo_bin;exact rfl;exact rfl;exact bin_neq;exact gY) | refine wadd ?_ | refine wsub ?_ | (apply wo_po;apply mo_bin;exact rfl;exact rfl;apply bin_ne;apply eql_ptr_nil;exact gY) | (apply wo_po;apply mo_bin;exact rfl;exact rfl;apply bin_eq;apply eql_ptr_nil;exact gY) | (apply wo_po;apply mo_bin;exact rfl;exact rfl;apply bin_ne;apply eql_slice_nil;exact gY) | (apply wo_po;apply mo_bin;exact rfl;exact rfl;apply bin_eq;apply eql_slice_nil;exact gY) | (apply wo_po;apply mo_bin;exact rfl;exact rfl;apply bin_ne;apply eql_nil_nil;exact gY) | (apply wo_po;apply mo_bin;exact rfl;exact rfl;apply bin_eq;apply eql_nil_nil;exact gY) | (apply wo_po;apply mo_bin;exact rfl;exact rfl;apply bin_ne;apply eql_iface_nil;exact gY) | refine wE ?_ | (apply wo_po;apply mo_conv;exact rfl;(first | exact wrap_i64 (by omega) (by omega) | exact wrap_u64 (by omega) (by omega));exact gY) | (apply wo_po;apply mo_min;exact rfl;exact rfl;exact gY) | refine wT ?_ | refine wF ?_ | refine we_ret ?_ | refine we_skip ?_ | refine we_label ?_ | refine we_block ?_ | refine we_scope ?_ | refine we_exit ?_)
 rintro v' L' ⟨ab,rfl,rfl⟩
 rw [hfv]
 let L0:List HProp:=arr ab 0 [.pointer (some ⟨wg,0,none⟩)]::arr tb 0 [fv]::arr xb 0 [.pointer (some ⟨sb,0,none⟩)]::g.U s::M::arr sb 0 [.chan (some turn),.chan (some fin),.chan (some says),.int .u8 0,.int .i64 0,.bool false]::ob says newChan::ob turn newChan::ob fin newChan::F
 refine wo_ent L0 .refl ?_
 repeat (first | (fail) | refine we_seq ?_ | (refine wR ?_;try simp only [oS]) | refine wo_nil ?_ | refine wM ?_ | refine wA ?_ | (apply wo_no;exact rfl) | (apply wo_nu;exact rfl) | refine wK ?_ | refine wJ ?_ | refine wN ?_ | refine wD ?_ | (apply wo_po;apply mo_extract;exact rfl;exact rfl;exact gY) | (apply wo_po;apply mo_not;exact rfl;exact gY) | refine wL ?_ | (apply wo_po;apply mo_bin;exact rfl;exact rfl;exact bin_lss;exact gY) | (apply wo_po;apply mo_bin;exact rfl;exact rfl;exact bin_gtr;exact gY) | (apply wo_po;apply mo_bin;exact rfl;exact rfl;exact bin_leq;exact gY) | (apply wo_po;apply mo_bin;exact rfl;exact rfl;exact bin_geq;exact gY) | (apply wo_po;apply mo_bin;exact rfl;exact rfl;exact bin_eql;exact gY) | (apply wo_po;apply mo_bin;exact rfl;exact rfl;exact bin_neq;exact gY) | refine wadd ?_ | refine wsub ?_ | (apply wo_po;apply mo_bin;exact rfl;exact rfl;apply bin_ne;apply eql_ptr_nil;exact gY) | (apply wo_po;apply mo_bin;exact rfl;exact rfl;apply bin_eq;apply eql_ptr_nil;exact gY) | (apply wo_po;apply mo_bin;exact rfl;exact rfl;apply bin_ne;apply eql_slice_nil;exact gY) | (apply wo_po;apply mo_bin;exact rfl;exact rfl;apply bin_eq;apply eql_slice_nil;exact gY) | (apply wo_po;apply mo_bin;exact rfl;exact rfl;apply bin_ne;apply eql_nil_nil;exact gY) | (apply wo_po;apply mo_bin;exact rfl;exact rfl;apply bin_eq;apply eql_nil_nil;exact gY) | (apply wo_po;apply mo_bin;exact rfl;exact rfl;apply bin_ne;apply eql_iface_nil;exact gY) | refine wE ?_ | (apply wo_po;apply mo_conv;exact rfl;(first | exact wrap_i64 (by omega) (by omega) | exact wrap_u64 (by omega) (by omega));exact gY) | (apply wo_po;apply mo_min;exact rfl;exact rfl;exact gY) | refine wT ?_ | refine wF ?_ | refine we_ret ?_ | refine we_skip ?_ | refine we_label ?_ | refine we_block ?_ | refine we_scope ?_ | refine we_exit ?_)
 refine wo_call (.cons rfl (.cons rfl .nil)) trivial (wgAdd_tr (X:=⟨g,wg,seats,some s,left,seats.length,false,.play,none,0⟩) rfl hlen rfl rfl rfl (fun h st=>hs h (star_drop (star_drop (star_drop (star_drop (star_drop (star_drop (star_drop (star_drop (star_drop st))))))))))) ?_
 rintro v1 L1 x1 ⟨rfl,rfl,rfl⟩
 repeat (first | (apply wo_po;apply mo_makeFunc (first:=[]) (cap:=[_,_,_]) (vf:=[]);exact .nil;exact .cons rfl (.cons rfl (.cons rfl .nil));exact trivial) | refine we_seq ?_ | (refine wR ?_;try simp only [oS]) | refine wo_nil ?_ | refine wM ?_ | refine wA ?_ | (apply wo_no;exact rfl) | (apply wo_nu;exact rfl) | refine wK ?_ | refine wJ ?_ | refine wN ?_ | refine wD ?_ | (apply wo_po;apply mo_extract;exact rfl;exact rfl;exact gY) | (apply wo_po;apply mo_not;exact rfl;exact gY) | refine wL ?_ | (apply wo_po;apply mo_bin;exact rfl;exact rfl;exact bin_lss;exact gY) | (apply wo_po;apply mo_bin;exact rfl;exact rfl;exact bin_gtr;exact gY) | (apply wo_po;apply mo_bin;exact rfl;exact rfl;exact bin_leq;exact gY) | (apply wo_po;apply mo_bin;exact rfl;exact rfl;exact bin_geq;exact gY) | (apply wo_po;apply mo_bin;exact rfl;exact rfl;exact bin_eql;exact gY) | (apply wo_po;apply mo_bin;exact rfl;exact rfl;exact bin_neq;exact gY) | refine wadd ?_ | refine wsub ?_ | (apply wo_po;apply mo_bin;exact rfl;exact rfl;apply bin_ne;apply eql_ptr_nil;exact gY) | (apply wo_po;apply mo_bin;exact rfl;exact rfl;apply bin_eq;apply eql_ptr_nil;exact gY) | (apply wo_po;apply mo_bin;exact rfl;exact rfl;apply bin_ne;apply eql_slice_nil;exact gY) | (apply wo_po;apply mo_bin;exact rfl;exact rfl;apply bin_eq;apply eql_slice_nil;exact gY) | (apply wo_po;apply mo_bin;exact rfl;exact rfl;apply bin_ne;apply eql_nil_nil;exact gY) | (apply wo_po;apply mo_bin;exact rfl;exact rfl;apply bin_eq;apply eql_nil_nil;exact gY) | (apply wo_po;apply mo_bin;exact rfl;exact rfl;apply bin_ne;apply eql_iface_nil;exact gY) | refine wE ?_ | (apply wo_po;apply mo_conv;exact rfl;(first | exact wrap_i64 (by omega) (by omega) | exact wrap_u64 (by omega) (by omega));exact gY) | (apply wo_po;apply mo_min;exact rfl;exact rfl;exact gY) | refine wT ?_ | refine wF ?_ | refine we_ret ?_ | refine we_skip ?_ | refine we_label ?_ | refine we_block ?_ | refine we_scope ?_ | refine we_exit ?_)
 refine wo_star (arr sb 0 [.chan (some turn),.chan (some fin),.chan (some says)]::arr sb 3 [.int .u8 0,.int .i64 0,.bool false]::arr ab 0 [.pointer (some ⟨wg,0,none⟩)]::arr tb 0 [fv]::arr xb 0 [.pointer (some ⟨sb,0,none⟩)]::g.U s::M::ob says newChan::ob turn newChan::ob fin newChan::F)
  (fun h st=>star_cut (us:=[.chan (some turn),.chan (some fin),.chan (some says)]) (vs:=[.int .u8 0,.int .i64 0,.bool false]) (((.there (.there (.there (.there (.there .here))))):Has L0 _ _).star st)) ?_
 refine wo_frz (b:=sb) (o:=0) .here ?_
 refine wo_frz (b:=xb) (o:=0) (.there (.there (.there (.there .here)))) ?_
 refine wo_star _ (fun h st=>fro_two (((.there (.there .here)):Has _ (seatR sb says turn fin) _).star (fro_two st))) ?_
 refine wo_start (s':=(ini s).1) (q':=(ini s).2) (M:=[g.U s,seatR sb says turn fin,M,arr ab 0 [.pointer (some ⟨wg,0,none⟩)],arr tb 0 [fv],fro xb 0 [.pointer (some ⟨sb,0,none⟩)]]) (cap:=[_,_,_]) rfl trivial rfl rfl rfl rfl rfl
  (fun h st=>star_map (Ent.star (.take (.there (.there (.there (.there (.there (.there (.there (.there (.there .here))))))))) (.take (.there (.there (.there (.there (.there (.there (.there (.there (.there .here))))))))) (.take (.there (.there (.there (.there (.there (.there (.there (.there (.there .here))))))))) (.take (.there (.there (.there (.there (.there (.there (.there .here))))))) (.take .here (.take (.there (.there (.there (.there (.there (.there .here)))))) (.take (.there (.there (.there (.there .here)))) (.take (.there (.there (.there (.there .here)))) (.take (.there .here) .refl))))))))) st) (fun _ a=>a) (fun _ s1=>star_map s1 (fun _ a=>a) fun _ s2=>star_map s2 (fun _ a=>a) fun _ s3=>star_shut (M:=[_,_,_,_,_,_]) s3))
  (fun hc st=>goes_tr TO hok hfin st) ?_
 have rx:∀ {c:HProp},Rd (c::fro xb 0 [.pointer (some ⟨sb,0,none⟩)]::arr sb 3 [.int .u8 0,.int .i64 0,.bool false]::F) xb 0 (.pointer (some ⟨sb,0,none⟩)):=.there (Rd.fro (k:=0) rfl rfl)
 have r2:Rd (seatR sb says turn fin::fro xb 0 [.pointer (some ⟨sb,0,none⟩)]::arr sb 3 [.int .u8 0,.int .i64 0,.bool false]::F) sb 2 (.chan (some says)):=Rd.fro (k:=2) rfl rfl
 repeat (first | (fail) | refine wlssT ?_ | refine wlssF ?_ | refine wleqT ?_ | refine wleqF ?_ | refine wgtrT ?_ | refine wgtrF ?_ | refine wgeqT ?_ | refine wgeqF ?_ | refine weqlT ?_ | refine weqlF ?_ | refine wneqT ?_ | refine wneqF ?_ | refine we_seq ?_ | (refine wR ?_;try simp only [oS]) | refine wo_nil ?_ | refine wM ?_ | refine wA ?_ | (apply wo_no;exact rfl) | (apply wo_nu;exact rfl) | refine wK ?_ | refine wJ ?_ | refine wN ?_ | refine wD ?_ | (apply wo_po;apply mo_extract;exact rfl;exact rfl;exact gY) | (apply wo_po;apply mo_not;exact rfl;exact gY) | refine wL ?_ | (apply wo_po;apply mo_bin;exact rfl;exact rfl;exact bin_lss;exact gY) | (apply wo_po;apply mo_bin;exact rfl;exact rfl;exact bin_gtr;exact gY) | (apply wo_po;apply mo_bin;exact rfl;exact rfl;exact bin_leq;exact gY) | (apply wo_po;apply mo_bin;exact rfl;exact rfl;exact bin_geq;exact gY) | (apply wo_po;apply mo_bin;exact rfl;exact rfl;exact bin_eql;exact gY) | (apply wo_po;apply mo_bin;exact rfl;exact rfl;exact bin_neq;exact gY) | refine wadd ?_ | refine wsub ?_ | (apply wo_po;apply mo_bin;exact rfl;exact rfl;apply bin_ne;apply eql_ptr_nil;exact gY) | (apply wo_po;apply mo_bin;exact rfl;exact rfl;apply bin_eq;apply eql_ptr_nil;exact gY) | (apply wo_po;apply mo_bin;exact rfl;exact rfl;apply bin_ne;apply eql_slice_nil;exact gY) | (apply wo_po;apply mo_bin;exact rfl;exact rfl;apply bin_eq;apply eql_slice_nil;exact gY) | (apply wo_po;apply mo_bin;exact rfl;exact rfl;apply bin_ne;apply eql_nil_nil;exact gY) | (apply wo_po;apply mo_bin;exact rfl;exact rfl;apply bin_eq;apply eql_nil_nil;exact gY) | (apply wo_po;apply mo_bin;exact rfl;exact rfl;apply bin_ne;apply eql_iface_nil;exact gY) | refine wE ?_ | (apply wo_po;apply mo_conv;exact rfl;(first | exact wrap_i64 (by omega) (by omega) | exact wrap_u64 (by omega) (by omega));exact gY) | (apply wo_po;apply mo_min;exact rfl;exact rfl;exact gY) | refine wT ?_ | refine wF ?_ | refine we_ret ?_ | refine we_skip ?_ | refine we_label ?_ | refine we_block ?_ | refine we_scope ?_ | refine we_exit ?_)
 refine we_draw (List.range' 0 9) (by kernel_rfl) ?_
 repeat (first | (apply ap_read;exact rfl;exact rfl;exact trivial;apply mo_load;exact rfl;(first | exact rx | exact r2)) | refine aM ?_ | refine aA ?_ | (apply ap_no;exact rfl;exact rfl;exact rfl;exact rfl) | refine aN ?_ | refine aD ?_ | (apply ap_pure;exact rfl;exact rfl;exact gY;intro L;apply mo_extract;exact rfl;exact rfl) | (apply ap_pure;exact rfl;exact rfl;exact gY;intro L;apply mo_not;exact rfl) | (apply ap_pure;exact rfl;exact rfl;exact gY;intro L;apply mo_pickT;exact rfl;exact rfl;exact rfl) | (apply ap_pure;exact rfl;exact rfl;exact gY;intro L;apply mo_pickF;exact rfl;exact rfl;exact rfl) | (apply ap_pure;exact rfl;exact rfl;exact gY;intro L;apply mo_len;exact rfl) | (apply ap_pure;exact rfl;exact rfl;exact gY;intro L;apply mo_bin;exact rfl;exact rfl;exact bin_lss) | (apply ap_pure;exact rfl;exact rfl;exact gY;intro L;apply mo_bin;exact rfl;exact rfl;exact bin_gtr) | (apply ap_pure;exact rfl;exact rfl;exact gY;intro L;apply mo_bin;exact rfl;exact rfl;exact bin_leq) | (apply ap_pure;exact rfl;exact rfl;exact gY;intro L;apply mo_bin;exact rfl;exact rfl;exact bin_geq) | (apply ap_pure;exact rfl;exact rfl;exact gY;intro L;apply mo_bin;exact rfl;exact rfl;exact bin_eql) | (apply ap_pure;exact rfl;exact rfl;exact gY;intro L;apply mo_bin;exact rfl;exact rfl;exact bin_neq) | (apply ap_pure;exact rfl;exact rfl;exact gY;intro L;apply mo_bin;exact rfl;exact rfl;apply bin_add;exact wrap_i64 (by omega) (by omega)) | (apply ap_pure;exact rfl;exact rfl;exact gY;intro L;apply mo_bin;exact rfl;exact rfl;apply bin_sub;exact wrap_i64 (by omega) (by omega)) | refine aL ?_ | refine ap_end ?_)
 refine ap_hear (j:=seats.length) (c:=⟨says,turn,fin,.run (ini s).1 (ini s).2⟩) (s:=(ini s).1) (q:=(ini s).2) rfl rfl rfl trivial rfl rfl rfl (by simp) rfl rfl ?_ ?_
 ·intro p hp
  replace hp:=(List.mem_filter.1 hp).1
  simp only [List.mem_cons,List.not_mem_nil,or_false] at hp
  rcases hp with rfl | rfl | rfl | rfl | rfl <;> first | exact .inl rfl | exact .inr ⟨_,rfl,trivial,mo_load rfl (.there (by first | exact rx | exact r2))⟩
 have hset:(seats++[(⟨says,turn,fin,.run (ini s).1 (ini s).2⟩:Seat g.σ g.θ)]).set seats.length ⟨says,turn,fin,.said (ini s).2⟩=seats++[⟨says,turn,fin,.said (ini s).2⟩]:=by simp
 have hc:=lastC_says (g:=g) (q:=(ini s).2)
 have hov:over [.int .u8 0,.int .i64 0,.bool false] 0 (g.says (ini s).2).cells.toList=lastC ((g.plan (ini s).2).map (·.1)):=by
  rw [hc];unfold over;simp [lastC_len]
 show Ap _ mT _ _ _ _ _ _ _ _ _ (g.U (ini s).1::seatR sb says turn fin::fro xb 0 [.pointer (some ⟨sb,0,none⟩)]::arr sb 3 [.int .u8 0,.int .i64 0,.bool false]::F) (gx g wg ((seats++[(⟨says,turn,fin,.run (ini s).1 (ini s).2⟩:Seat g.σ g.θ)]).set seats.length ⟨says,turn,fin,.said (ini s).2⟩) (some (ini s).1) left (seats.length+1))
 rw [hset]
 repeat (first | (fail) | refine aM ?_ | refine aA ?_ | (apply ap_no;exact rfl;exact rfl;exact rfl;exact rfl) | refine aN ?_ | refine aD ?_ | (apply ap_pure;exact rfl;exact rfl;exact gY;intro L;apply mo_extract;exact rfl;exact rfl) | (apply ap_pure;exact rfl;exact rfl;exact gY;intro L;apply mo_not;exact rfl) | (apply ap_pure;exact rfl;exact rfl;exact gY;intro L;apply mo_pickT;exact rfl;exact rfl;exact rfl) | (apply ap_pure;exact rfl;exact rfl;exact gY;intro L;apply mo_pickF;exact rfl;exact rfl;exact rfl) | (apply ap_pure;exact rfl;exact rfl;exact gY;intro L;apply mo_len;exact rfl) | (apply ap_pure;exact rfl;exact rfl;exact gY;intro L;apply mo_bin;exact rfl;exact rfl;exact bin_lss) | (apply ap_pure;exact rfl;exact rfl;exact gY;intro L;apply mo_bin;exact rfl;exact rfl;exact bin_gtr) | (apply ap_pure;exact rfl;exact rfl;exact gY;intro L;apply mo_bin;exact rfl;exact rfl;exact bin_leq) | (apply ap_pure;exact rfl;exact rfl;exact gY;intro L;apply mo_bin;exact rfl;exact rfl;exact bin_geq) | (apply ap_pure;exact rfl;exact rfl;exact gY;intro L;apply mo_bin;exact rfl;exact rfl;exact bin_eql) | (apply ap_pure;exact rfl;exact rfl;exact gY;intro L;apply mo_bin;exact rfl;exact rfl;exact bin_neq) | (apply ap_pure;exact rfl;exact rfl;exact gY;intro L;apply mo_bin;exact rfl;exact rfl;apply bin_add;exact wrap_i64 (by omega) (by omega)) | (apply ap_pure;exact rfl;exact rfl;exact gY;intro L;apply mo_bin;exact rfl;exact rfl;apply bin_sub;exact wrap_i64 (by omega) (by omega)) | refine aL ?_ | refine ap_end ?_)
 refine ap_loud rfl rfl rfl rfl rfl trivial (mo_storeA (n:=3) (c:=3) (k:=0) (a:=3) (vs:=[.int .u8 0,.int .i64 0,.bool false]) rfl rfl (by rw [← Array.length_toList,hc];exact lastC_len) (by rw [hc];exact lastC_one) rfl (Nat.le_refl 3) (.there (.there (.there .here)))) ?_
 rintro v' L' ⟨rfl,rfl⟩
 rw [hov]
 refine ap_end ?_
 (first | refine or0 Try.func51 Try.results51 hQ ?_ | refine on0 Try.func51 Try.results51 hQ ?_)
 exact ⟨rfl,rfl,fun h st=>Ent.star (.take .here (.take .here (.take (.there .here) (.drop .refl)))) st⟩
end
end Go.Proofs.Ytodgemainhokjaa
namespace Go.PB
theorem zip_set {α β γ:Type} {f:α→β→γ} {b:β}:∀ {k:Nat} {xs:List α} {ys:List β} {a:α},xs[k]?=some a→List.zipWith f xs (ys.set k b)=(List.zipWith f xs ys).set k (f a b)
 | _,[],_,_,h=>by simp at h
 | _,x::xs,[],_,_=>rfl
 | 0,x::xs,y::ys,a,h=>by simp at h;subst h;rfl
 | k+1,x::xs,y::ys,a,h=>by simp only [List.set_cons_succ,List.zipWith_cons_cons];rw [zip_set (by simpa using h)]
theorem set_same {α:Type} {l:List α} {k:Nat} {a:α} (h:l[k]?=some a):l.set k a=l:=by
 obtain ⟨h1,h2⟩:=List.getElem?_eq_some_iff.1 h
 subst h2
 exact List.set_getElem_self h1
end Go.PB
namespace Go.Proofs.Ytodgemainhokjaa
open Go Go.PB
attribute [local irreducible] Mo Bin Eql Tr Wo Ap Wle
structure PS (g:Game) where
 s:g.σ
 qs:List g.θ
 tr:List (Nat × (Int × Int))
def takeF {g:Game} (p:PS g) (k:Int):PS g × Bool :=
 if k<0 then (p,false) else
 match p.qs[k.toNat]? with
 | none=>(p,false)
 | some q=>match g.plan q with
  | none=>(p,false)
  | some (m,f)=>if p.tr.length=16384 then (p,false) else (⟨(f p.s).1,p.qs.set k.toNat (f p.s).2,p.tr++[(k.toNat,m)]⟩,true)
structure SId where
 sb:Nat
 says:Nat
 turn:Nat
 fin:Nat
def trCP (tr:List (Nat × (Int × Int))):List Value:=(tr.map fun t=>[.int .i64 (t.1:Nat),.int .u8 t.2.1,.int .i64 t.2.2]).flatten
theorem trCP_len {tr:List (Nat × (Int × Int))}:(trCP tr).length=tr.length*3:=flat_len (f:=fun t:Nat × (Int × Int)=>[Value.int .i64 (t.1:Nat),.int .u8 t.2.1,.int .i64 t.2.2]) (k:=3) (fun _=>rfl) tr
theorem trCP_app {tr:List (Nat × (Int × Int))} {k:Nat} {m:Int × Int}:trCP (tr++[(k,m)])=trCP tr++[.int .i64 (k:Nat),.int .u8 m.1,.int .i64 m.2]:=by simp [trCP]
def ptrs (ids:List SId):List Value:=ids.map fun i=>.pointer (some ⟨i.sb,0,none⟩)
abbrev lastQ (g:Game) (q:g.θ):List Value:=lastC ((g.plan q).map (·.1))
def seatC (g:Game) (i:SId) (q:g.θ):HProp:=all [seatR i.sb i.says i.turn i.fin,arr i.sb 3 (lastQ g q)]
def seatCs (g:Game) (ids:List SId) (qs:List g.θ):List HProp:=List.zipWith (seatC g) ids qs
def seatS {g:Game} (i:SId) (q:g.θ):Seat g.σ g.θ:=⟨i.says,i.turn,i.fin,.said q⟩
def seatSs {g:Game} (ids:List SId) (qs:List g.θ):List (Seat g.σ g.θ):=List.zipWith seatS ids qs
section
variable {g:Game} {wg pb:Nat} {ss ts cs:Value} {ids:List SId} {p:PS g} {F:List HProp}
abbrev playL (g:Game) (pb:Nat) (ss ts cs:Value) (ids:List SId) (p:PS g) (F:List HProp):List HProp :=
 g.U p.s::arr pb 0 [ss,ts,cs]::vec 1 ss (ptrs ids)::vec 3 ts (trCP p.tr)::all (seatCs g ids p.qs)::F
abbrev playX (g:Game) (wg:Nat) (ids:List SId) (p:PS g):MX:=gx g wg (seatSs ids p.qs) (some p.s) (16384-p.tr.length) ids.length
theorem takeF_len (k:Int):(takeF p k).1.qs.length=p.qs.length:=by
 unfold takeF
 split
 ·rfl
 split
 ·rfl
 split
 ·rfl
 split
 ·rfl
 ·simp
theorem takeF_le (h:p.tr.length≤16384) (k:Int):(takeF p k).1.tr.length≤16384:=by
 unfold takeF
 split
 ·exact h
 split
 ·exact h
 split
 ·exact h
 split
 ·exact h
 ·simp;omega
theorem take_out {k:Int} (hl:ids.length=p.qs.length) (hk:k<0∨(ids.length:Int)≤k) :
  Tr Try.prog mT 52 [.pointer (some ⟨pb,0,none⟩),.int .i64 k] (playL g pb ss ts cs ids p F) (playX g wg ids p) fun v L' x'=>v=.bool false∧L'=playL g pb ss ts cs ids p F∧x'=playX g wg ids p:=by
 refine tr_pure (of_has (.there (.there .here)) (vec_shape (by omega))) ?_
 rintro ⟨a,n,c,rfl,hn,_⟩
 have hn:n=ids.length:=by simp [ptrs] at hn;omega
 subst hn
 by_cases h0:k<0
 ·refine tr_of_body Try.func52 rfl Try.ntmps52 (by simp) fun um Q _ hQ=>?_
  simp only [argE,Nat.zero_add,Nat.reduceAdd]
  repeat (first | refine wlssT ?_ | refine we_seq ?_ | (refine wR ?_;try simp only [oS]) | refine wo_nil ?_ | refine wM ?_ | refine wA ?_ | (apply wo_no;exact rfl) | refine wK ?_ | refine wT ?_ | refine we_ret ?_)
  (first | refine or1 Try.func52 Try.results52 hQ rfl ?_ | refine on1 Try.func52 Try.results52 hQ rfl ?_)
  exact ⟨rfl,rfl,rfl⟩
 ·refine tr_of_body Try.func52 rfl Try.ntmps52 (by simp) fun um Q _ hQ=>?_
  simp only [argE,Nat.zero_add,Nat.reduceAdd]
  repeat (first | refine wlssF ?_ | refine wgeqT ?_ | refine we_seq ?_ | (refine wR ?_;try simp only [oS]) | refine wo_nil ?_ | refine wM ?_ | refine wA ?_ | (apply wo_no;exact rfl) | refine wK ?_ | refine wJ ?_ | refine wN ?_ | refine wD ?_ | refine wL ?_ | refine wE ?_ | refine wT ?_ | refine we_ret ?_)
  (first | refine or1 Try.func52 Try.results52 hQ rfl ?_ | refine on1 Try.func52 Try.results52 hQ rfl ?_)
  exact ⟨rfl,rfl,rfl⟩
theorem seat_pick {k:Nat} {i:SId} {q:g.θ} {L:List HProp} {h:Hp} (hi:ids[k]?=some i) (hq:p.qs[k]?=some q) (st:Star (all (seatCs g ids p.qs)::L) h) :
  Star (seatR i.sb i.says i.turn i.fin::arr i.sb 3 (lastQ g q)::all ((seatCs g ids p.qs).eraseIdx k)::L) h:=by
 have e:(seatCs g ids p.qs)[k]?=some (seatC g i q):=by simp [seatCs,List.getElem?_zipWith,hi,hq]
 exact star_open (M:=[_,_]) (star_pick e st)
theorem seat_put {k:Nat} {i:SId} {q q':g.θ} {L:List HProp} {h:Hp} (hi:ids[k]?=some i) (hq:p.qs[k]?=some q) (st:Star (seatR i.sb i.says i.turn i.fin::arr i.sb 3 (lastQ g q')::all ((seatCs g ids p.qs).eraseIdx k)::L) h) :
  Star (all (seatCs g ids (p.qs.set k q'))::L) h:=by
 have hlt:k<(seatCs g ids p.qs).length:=by
  have h1:=(List.getElem?_eq_some_iff.1 hi).1
  have h2:=(List.getElem?_eq_some_iff.1 hq).1
  simp [seatCs];omega
 have e:seatCs g ids (p.qs.set k q')=(seatCs g ids p.qs).set k (seatC g i q'):=zip_set hi
 rw [e]
 exact star_put hlt (star_shut (M:=[_,_]) st)
theorem take_no {k:Nat} {i:SId} {q:g.θ} (hi:ids[k]?=some i) (hq:p.qs[k]?=some q) (hno:g.plan q=none∨p.tr.length=16384) :
  Tr Try.prog mT 52 [.pointer (some ⟨pb,0,none⟩),.int .i64 (k:Nat)] (playL g pb ss ts cs ids p F) (playX g wg ids p) fun v L' x'=>v=.bool false∧L'=playL g pb ss ts cs ids p F∧x'=playX g wg ids p:=by
 have hk:=(List.getElem?_eq_some_iff.1 hi).1
 refine tr_pure (of_has (.there (.there .here)) (vec_shape (by omega))) ?_
 rintro ⟨a,n,c,rfl,hn,_,hnz,hy⟩
 have hn:n=ids.length:=by simp [ptrs] at hn;omega
 subst hn
 refine tr_pure (of_has (.there (.there (.there .here))) (vec_shape (by omega))) ?_
 rintro ⟨ta,tn,tc,rfl,htn,_⟩
 have htn:tn=p.tr.length:=by rw [trCP_len] at htn;omega
 subst htn
 cases a with
 | none=>have:=hnz rfl;omega
 | some ad =>
 obtain ⟨b,o,sp⟩:=ad
 have:=hy _ rfl
 simp only [Addr.mk.injEq,true_and] at this
 subst this
 refine Tr.post (R:=fun v L' x'=>v=.bool false∧x'=playX g wg ids p∧∀ h,Star L' h→Star (playL g pb (.slice (some ⟨b,o,none⟩) ids.length c) (.slice ta p.tr.length tc) cs ids p F) h) ?_
  (by rintro v L' x' ⟨rfl,rfl,h2⟩;exact ⟨_,⟨rfl,rfl,rfl⟩,h2⟩)
 let L1:List HProp:=seatR i.sb i.says i.turn i.fin::arr i.sb 3 (lastQ g q)::all ((seatCs g ids p.qs).eraseIdx k)::g.U p.s::arr pb 0 [.slice (some ⟨b,o,none⟩) ids.length c,.slice ta p.tr.length tc,cs]::vec 1 (.slice (some ⟨b,o,none⟩) ids.length c) (ptrs ids)::vec 3 (.slice ta p.tr.length tc) (trCP p.tr)::F
 refine tr_star L1 (fun h st=>seat_pick hi hq (((.there (.there (.there (.there .here)))):Has (playL g pb _ _ cs ids p F) _ _).star st)) ?_
 have hback:∀ h,Star L1 h→Star (playL g pb (.slice (some ⟨b,o,none⟩) ids.length c) (.slice ta p.tr.length tc) cs ids p F) h:=fun h st=>by
  have s1:=seat_put (q':=q) hi hq st
  have e:p.qs.set k q=p.qs:=set_same hq
  rw [e] at s1
  exact Ent.star (.take (.there .here) (.take (.there .here) (.take (.there .here) (.take (.there .here) (.take .here .refl))))) s1
 have rs:Rd L1 b (o+k) (.pointer (some ⟨i.sb,0,none⟩)):=rd_vec (cs:=ptrs ids) (.there (.there (.there (.there (.there .here))))) (by simp [ptrs,hi])
 have hlast:∃ m1 m2 q3,lastQ g q=[.int .u8 m1,.int .i64 m2,.bool q3]∧(q3=true∨(q3=false∧p.tr.length=16384)):=by
  unfold lastQ
  cases hp:g.plan q with
  | none=>exact ⟨_,_,_,rfl,.inl rfl⟩
  | some mf =>
   refine ⟨_,_,_,rfl,.inr ⟨rfl,hno.resolve_left (by rw [hp];simp)⟩⟩
 obtain ⟨m1,m2,q3,hl,hq3⟩:=hlast
 have rl:Rd L1 i.sb 5 (.bool q3):=Rd.of (.there .here) (by rw [hl];exact Rd.row (k:=2) rfl rfl)
 rcases hq3 with rfl | ⟨rfl,htr⟩
 ·refine tr_of_body Try.func52 rfl Try.ntmps52 (by simp) fun um Q _ hQ=>?_
  simp only [argE,Nat.zero_add,Nat.reduceAdd]
  repeat (first | (apply wo_po;apply mo_index1;exact rfl;exact rfl;omega;exact gY) | (apply wo_po;apply mo_load;exact rfl;(first | exact rs | exact rl | exact Rd.of (.there (.there (.there (.there .here)))) (Rd.row0 rfl));exact gY) | refine wlssF ?_ | refine wgeqF ?_ | refine we_seq ?_ | (refine wR ?_;try simp only [oS]) | refine wo_nil ?_ | refine wM ?_ | refine wA ?_ | (apply wo_no;exact rfl) | refine wK ?_ | refine wJ ?_ | refine wN ?_ | refine wD ?_ | refine wE ?_ | refine wT ?_ | refine we_ret ?_)
  (first | refine or1 Try.func52 Try.results52 hQ rfl ?_ | refine on1 Try.func52 Try.results52 hQ rfl ?_)
  exact ⟨rfl,rfl,hback⟩
 ·refine tr_of_body Try.func52 rfl Try.ntmps52 (by simp) fun um Q _ hQ=>?_
  simp only [argE,Nat.zero_add,Nat.reduceAdd]
  repeat (first | (apply wo_po;apply mo_index1;exact rfl;exact rfl;omega;exact gY) | (apply wo_po;apply mo_load;exact rfl;(first | exact rs | exact rl | exact Rd.of (.there (.there (.there (.there .here)))) (Rd.row0 rfl));exact gY) | refine wlssF ?_ | refine wgeqF ?_ | refine weqlT ?_ | refine we_seq ?_ | (refine wR ?_;try simp only [oS]) | refine wo_nil ?_ | refine wM ?_ | refine wA ?_ | refine wJ ?_ | refine wN ?_ | refine wD ?_ | refine wE ?_ | refine wT ?_ | refine we_ret ?_)
  (first | refine or1 Try.func52 Try.results52 hQ rfl ?_ | refine on1 Try.func52 Try.results52 hQ rfl ?_)
  exact ⟨rfl,rfl,hback⟩
theorem take_yes {k:Nat} {i:SId} {q:g.θ} {m:Int × Int} {f:g.σ→g.σ × g.θ} (hl:ids.length=p.qs.length) (hi:ids[k]?=some i) (hq:p.qs[k]?=some q) (hpl:g.plan q=some (m,f)) (htr:p.tr.length<16384) (hok:g.ok p.s) :
  Tr Try.prog mT 52 [.pointer (some ⟨pb,0,none⟩),.int .i64 (k:Nat)] (playL g pb ss ts cs ids p F) (playX g wg ids p) fun v L' x'=>∃ ts',v=.bool true∧L'=playL g pb ss ts' cs ids ⟨(f p.s).1,p.qs.set k (f p.s).2,p.tr++[(k,m)]⟩ F∧x'=playX g wg ids ⟨(f p.s).1,p.qs.set k (f p.s).2,p.tr++[(k,m)]⟩:=by
 have hk:=(List.getElem?_eq_some_iff.1 hi).1
 refine tr_pure (of_has (.there (.there .here)) (vec_shape (by omega))) ?_
 rintro ⟨a,n,c,rfl,hn,_,hnz,hy⟩
 have hn:n=ids.length:=by simp [ptrs] at hn;omega
 subst hn
 refine tr_pure (of_has (.there (.there (.there .here))) (vec_shape (by omega))) ?_
 rintro ⟨ta,tn,tc,rfl,htn,_⟩
 have htn:tn=p.tr.length:=by rw [trCP_len] at htn;omega
 subst htn
 cases a with
 | none=>have:=hnz rfl;omega
 | some ad =>
 obtain ⟨b,o,sp⟩:=ad
 have:=hy _ rfl
 simp only [Addr.mk.injEq,true_and] at this
 subst this
 refine Tr.post (R:=fun v L' x'=>∃ ts',v=.bool true∧x'=playX g wg ids ⟨(f p.s).1,p.qs.set k (f p.s).2,p.tr++[(k,m)]⟩∧∀ h,Star L' h→Star (playL g pb (.slice (some ⟨b,o,none⟩) ids.length c) ts' cs ids ⟨(f p.s).1,p.qs.set k (f p.s).2,p.tr++[(k,m)]⟩ F) h) ?_
  (by rintro v L' x' ⟨ts',rfl,rfl,h2⟩;exact ⟨_,⟨ts',rfl,rfl,rfl⟩,h2⟩)
 have hlq:lastQ g q=[.int .u8 m.1,.int .i64 m.2,.bool false]:=by unfold lastQ;rw [hpl];rfl
 let er:=all ((seatCs g ids p.qs).eraseIdx k)
 let L1:List HProp:=seatR i.sb i.says i.turn i.fin::arr i.sb 3 [.int .u8 m.1,.int .i64 m.2,.bool false]::arr pb 0 [.slice (some ⟨b,o,none⟩) ids.length c,.slice ta p.tr.length tc,cs]::vec 3 (.slice ta p.tr.length tc) (trCP p.tr)::vec 1 (.slice (some ⟨b,o,none⟩) ids.length c) (ptrs ids)::g.U p.s::er::F
 refine tr_star L1 (fun h st=>by have:=seat_pick hi hq (((.there (.there (.there (.there .here)))):Has (playL g pb _ _ cs ids p F) _ _).star st);rw [hlq] at this;exact Ent.star (.take .here (.take .here (.take (.there (.there .here)) (.take (.there (.there (.there .here))) (.take (.there (.there .here)) (.take (.there .here) (.take .here .refl))))))) this) ?_
 have rs:Rd L1 b (o+k) (.pointer (some ⟨i.sb,0,none⟩)):=rd_vec (cs:=ptrs ids) (.there (.there (.there (.there .here)))) (by simp [ptrs,hi])
 have rl:Rd L1 i.sb 5 (.bool false):=.there (Rd.row (k:=2) rfl rfl)
 have rt:Rd L1 i.sb 0 (.chan (some i.turn)):=Rd.fro (k:=0) rfl rfl
 have hsz:(seatSs ids p.qs).length=ids.length:=by simp [seatSs];omega
 have hsk:(seatSs ids p.qs)[k]?=some (⟨i.says,i.turn,i.fin,.said q⟩:Seat g.σ g.θ):=by simp [seatSs,List.getElem?_zipWith,hi,hq,seatS]
 refine tr_of_body Try.func52 rfl Try.ntmps52 (by simp) fun um Q _ hQ=>?_
 simp only [argE,Nat.zero_add,Nat.reduceAdd]
 repeat (first | (apply wo_po;apply mo_index1;exact rfl;exact rfl;omega;exact gY) | (apply wo_po;apply mo_load;exact rfl;(first | exact rs | exact rl | exact Rd.of (.there (.there .here)) (Rd.row0 rfl));exact gY) | refine wlssF ?_ | refine wgeqF ?_ | refine weqlF ?_ | refine we_seq ?_ | (refine wR ?_;try simp only [oS]) | refine wo_nil ?_ | refine wM ?_ | refine wA ?_ | refine wJ ?_ | refine wN ?_ | refine wD ?_ | refine wE ?_ | refine wF ?_ | refine we_skip ?_)
 refine we_draw (List.range' 0 19) (by kernel_rfl) ?_
 repeat (first | (apply ap_read;exact rfl;exact rfl;exact trivial;apply mo_load;exact rfl;exact Rd.of (.there (.there .here)) (Rd.row0 rfl)) | (apply ap_read;exact rfl;exact rfl;exact trivial;apply mo_loadA (vs:=[.int .u8 m.1,.int .i64 m.2]);exact rfl;exact rfl;exact Rds.row (k:=0) (.there .here) (by intro i v hv;match i,hv with | 0,hv=>exact hv | 1,hv=>exact hv)) | (apply ap_pure;exact rfl;exact rfl;exact trivial;intro L;apply mo_build (pv:=[(0,_),(1,_)]);exact rfl;exact .cons rfl (.cons rfl .nil);exact rfl) | refine aM ?_ | refine aN ?_ | refine aD ?_)
 have hone:∀ v∈[Value.int .i64 (k:Nat),.int .u8 m.1,.int .i64 m.2],one v=true:=by intro v hv;simp at hv;rcases hv with rfl | rfl | rfl <;> rfl
 refine ap_loudR rfl rfl rfl rfl trivial (mo_buildSlice (sz:=3) (vs:=[.agg #[.int .i64 (k:Nat),.int .u8 m.1,.int .i64 m.2]]) rfl (.cons rfl .nil) rfl (by intro v hv;cases (List.mem_singleton.1 hv);exact rfl) (by omega)) ?_ ?_
 ·rintro v L ⟨nb,rfl,rfl⟩ p hp
  replace hp:=(List.mem_filter.1 hp).1
  simp only [List.mem_cons,List.not_mem_nil,or_false] at hp
  rcases hp with rfl | rfl | rfl | rfl | rfl | rfl | rfl | rfl | rfl | rfl | rfl | rfl | rfl <;> first | exact .inl rfl | exact .inr ⟨_,rfl,trivial,mo_load rfl (Rd.of (.there (.there (.there .here))) (Rd.row0 rfl))⟩ | exact .inr ⟨_,rfl,trivial,mo_loadA rfl rfl (Rds.row (k:=0) (.there (.there .here)) (by intro i v hv;match i,hv with | 0,hv=>exact hv | 1,hv=>exact hv))⟩
 rintro v' L' ⟨nb,rfl,rfl⟩
 refine ap_loud rfl rfl rfl rfl rfl trivial (mo_append (sz:=3) (new:=[.int .i64 (k:Nat),.int .u8 m.1,.int .i64 m.2]) rfl rfl rfl rfl (.there (.there (.there (.there .here)))) rfl (.inr ⟨_,_,rfl,Rds.all .here⟩) hone (by simp only [sliceLen];omega)) ?_
 rintro v' L' rfl
 refine ap_know (of_has .here (vec_shape (by omega))) ?_
 rintro ⟨ua,un,uc,rfl,_⟩
 repeat (first | refine aN ?_ | refine aD ?_)
 refine ap_loud rfl rfl rfl rfl rfl trivial (mo_store rfl rfl rfl (Wt.row0 (k:=1) (.there (.there (.there (.there .here)))) (Nat.lt_of_sub_eq_succ rfl))) ?_
 rintro v' L' ⟨rfl,rfl⟩
 refine ap_end ?_
 have rt2:∀ {A C D:HProp} {M:List HProp},Rd (A::C::seatR i.sb i.says i.turn i.fin::D::M) i.sb 0 (.chan (some i.turn)):=.there (.there (Rd.fro (k:=0) rfl rfl))
 repeat (first | (apply wo_po;apply mo_load;exact rfl;exact rt2;exact gY) | (apply wo_po;apply mo_build (pv:=[]);exact rfl;exact .nil;exact rfl;exact trivial) | refine we_seq ?_ | (refine wR ?_;try simp only [oS]) | refine wM ?_ | refine wN ?_ | refine wD ?_)
 refine wo_turn (X:=⟨g,wg,seatSs ids p.qs,some p.s,16384-p.tr.length,ids.length,false,.play,none,0⟩) (j:=k) (lf:=16384-(p.tr.length+1)) (c:=⟨i.says,i.turn,i.fin,.said q⟩) (s:=p.s) (q:=q) rfl rfl rfl rfl hsk rfl hpl rfl (by show 16384-p.tr.length=_;omega) (by show ids.length=_;rw [hsz]) hok (.there (.there (.there (.there (.there (.there .here)))))) trivial ?_
 have rs2:∀ {A C D:HProp} {M:List HProp},Rd (A::C::seatR i.sb i.says i.turn i.fin::D::M) i.sb 2 (.chan (some i.says)):=.there (.there (Rd.fro (k:=2) rfl rfl))
 repeat (first | (apply wo_po;apply mo_load;exact rfl;exact rs2;exact gY) | refine we_seq ?_ | (refine wR ?_;try simp only [oS]) | refine wo_nil ?_ | refine wM ?_ | refine wN ?_ | refine wD ?_)
 refine wo_hear (X:=⟨g,wg,(seatSs ids p.qs).set k ⟨i.says,i.turn,i.fin,.run (f p.s).1 (f p.s).2⟩,none,16384-(p.tr.length+1),ids.length,false,.play,none,0⟩) (j:=k) (c:=⟨i.says,i.turn,i.fin,.run (f p.s).1 (f p.s).2⟩) (s:=(f p.s).1) (q:=(f p.s).2) rfl rfl rfl (List.getElem?_set_self (by rw [hsz];exact hk)) rfl rfl trivial ?_
 have hc:=lastC_says (g:=g) (q:=(f p.s).2)
 have hov:over [.int .u8 m.1,.int .i64 m.2,.bool false] 0 (g.says (f p.s).2).cells.toList=lastQ g (f p.s).2:=by
  rw [hc];unfold over;simp [lastC_len]
 repeat (first | refine wN ?_ | refine wD ?_)
 apply wo_pm
 exact mo_storeA (n:=3) (c:=3) (k:=0) (a:=3) (vs:=[.int .u8 m.1,.int .i64 m.2,.bool false]) rfl rfl (by rw [← Array.length_toList,hc];exact lastC_len) (by rw [hc];exact lastC_one) rfl (Nat.le_refl 3) (.there (.there (.there (.there .here))))
 exact trivial
 rw [hov]
 have hset:((seatSs ids p.qs).set k ⟨i.says,i.turn,i.fin,.run (f p.s).1 (f p.s).2⟩).set k ⟨i.says,i.turn,i.fin,.said (f p.s).2⟩=seatSs ids (p.qs.set k (f p.s).2):=by
  rw [List.set_set];exact (zip_set (f:=seatS) hi).symm
 repeat (first | refine we_seq ?_ | (refine wR ?_;try simp only [oS]) | refine wo_nil ?_ | refine wA ?_ | refine we_ret ?_)
 (first | refine or1 Try.func52 Try.results52 hQ rfl ?_ | refine on1 Try.func52 Try.results52 hQ rfl ?_)
 refine ⟨.slice ua un uc,rfl,?_,fun h st=>?_⟩
 ·show gx g wg (((seatSs ids p.qs).set k ⟨i.says,i.turn,i.fin,.run (f p.s).1 (f p.s).2⟩).set k ⟨i.says,i.turn,i.fin,.said (f p.s).2⟩) _ _ _=gx g wg _ _ _ _
  rw [hset]
  simp
 ·have st1:Star (seatR i.sb i.says i.turn i.fin::arr i.sb 3 (lastQ g (f p.s).2)::er::g.U (f p.s).1::arr pb 0 [.slice (some ⟨b,o,none⟩) ids.length c,.slice ua un uc,cs]::vec 1 (.slice (some ⟨b,o,none⟩) ids.length c) (ptrs ids)::vec 3 (.slice ua un uc) (trCP p.tr++[.int .i64 (k:Nat),.int .u8 m.1,.int .i64 m.2])::F) h:=Ent.star (.take (.there (.there (.there .here))) (.take (.there (.there (.there .here))) (.take (.there (.there (.there (.there (.there .here))))) (.take .here (.take (.there (.there .here)) (.take (.there (.there .here)) (.take .here (.drop .refl)))))))) st
  rw [← trCP_app] at st1
  have s1:=seat_put hi hq st1
  exact Ent.star (.take (.there .here) (.take (.there .here) (.take (.there .here) (.take (.there .here) (.take .here .refl))))) s1
theorem takes_tr {k:Int} (hl:ids.length=p.qs.length) (hle:p.tr.length≤16384) (hok:p.tr.length<16384→g.ok p.s) :
  Tr Try.prog mT 52 [.pointer (some ⟨pb,0,none⟩),.int .i64 k] (playL g pb ss ts cs ids p F) (playX g wg ids p) fun v L' x'=>∃ ts',v=.bool (takeF p k).2∧L'=playL g pb ss ts' cs ids (takeF p k).1 F∧x'=playX g wg ids (takeF p k).1:=by
 by_cases h0:k<0
 ·rw [show takeF p k=(p,false) by unfold takeF;rw [if_pos h0]]
  exact (take_out hl (.inl h0)).mono fun v L' x' h=>⟨ts,h⟩
 obtain ⟨n,rfl⟩:∃ n:Nat,k=n:=⟨k.toNat,by omega⟩
 cases hq:p.qs[n]? with
 | none =>
  have:=List.getElem?_eq_none_iff.1 hq
  rw [show takeF p (n:Int)=(p,false) by unfold takeF;rw [if_neg h0,Int.toNat_natCast,hq]]
  exact (take_out hl (.inr (by omega))).mono fun v L' x' h=>⟨ts,h⟩
 | some q =>
  have hn:=(List.getElem?_eq_some_iff.1 hq).1
  have hi:ids[n]?=some (ids[n]'(by omega)):=List.getElem?_eq_getElem _
  cases hpl:g.plan q with
  | none =>
   rw [show takeF p (n:Int)=(p,false) by unfold takeF;rw [if_neg h0,Int.toNat_natCast,hq];simp only [hpl]]
   exact (take_no hi hq (.inl hpl)).mono fun v L' x' h=>⟨ts,h⟩
  | some mf =>
   obtain ⟨m,f⟩:=mf
   by_cases htr:p.tr.length=16384
   ·rw [show takeF p (n:Int)=(p,false) by unfold takeF;rw [if_neg h0,Int.toNat_natCast,hq];simp only [hpl,if_pos htr]]
    exact (take_no hi hq (.inr htr)).mono fun v L' x' h=>⟨ts,h⟩
   ·rw [show takeF p (n:Int)=(⟨(f p.s).1,p.qs.set n (f p.s).2,p.tr++[(n,m)]⟩,true) by unfold takeF;rw [if_neg h0,Int.toNat_natCast,hq];simp only [hpl,if_neg htr]]
    exact (take_yes hl hi hq hpl (by omega) (hok (by omega))).mono fun v L' x' h=>h
end
end Go.Proofs.Ytodgemainhokjaa
namespace Go.PB
section
variable {P:Program} {B:Hand} {kd:CallKind} {n:Nat} {ops:Array Oper} {ord R:List Nat} {Pd:List Pn} {K:Post B} {e:Env} {z:Z} {L:List HProp} {x:B.X}
theorem ap1_swap {i f:Nat} {ord' R' pre idx:List Nat} {t:Array Value} {h:Hp} (hf:R.contains f=true) (hR:R.erase f=R') (hord:ord'=(ord.takeWhile fun q=>!(q == i))++f::i::R') (hok:okOrd n ops ord'=true)
  (b:Ap1 P B kd n ops ord' f (i::R') Pd K e z L x) (hpre:ord=pre++i::R) (hin:∀ p∈Pd,p.i∈pre) (ok:OkO n ops ord) (hpd:∀ p∈Pd,PdOk P n ops L p) (I:InvA n ops (i::R) Pd e (f::idx) t) (s:Star L h):Wr P B kd ops (f::idx) K t z h x:=by
 subst hR
 have hfR:f∈R:=by simpa using hf
 have hnd:(pre++i::R).Nodup:=hpre▸ok.nd
 have htw:ord.takeWhile (fun q=>!(q == i))=pre:=by rw [hpre];exact takeWhile_pre hnd
 have hnd2:=List.nodup_cons.1 (List.nodup_append.1 hnd).2.1
 have hmem:∀ y,(y∈f::i::R.erase f)↔y∈i::R:=by
  intro y
  simp only [List.mem_cons,hnd2.2.mem_erase_iff]
  constructor
  ·rintro (rfl | rfl | ⟨_,h⟩)
   ·exact .inr hfR
   ·exact .inl rfl
   ·exact .inr h
  ·rintro (rfl | h)
   ·exact .inr (.inl rfl)
   ·by_cases e:y=f
    ·exact .inl e
    ·exact .inr (.inr ⟨e,h⟩)
 refine b ⟨pre,by rw [hord,htw],hin⟩ (okOrd_ok hok) hpd idx t h ⟨I.sz,I.nd,I.lt,fun q hq=>?_,fun q hq=>I.all q ((hmem q).1 hq),fun p hp hh=>I.dj p hp ((hmem _).1 hh),I.pu,I.resp,I.dn,I.envok,I.pok⟩ s
 rcases I.sub q hq with h1 | h1
 ·exact .inl ((hmem q).2 h1)
 ·exact .inr h1
theorem ap_fork3 [Lets B] {i f g:Nat} {ordf ordg Rf Rg:List Nat} (hdom:(R.all fun j=>j == f||j == g||(anc ops ops.size j).contains i)=true) (hf:R.contains f=true) (hRf:R.erase f=Rf) (hordf:ordf=(ord.takeWhile fun q=>!(q == i))++f::i::Rf) (hokf:okOrd n ops ordf=true)
  (hg:R.contains g=true) (hRg:R.erase g=Rg) (hordg:ordg=(ord.takeWhile fun q=>!(q == i))++g::i::Rg) (hokg:okOrd n ops ordg=true)
  (a:Ap1 P B kd n ops ord i R Pd K e z L x) (b:Ap1 P B kd n ops ordf f (i::Rf) Pd K e z L x) (c:Ap1 P B kd n ops ordg g (i::Rg) Pd K e z L x):Ap P B kd n ops ord (i::R) Pd K e z L x:=by
 rintro ⟨pre,hpre,hin⟩ ok hpd
 refine ap_run ok hpd (fun t h I s=>?_) (fun j idx t h hj I s=>?_)
 ·have:=I.all i (by simp);simp at this
 ·by_cases hji:j=i
  ·subst hji
   exact a ⟨pre,hpre,hin⟩ ok hpd idx t h I s
  ·have hjf:j=f∨j=g:=by
    rcases List.mem_cons.1 hj with h1 | h1
    ·exact absurd h1 hji
    ·have:=(List.all_eq_true.1 hdom) j h1
     simp only [Bool.or_eq_true,beq_iff_eq,List.contains_eq_mem,decide_eq_true_eq] at this
     rcases this with h2 | h2
     ·exact h2
     ·exact absurd (I.all i (by simp)) (I.first ok h2)
   rcases hjf with rfl | rfl
   ·exact ap1_swap hf hRf hordf hokf b hpre hin ok hpd I s
   ·exact ap1_swap hg hRg hordg hokg c hpre hin ok hpd I s
theorem ap_fork2 [Lets B] {i f:Nat} {ordf Rf:List Nat} (hdom:(R.all fun j=>j == f||(anc ops ops.size j).contains i)=true) (hf:R.contains f=true) (hRf:R.erase f=Rf) (hordf:ordf=(ord.takeWhile fun q=>!(q == i))++f::i::Rf) (hokf:okOrd n ops ordf=true)
  (a:Ap1 P B kd n ops ord i R Pd K e z L x) (b:Ap1 P B kd n ops ordf f (i::Rf) Pd K e z L x):Ap P B kd n ops ord (i::R) Pd K e z L x:=by
 subst hRf;exact ap_fork hdom hf hordf hokf a b
end
end Go.PB
namespace Go.Proofs.Ytodgemainhokjaa
open Go Go.PB
attribute [local irreducible] Mo Bin Eql Tr Wo Ap Wle
section
variable {B:Hand} [Lets B] {L:List HProp} {x:B.X}
def isFn (v:Value):Prop:=∃ f u w,v=.func f u w
theorem wrong1_nil:Tr Try.prog B 67 [.nilFunc] L x fun v L' x'=>v=.bool true∧L'=L∧x'=x:=by
 refine tr_of_body Try.func67 rfl Try.ntmps67 (by simp) fun um Q _ hQ=>?_
 simp only [argE,Nat.zero_add,Nat.reduceAdd]
 repeat (first | (apply wo_po;apply mo_bin;exact rfl;exact rfl;apply bin_eq;apply eql_nilfunc_nil;exact trivial) | refine we_seq ?_ | (refine wR ?_;try simp only [oS]) | refine wo_nil ?_ | refine wM ?_ | refine wA ?_ | refine we_ret ?_)
 (first | refine or1 Try.func67 Try.results67 hQ rfl ?_ | refine on1 Try.func67 Try.results67 hQ rfl ?_)
 exact ⟨rfl,rfl,rfl⟩
theorem wrong1_fn {v:Value} (hv:isFn v):Tr Try.prog B 67 [v] L x fun v L' x'=>v=.bool false∧L'=L∧x'=x:=by
 obtain ⟨f,u,w,rfl⟩:=hv
 refine tr_of_body Try.func67 rfl Try.ntmps67 (by simp) fun um Q _ hQ=>?_
 simp only [argE,Nat.zero_add,Nat.reduceAdd]
 repeat (first | (apply wo_po;apply mo_bin;exact rfl;exact rfl;apply bin_eq;apply eql_func_nil;exact trivial) | refine we_seq ?_ | (refine wR ?_;try simp only [oS]) | refine wo_nil ?_ | refine wM ?_ | refine wA ?_ | refine we_ret ?_)
 (first | refine or1 Try.func67 Try.results67 hQ rfl ?_ | refine on1 Try.func67 Try.results67 hQ rfl ?_)
 exact ⟨rfl,rfl,rfl⟩
def RdsO (L:List HProp) (a:Option Addr) (n:Nat) (vs:List Value):Prop:=n=vs.length∧(n=0∨∃ b o,a=some ⟨b,o,none⟩∧Rds L b o vs)
theorem RdsO.there {L:List HProp} {c:HProp} {a:Option Addr} {n:Nat} {vs:List Value} (h:RdsO L a n vs):RdsO (c::L) a n vs :=
 ⟨h.1,h.2.imp id fun ⟨b,o,e,r⟩=>⟨b,o,e,fun i v hi=>.there (r i v hi)⟩⟩
theorem RdsO.rds {L:List HProp} {a:Option Addr} {n:Nat} {vs:List Value} (h:RdsO L a n vs) (hn:0<n):∃ b o,a=some ⟨b,o,none⟩∧Rds L b o vs:=by
 rcases h.2 with h0 | h
 ·omega
 ·exact h
def idxInv (tv fv:Value) (vs:List Value) (L:List HProp) (x:B.X):PB.Inv Nat B.X where
 e:=fun i=>[(0,tv),(1,fv),(7,.int .i64 (vs.length:Nat)),(8,.int .i64 (i:Nat))]
 L:=fun _=>L
 x:=fun _=>x
 ok:=fun i=>i≤vs.length∧∀ k v,k<i→vs[k]?=some v→isFn v
theorem index_tr {a:Option Addr} {n c:Nat} {vs:List Value} (hvs:∀ v∈vs,v=.nilFunc∨isFn v) (hr:RdsO L a n vs) (hb:n<1000000) :
  Tr Try.prog B 89 [.slice a n c,.func (.func 67) #[] #[]] L x fun v L' x'=>(∃ j:Int,v=.int .i64 j∧((j<0∧∀ v∈vs,isFn v)∨(0≤j∧.nilFunc∈vs)))∧L'=L∧x'=x:=by
 obtain ⟨rfl,hr⟩:=hr
 refine tr_of_body Try.func89 rfl Try.ntmps89 (by simp) fun um Q _ hQ=>?_
 simp only [argE,Nat.zero_add,Nat.reduceAdd]
 repeat (first | refine we_seq ?_ | (refine wR ?_;try simp only [oS]) | refine wo_nil ?_ | refine wM ?_ | refine wA ?_ | refine wE ?_ | refine we_block ?_)
 refine we_loopN (idxInv (.slice a vs.length c) (.func (.func 67) #[] #[]) vs L x) (fun i=>vs.length-i) 0 ⟨by omega,fun k v h=>by omega⟩ ⟨rfl,rfl,rfl,rfl,trivial⟩ .refl rfl ?_
 rintro i ⟨hi,hbe⟩
 simp only [idxInv]
 by_cases hlt:i<vs.length
 ·obtain ⟨b,o,rfl,hrd⟩:∃ b o,a=some ⟨b,o,none⟩∧Rds L b o vs:=by
   rcases hr with h | h
   ·omega
   ·exact h
  have hri:=hrd i vs[i] (List.getElem?_eq_getElem hlt)
  repeat (first | (apply wo_po;apply mo_index1;exact rfl;exact rfl;omega;exact gY) | (apply wo_po;apply mo_load;exact rfl;exact hri;exact trivial) | refine wlssT ?_ | refine we_seq ?_ | (refine wR ?_;try simp only [oS]) | refine wo_nil ?_ | refine wM ?_ | refine wA ?_ | refine wT ?_ | refine we_skip ?_ | refine we_block ?_)
  rcases hvs vs[i] (List.getElem_mem hlt) with hv | hv
  ·rw [hv]
   refine wo_callv (args:=[_]) (first:=[]) (cap:=[]) rfl rfl (.cons rfl .nil) trivial (R:=fun v L' x'=>v=.bool true∧L'=L∧x'=x) wrong1_nil ?_
   rintro v L' x' ⟨rfl,rfl,rfl⟩
   repeat (first | refine we_seq ?_ | (refine wR ?_;try simp only [oS]) | refine wo_nil ?_ | refine wM ?_ | refine wA ?_ | refine wT ?_ | refine we_ret ?_)
   (first | refine or1 Try.func89 Try.results89 hQ rfl ?_ | refine on1 Try.func89 Try.results89 hQ rfl ?_)
   exact ⟨⟨_,rfl,.inr ⟨by omega,by rw [← hv];exact List.getElem_mem hlt⟩⟩,rfl,rfl⟩
  ·refine wo_callv (args:=[_]) (first:=[]) (cap:=[]) rfl rfl (.cons rfl .nil) trivial (R:=fun v L' x'=>v=.bool false∧L'=L∧x'=x) (wrong1_fn hv) ?_
   rintro v L' x' ⟨rfl,rfl,rfl⟩
   repeat (first | (refine wR ?_;try simp only [oS]) | refine wo_nil ?_ | refine wM ?_ | refine wadd ?_ | refine wF ?_ | refine we_skip ?_)
   refine at_round (I:=idxInv (.slice (some ⟨b,o,none⟩) vs.length c) (.func (.func 67) #[] #[]) vs _ x') (R:=fun j=>vs.length-j<vs.length-i) (i+1) (by omega) ⟨by omega,fun k v hk hv'=>?_⟩ ⟨rfl,rfl,rfl,rfl,trivial⟩ .refl rfl
   by_cases e:k=i
   ·subst e;rw [List.getElem?_eq_getElem hlt] at hv';cases hv';exact hv
   ·exact hbe k v (by omega) hv'
 ·repeat (first | refine wlssF ?_ | refine we_seq ?_ | (refine wR ?_;try simp only [oS]) | refine wo_nil ?_ | refine wA ?_ | refine wF ?_ | refine we_ret ?_ | refine we_exit ?_)
  (first | refine or1 Try.func89 Try.results89 hQ rfl ?_ | refine on1 Try.func89 Try.results89 hQ rfl ?_)
  refine ⟨⟨_,rfl,.inl ⟨by omega,fun v hv=>?_⟩⟩,rfl,rfl⟩
  obtain ⟨k,hk⟩:=List.mem_iff_getElem?.1 hv
  exact hbe k v (by have:=(List.getElem?_eq_some_iff.1 hk).1;omega) hk
theorem contains_tr {a:Option Addr} {n c:Nat} {vs:List Value} (hvs:∀ v∈vs,v=.nilFunc∨isFn v) (hr:RdsO L a n vs) (hb:n<1000000) :
  Tr Try.prog B 66 [.slice a n c,.func (.func 67) #[] #[]] L x fun v L' x'=>(∃ q,v=.bool q∧(if q=true then .nilFunc∈vs else ∀ v∈vs,isFn v))∧L'=L∧x'=x:=by
 refine tr_of_body Try.func66 rfl Try.ntmps66 (by simp) fun um Q _ hQ=>?_
 simp only [argE,Nat.zero_add,Nat.reduceAdd]
 repeat (first | refine we_seq ?_ | (refine wR ?_;try simp only [oS]) | refine wo_nil ?_ | refine wM ?_ | refine wA ?_)
 refine wo_call (.cons rfl (.cons rfl .nil)) trivial (index_tr hvs hr hb) ?_
 rintro v L' x' ⟨⟨j,rfl,hj⟩,rfl,rfl⟩
 rcases hj with ⟨h1,h2⟩ | ⟨h1,h2⟩
 ·repeat (first | refine wgeqF ?_ | refine wo_nil ?_ | refine wA ?_ | refine we_ret ?_)
  (first | refine or1 Try.func66 Try.results66 hQ rfl ?_ | refine on1 Try.func66 Try.results66 hQ rfl ?_)
  exact ⟨⟨false,rfl,h2⟩,rfl,rfl⟩
 ·repeat (first | refine wgeqT ?_ | refine wo_nil ?_ | refine wA ?_ | refine we_ret ?_)
  (first | refine or1 Try.func66 Try.results66 hQ rfl ?_ | refine on1 Try.func66 Try.results66 hQ rfl ?_)
  exact ⟨⟨true,rfl,h2⟩,rfl,rfl⟩
theorem wrong_tr {a:Option Addr} {n c:Nat} {vs:List Value} (hvs:∀ v∈vs,v=.nilFunc∨isFn v) (hr:RdsO L a n vs) (hb:n<1000000) :
  Tr Try.prog B 50 [.slice a n c] L x fun v L' x'=>(∃ k:Int,v=.int .i64 k∧(((k=1∧.nilFunc∈vs)∨((∀ v∈vs,isFn v)∧k=if vs.length=0 then 2 else if 16<vs.length then 4 else 0))))∧L'=L∧x'=x:=by
 have hn:=hr.1
 refine tr_of_body Try.func50 rfl Try.ntmps50 (by simp) fun um Q _ hQ=>?_
 simp only [argE,Nat.zero_add,Nat.reduceAdd]
 repeat (first | refine we_seq ?_ | (refine wR ?_;try simp only [oS]) | refine wo_nil ?_ | refine wM ?_ | refine wA ?_ | refine we_block ?_)
 refine wo_call (.cons rfl (.cons rfl .nil)) trivial (contains_tr hvs hr hb) ?_
 rintro v L' x' ⟨⟨q,rfl,hq⟩,rfl,rfl⟩
 cases q with
 | true =>
  repeat (first | refine we_seq ?_ | (refine wR ?_;try simp only [oS]) | refine wo_nil ?_ | refine wA ?_ | refine wT ?_ | refine we_ret ?_)
  (first | refine or1 Try.func50 Try.results50 hQ rfl ?_ | refine on1 Try.func50 Try.results50 hQ rfl ?_)
  exact ⟨⟨_,rfl,.inl ⟨rfl,hq⟩⟩,rfl,rfl⟩
 | false =>
  by_cases h0:n=0
  ·repeat (first | refine weqlT ?_ | refine we_seq ?_ | (refine wR ?_;try simp only [oS]) | refine wo_nil ?_ | refine wM ?_ | refine wA ?_ | refine wE ?_ | refine wT ?_ | refine wF ?_ | refine we_ret ?_)
   (first | refine or1 Try.func50 Try.results50 hQ rfl ?_ | refine on1 Try.func50 Try.results50 hQ rfl ?_)
   exact ⟨⟨_,rfl,.inr ⟨hq,by rw [if_pos (by omega)]⟩⟩,rfl,rfl⟩
  by_cases h1:16<n
  ·repeat (first | refine wgtrT ?_ | refine weqlF ?_ | refine we_seq ?_ | (refine wR ?_;try simp only [oS]) | refine wo_nil ?_ | refine wM ?_ | refine wA ?_ | refine wE ?_ | refine wT ?_ | refine wF ?_ | refine we_ret ?_)
   (first | refine or1 Try.func50 Try.results50 hQ rfl ?_ | refine on1 Try.func50 Try.results50 hQ rfl ?_)
   exact ⟨⟨_,rfl,.inr ⟨hq,by rw [if_neg (by omega),if_pos (by omega)]⟩⟩,rfl,rfl⟩
  ·repeat (first | refine wgtrF ?_ | refine weqlF ?_ | refine we_seq ?_ | (refine wR ?_;try simp only [oS]) | refine wo_nil ?_ | refine wM ?_ | refine wA ?_ | refine wE ?_ | refine wF ?_ | refine we_ret ?_ | refine we_skip ?_)
   (first | refine or1 Try.func50 Try.results50 hQ rfl ?_ | refine on1 Try.func50 Try.results50 hQ rfl ?_)
   exact ⟨⟨_,rfl,.inr ⟨hq,by rw [if_neg (by omega),if_neg (by omega)]⟩⟩,rfl,rfl⟩
end
end Go.Proofs.Ytodgemainhokjaa
namespace Go.Proofs.Ytodgemainhokjaa
open Go Go.PB
attribute [local irreducible] Mo Bin Eql Tr Wo Ap Wle
section
structure SeqAt {B:Hand} {gv:Value} (A:Acc B gv) (r n:Nat):Prop where
 lo:1≤n
 hi:n≤16
 hdr:∀ s,Rd [A.C s] r 1 (.int .i64 (n:Nat))
 a0:A.addr 0=(r,0)
 a:∀ i,i<n→A.addr (1+i)=(r,2+i)
section
variable {B:Hand} [Lets B] {gv:Value} {A:Acc B gv} {r n:Nat} {L F:List HProp}
theorem snone_no {x:B.X} (hr:Rd L r 1 (.int .i64 (n:Nat))) (hn:1≤n) :
  Tr Try.prog B 45 [.pointer (some ⟨r,0,none⟩)] L x fun v L' x'=>v=.bool false∧L'=L∧x'=x:=by
 refine tr_of_body Try.func45 rfl Try.ntmps45 (by simp) fun um Q _ hQ=>?_
 simp only [argE,Nat.zero_add,Nat.reduceAdd]
 repeat (first | (apply wo_po;apply mo_load;exact rfl;exact hr;exact rfl) | refine weqlF ?_ | refine we_seq ?_ | (refine wR ?_;try simp only [oS]) | refine wo_nil ?_ | refine wM ?_ | refine wA ?_ | refine wJ ?_ | refine wN ?_ | refine wD ?_ | (apply wo_po;apply mo_bin;exact rfl;exact rfl;apply bin_eq;apply eql_ptr_nil;exact gY) | refine we_ret ?_)
 (first | refine or1 Try.func45 Try.results45 hQ rfl ?_ | refine on1 Try.func45 Try.results45 hQ rfl ?_)
 exact ⟨rfl,rfl,rfl⟩
theorem step_tr {op:Int} {w:Nat} {s:A.S} {T:A.S→Prop} (hs:A.step op w s T) (hh:Has L (A.C s) F) :
  Tr Try.prog B 46 [gv,.int .u8 op,.int .i64 w] L (A.x s) fun v L' x'=>∃ s',T s'∧v=.tuple #[]∧L'=A.C s'::F∧x'=A.x s':=by
 rcases A.gate with ⟨rfl,hg⟩ | ⟨t,p,f,rfl,hm,he,hg⟩
 ·refine tr_of_body Try.func46 rfl Try.ntmps46 (by simp) fun um Q _ hQ=>?_
  simp only [argE,Nat.zero_add,Nat.reduceAdd]
  repeat (first | refine we_seq ?_ | (refine wR ?_;try simp only [oS]) | refine wo_nil ?_ | refine wM ?_ | (apply wo_po;apply mo_bin;exact rfl;exact rfl;apply bin_ne;apply eql_nil_nil;exact gY) | refine wF ?_ | refine we_skip ?_)
  refine at_ent _ (Ent.take hh .refl) ?_
  (first | refine or0 Try.func46 Try.results46 hQ ?_ | refine on0 Try.func46 Try.results46 hQ ?_)
  exact ⟨s,hg _ _ _ _ hs,rfl,rfl,rfl⟩
 ·refine tr_of_body Try.func46 rfl Try.ntmps46 (by simp) fun um Q _ hQ=>?_
  simp only [argE,Nat.zero_add,Nat.reduceAdd]
  repeat (first | (apply wo_po;apply mo_build (pv:=[(0,_),(1,_)]);exact rfl;exact .cons rfl (.cons rfl .nil);exact rfl;exact trivial) | refine we_seq ?_ | (refine wR ?_;try simp only [oS]) | refine wo_nil ?_ | refine wM ?_ | (apply wo_po;apply mo_bin;exact rfl;exact rfl;apply bin_ne;apply eql_iface_nil;exact gY) | refine wT ?_)
  refine wo_invoke (args:=[_]) rfl (.cons rfl .nil) trivial (hg op w s T L F hs hh) ?_
  rintro v L' x' ⟨s',h1,rfl,rfl,rfl⟩
  repeat (first | refine wo_nil ?_)
  (first | refine or0 Try.func46 Try.results46 hQ ?_ | refine on0 Try.func46 Try.results46 hQ ?_)
  exact ⟨s',h1,rfl,rfl,rfl⟩
def WLoop (A:Acc B gv) (K:A.S→Prop):List Nat→Nat→A.S→Prop
 | [],_,s=>K s
 | w::l,i,s=>A.step 2 (1+i) s fun s=>A.store (1+i) w s (WLoop A K l (i+1))
def WriteT (A:Acc B gv) (ws:List Nat) (s:A.S) (Q:Option Nat→A.S→Prop):Prop :=
 A.step 1 0 s fun s=>A.load 0 s fun v s=>if v%2=0 then
  A.step 5 0 s fun s=>A.cas 0 v ((v+1)%18446744073709551616) s fun c s=>if c=true then
   WLoop A (fun s=>A.step 2 0 s fun s=>A.store 0 ((v+2)%18446744073709551616) s (Q (some ((v+2)%18446744073709551616)))) ws 0 s
   else Q none s
  else Q none s
def wrInv (A:Acc B gv) (r n v:Nat) (ws:List Nat) (wv:Value) (F:List HProp) (K:A.S→Prop):PB.Inv (Nat × A.S) B.X where
 e:=fun i=>[(0,.pointer (some ⟨r,0,none⟩)),(1,gv),(8,.int .u64 (v:Nat)),(41,wv),(42,.int .i64 (n:Nat)),(43,.int .i64 (i.1:Nat))]
 L:=fun i=>A.C i.2::F
 x:=fun i=>A.x i.2
 ok:=fun i=>i.1≤n∧WLoop A K (ws.drop i.1) i.1 i.2
theorem write_tr (R:SeqAt A r n) {ws:List Nat} {wa:Option Addr} {wc:Nat} (hlen:ws.length=n) (hb:∀ w∈ws,w<18446744073709551616) {s:A.S} {Q:Option Nat→A.S→Prop} (hs:WriteT A ws s Q) (hh:Has L (A.C s) F) (hw:RdsO F wa n (ws.map num)) :
  Tr Try.prog B 14 [.pointer (some ⟨r,0,none⟩),gv,.slice wa n wc] L (A.x s) fun v' L' x'=>∃ q s',Q q s'∧v'=.tuple #[.int .u64 (q.getD 0:Nat),.int .i64 (if q.isSome=true then 0 else 50)]∧L'=A.C s'::F∧x'=A.x s':=by
 have hlo:=R.lo
 have hhi:=R.hi
 unfold WriteT at hs
 have hr0:=Rd.of hh (R.hdr s)
 obtain ⟨wb,wo,rfl,hrds⟩:=hw.rds (by omega)
 refine tr_of_body Try.func14 rfl Try.ntmps14 (by simp) fun um Q _ hQ=>?_
 simp only [argE,Nat.zero_add,Nat.reduceAdd]
 repeat (first | refine we_seq ?_ | (refine wR ?_;try simp only [oS]) | refine wo_nil ?_ | refine wM ?_ | refine wA ?_ | refine we_block ?_)
 refine wo_call (.cons rfl .nil) trivial (snone_no hr0 hlo) ?_
 rintro v1 L1 x1 ⟨rfl,rfl,rfl⟩
 repeat (first | (apply wo_po;apply mo_load;exact rfl;exact hr0;exact trivial) | refine wneqF ?_ | refine we_seq ?_ | (refine wR ?_;try simp only [oS]) | refine wo_nil ?_ | refine wM ?_ | refine wA ?_ | refine wN ?_ | refine wD ?_ | refine wE ?_ | refine wF ?_ | refine we_skip ?_)
 refine wo_call (.cons rfl (.cons rfl (.cons rfl .nil))) trivial (step_tr hs hh) ?_
 rintro v1 L1 x1 ⟨s1,h1,rfl,rfl,rfl⟩
 repeat (first | refine we_seq ?_ | (refine wR ?_;try simp only [oS]) | refine wo_nil ?_ | refine wM ?_ | refine wN ?_ | refine wD ?_)
 refine wo_call (.cons rfl .nil) trivial (A.load_ok _ _ _ _ _ _ _ R.a0 h1 .here) ?_
 rintro v1 L1 x1 ⟨v,s2,hv,h2,rfl,rfl,rfl⟩
 have hm:(v:Int).tmod 2=((v%2:Nat):Int):=by rw [Int.tmod_eq_emod_of_nonneg (by omega)];omega
 by_cases c1:v%2=0
 ·rw [if_pos c1] at h2
  repeat (first | (apply wo_po;apply mo_bin;exact rfl;exact rfl;apply bin_rem;omega;exact hm;exact trivial) | refine wneqF ?_ | refine we_seq ?_ | (refine wR ?_;try simp only [oS]) | refine wo_nil ?_ | refine wM ?_ | refine wA ?_ | refine wF ?_ | refine we_skip ?_)
  refine wo_call (.cons rfl (.cons rfl (.cons rfl .nil))) trivial (step_tr h2 .here) ?_
  rintro v1 L1 x1 ⟨s3,h3,rfl,rfl,rfl⟩
  have hadd:IntKind.u64.wrap ((v:Int)+1)=(((v+1)%18446744073709551616:Nat):Int):=by rw [wrap_u64_mod];omega
  have hadd2:IntKind.u64.wrap ((v:Int)+2)=(((v+2)%18446744073709551616:Nat):Int):=by rw [wrap_u64_mod];omega
  repeat (first | (apply wo_po;apply mo_bin;exact rfl;exact rfl;apply bin_add;exact hadd;exact trivial) | refine we_seq ?_ | (refine wR ?_;try simp only [oS]) | refine wo_nil ?_ | refine wM ?_ | refine wN ?_ | refine wD ?_)
  refine wo_call (.cons rfl (.cons rfl (.cons rfl .nil))) trivial (A.cas_ok _ _ _ _ _ _ _ _ _ R.a0 (Nat.mod_lt _ (by decide)) h3 .here) ?_
  rintro v1 L1 x1 ⟨q,s4,h4,rfl,rfl,rfl⟩
  cases q
  ·rw [if_neg (by decide)] at h4
   repeat (first | refine we_seq ?_ | (refine wR ?_;try simp only [oS]) | refine wo_nil ?_ | refine wA ?_ | (apply wo_po;apply mo_not;exact rfl;exact gY) | refine wT ?_ | refine we_ret ?_)
   (first | refine or2 Try.func14 Try.results14 hQ rfl rfl ?_ | refine on2 Try.func14 Try.results14 hQ rfl rfl ?_)
   exact ⟨none,s4,h4,rfl,rfl,rfl⟩
  ·rw [if_pos rfl] at h4
   repeat (first | refine we_seq ?_ | (refine wR ?_;try simp only [oS]) | refine wo_nil ?_ | refine wM ?_ | (apply wo_po;apply mo_not;exact rfl;exact gY) | refine wE ?_ | refine wF ?_ | refine we_skip ?_ | refine we_block ?_)
   refine we_loopN (wrInv A r n v ws (.slice (some ⟨wb,wo,none⟩) n wc) F _) (fun i=>n-i.1) (0,s4) ⟨Nat.zero_le _,h4⟩ ⟨rfl,rfl,rfl,rfl,rfl,rfl,trivial⟩ .refl rfl ?_
   clear h4 h3 h2 h1 hs hr0
   rintro ⟨i,s5⟩ ⟨hi,h5⟩
   dsimp only [wrInv] at hi h5 ⊢
   by_cases c2:i<n
   ·have hiw:i<ws.length:=by omega
    rw [List.drop_eq_getElem_cons hiw] at h5
    obtain ⟨w,hwv⟩:∃ w,ws[i]=w:=⟨_,rfl⟩
    have hwb:w<18446744073709551616:=hb w (hwv▸List.getElem_mem hiw)
    have hrd:Rd (A.C s5::F) wb (wo+i) (.int .u64 (w:Nat)):=.there (hrds i _ (by rw [List.getElem?_map,List.getElem?_eq_getElem hiw,hwv];rfl))
    rw [hwv] at h5
    have h1i:IntKind.i64.wrap (1+(i:Int))=((1+i:Nat):Int):=(wrap_i64 (by omega) (by omega)).trans (by omega)
    repeat (first | (apply wo_po;apply mo_indexAddr (r:=wo+i);exact rfl;exact rfl;omega;omega;omega;exact trivial) | (apply wo_po;apply mo_load;exact rfl;exact hrd;exact trivial) | (apply wo_po;apply mo_bin;exact rfl;exact rfl;apply bin_add;exact h1i;exact trivial) | refine wlssT ?_ | refine we_seq ?_ | (refine wR ?_;try simp only [oS]) | refine wo_nil ?_ | refine wM ?_ | refine wA ?_ | refine wT ?_ | refine we_skip ?_ | refine we_block ?_)
    refine wo_call (.cons rfl (.cons rfl (.cons rfl .nil))) trivial (step_tr (w:=1+i) h5 .here) ?_
    rintro v1 L1 x1 ⟨s6,h6,rfl,rfl,rfl⟩
    repeat (first | (apply wo_po;apply mo_indexArr1 (j:=i);exact rfl;exact rfl;omega;exact trivial) | (refine wR ?_;try simp only [oS]) | refine wo_nil ?_ | refine wM ?_ | refine wN ?_ | refine wD ?_)
    refine wo_call (.cons rfl (.cons rfl .nil)) trivial (A.store_ok _ _ _ _ _ _ _ _ (R.a i c2) hwb h6 .here) ?_
    rintro v1 L1 x1 ⟨s7,h7,rfl,rfl,rfl⟩
    repeat (first | (refine wR ?_;try simp only [oS]) | refine wo_nil ?_ | refine wM ?_ | refine wadd ?_)
    refine at_round (I:=wrInv A r n v ws (.slice (some ⟨wb,wo,none⟩) n wc) F _) (R:=fun j=>n-j.1<n-i) (i+1,s7) (by show n-(i+1)<n-i;omega) ⟨by show i+1≤n;omega,h7⟩ ⟨rfl,rfl,rfl,rfl,rfl,rfl,trivial⟩ .refl rfl
   ·obtain rfl:i=n:=by omega
    rw [List.drop_of_length_le (by omega)] at h5
    repeat (first | refine wlssF ?_ | refine we_seq ?_ | (refine wR ?_;try simp only [oS]) | refine wo_nil ?_ | refine wM ?_ | refine wF ?_ | refine we_exit ?_)
    refine wo_call (.cons rfl (.cons rfl (.cons rfl .nil))) trivial (step_tr h5 .here) ?_
    rintro v1 L1 x1 ⟨s6,h6,rfl,rfl,rfl⟩
    repeat (first | (apply wo_po;apply mo_bin;exact rfl;exact rfl;apply bin_add;exact hadd2;exact trivial) | refine we_seq ?_ | (refine wR ?_;try simp only [oS]) | refine wo_nil ?_ | refine wM ?_ | refine wN ?_ | refine wD ?_)
    refine wo_call (.cons rfl (.cons rfl .nil)) trivial (A.store_ok _ _ _ _ _ _ _ _ R.a0 (Nat.mod_lt _ (by decide)) h6 .here) ?_
    rintro v1 L1 x1 ⟨s7,h7,rfl,rfl,rfl⟩
    repeat (first | (apply wo_po;apply mo_bin;exact rfl;exact rfl;apply bin_add;exact hadd2;exact trivial) | refine we_seq ?_ | (refine wR ?_;try simp only [oS]) | refine wo_nil ?_ | refine wM ?_ | refine wA ?_ | refine we_ret ?_)
    (first | refine or2 Try.func14 Try.results14 hQ rfl rfl ?_ | refine on2 Try.func14 Try.results14 hQ rfl rfl ?_)
    exact ⟨some _,s7,h7,rfl,rfl,rfl⟩
 ·rw [if_neg c1] at h2
  repeat (first | (apply wo_po;apply mo_bin;exact rfl;exact rfl;apply bin_rem;omega;exact hm;exact trivial) | refine wneqT ?_ | refine we_seq ?_ | (refine wR ?_;try simp only [oS]) | refine wo_nil ?_ | refine wM ?_ | refine wA ?_ | refine wT ?_ | refine we_ret ?_)
  (first | refine or2 Try.func14 Try.results14 hQ rfl rfl ?_ | refine on2 Try.func14 Try.results14 hQ rfl rfl ?_)
  exact ⟨none,s2,h2,rfl,rfl,rfl⟩
def RLoop (A:Acc B gv) (K:List Nat→A.S→Prop):Nat→List Nat→A.S→Prop
 | 0,acc,s=>K acc s
 | k+1,acc,s=>A.step 1 (1+acc.length) s fun s=>A.load (1+acc.length) s fun w s=>RLoop A K k (acc++[w]) s
def ReadT (A:Acc B gv) (n:Nat) (s:A.S) (Q:Option (List Nat × Nat)→A.S→Prop):Prop :=
 A.step 1 0 s fun s=>A.load 0 s fun v s=>if v%2=0 then
  RLoop A (fun ws s=>A.step 1 0 s fun s=>A.load 0 s fun u s=>if u=v then Q (some (ws,v)) s else Q none s) n [] s
  else Q none s
def rdW (o:Option (List Nat × Nat)):List Nat:=(o.map (·.1)).getD []
def rdV (o:Option (List Nat × Nat)):Nat:=(o.map (·.2)).getD 0
def GoodR (n:Nat) (o:Option (List Nat × Nat)):Prop:=∀ y,o=some y→y.1.length=n∧(∀ w∈y.1,w<18446744073709551616)∧y.2<18446744073709551616
def rdInv (A:Acc B gv) (r n v:Nat) (F:List HProp) (K:List Nat→A.S→Prop):PB.Inv (Nat × Value × List Nat × A.S) B.X where
 e:=fun i=>[(0,.pointer (some ⟨r,0,none⟩)),(1,gv),(7,.int .u64 (v:Nat)),(8,i.2.1),(9,.pointer (some ⟨r,2,none⟩)),(25,.int .i64 (i.1:Nat))]
 L:=fun i=>A.C i.2.2.2::vec 1 i.2.1 (i.2.2.1.map num)::F
 x:=fun i=>A.x i.2.2.2
 ok:=fun i=>i.1≤n∧i.2.2.1.length=i.1∧(∀ w∈i.2.2.1,w<18446744073709551616)∧RLoop A K (n-i.1) i.2.2.1 i.2.2.2
theorem read_tr (R:SeqAt A r n) {s:A.S} {Q:Option (List Nat × Nat)→A.S→Prop} (hs:ReadT A n s Q) (hh:Has L (A.C s) F) :
  Tr Try.prog B 16 [.pointer (some ⟨r,0,none⟩),gv] L (A.x s) fun v' L' x'=>∃ q s' rv,Q q s'∧GoodR n q∧v'=.tuple #[rv,.int .u64 (rdV q:Nat),.int .i64 (if q.isSome=true then 0 else 51)]∧L'=A.C s'::vec 1 rv ((rdW q).map num)::F∧x'=A.x s':=by
 refine Tr.post (R:=fun v' L' x'=>∃ q s' rv,Q q s'∧GoodR n q∧v'=.tuple #[rv,.int .u64 (rdV q:Nat),.int .i64 (if q.isSome=true then 0 else 51)]∧x'=A.x s'∧∀ h,Star L' h→Star (A.C s'::vec 1 rv ((rdW q).map num)::F) h) ?_ (by rintro v L' x' ⟨q,s',rv,h1,h2,rfl,rfl,hs⟩;exact ⟨_,⟨q,s',rv,h1,h2,rfl,rfl,rfl⟩,hs⟩)
 have hlo:=R.lo
 have hhi:=R.hi
 unfold ReadT at hs
 have hr0:=Rd.of hh (R.hdr s)
 refine tr_of_body Try.func16 rfl Try.ntmps16 (by simp) fun um Q _ hQ=>?_
 simp only [argE,Nat.zero_add,Nat.reduceAdd]
 repeat (first | refine we_seq ?_ | (refine wR ?_;try simp only [oS]) | refine wo_nil ?_ | refine wM ?_ | refine wA ?_)
 refine wo_call (.cons rfl .nil) trivial (snone_no hr0 hlo) ?_
 rintro v1 L1 x1 ⟨rfl,rfl,rfl⟩
 repeat (first | refine we_seq ?_ | (refine wR ?_;try simp only [oS]) | refine wo_nil ?_ | refine wM ?_ | refine wF ?_ | refine we_skip ?_)
 refine wo_call (.cons rfl (.cons rfl (.cons rfl .nil))) trivial (step_tr hs hh) ?_
 rintro v1 L1 x1 ⟨s1,h1,rfl,rfl,rfl⟩
 repeat (first | refine we_seq ?_ | (refine wR ?_;try simp only [oS]) | refine wo_nil ?_ | refine wM ?_ | refine wN ?_ | refine wD ?_)
 refine wo_call (.cons rfl .nil) trivial (A.load_ok _ _ _ _ _ _ _ R.a0 h1 .here) ?_
 rintro v1 L1 x1 ⟨v,s2,hv,h2,rfl,rfl,rfl⟩
 have hm:(v:Int).tmod 2=((v%2:Nat):Int):=by rw [Int.tmod_eq_emod_of_nonneg (by omega)];omega
 by_cases c1:v%2=0
 ·rw [if_pos c1] at h2
  repeat (first | (apply wo_po;apply mo_bin;exact rfl;exact rfl;apply bin_rem;omega;exact hm;exact trivial) | refine wneqF ?_ | refine we_seq ?_ | (refine wR ?_;try simp only [oS]) | refine wo_nil ?_ | refine wM ?_ | refine wA ?_ | refine wN ?_ | refine wD ?_ | refine wF ?_ | refine we_skip ?_ | refine we_block ?_)
  refine we_star (A.C s2::vec 1 (.slice none 0 0) (([]:List Nat).map num)::F) (fun h st=>star_swap (vec_nil st)) ?_
  refine we_loopN (rdInv A r n v F _) (fun i=>17-i.1) (0,.slice none 0 0,[],s2) ⟨Nat.zero_le _,rfl,(fun w hw=>by cases hw),h2⟩ ⟨rfl,rfl,rfl,rfl,rfl,rfl,trivial⟩ .refl rfl ?_
  clear h2 h1 hs hr0
  rintro ⟨i,rv,acc,s3⟩ ⟨hi,hal,hab,h3⟩
  dsimp only [rdInv] at hi hal hab h3 ⊢
  have hr3:Rd (A.C s3::vec 1 rv (acc.map num)::F) r 1 (.int .i64 (n:Nat)):=Rd.of .here (R.hdr s3)
  by_cases c2:i<n
  ·obtain ⟨k,hk⟩:∃ k,n-i=k+1:=⟨n-i-1,by omega⟩
   rw [hk] at h3
   unfold RLoop at h3
   rw [hal] at h3
   have h1i:IntKind.i64.wrap (1+(i:Int))=((1+i:Nat):Int):=(wrap_i64 (by omega) (by omega)).trans (by omega)
   repeat (first | (apply wo_po;apply mo_load;exact rfl;exact hr3;exact trivial) | (apply wo_po;apply mo_bin;exact rfl;exact rfl;apply bin_add;exact h1i;exact trivial) | refine wlssT ?_ | refine weqlF ?_ | refine we_seq ?_ | (refine wR ?_;try simp only [oS]) | refine wo_nil ?_ | refine wM ?_ | refine wA ?_ | refine wN ?_ | refine wD ?_ | refine wT ?_ | refine wF ?_ | refine we_skip ?_ | refine we_block ?_)
   refine wo_call (.cons rfl (.cons rfl (.cons rfl .nil))) trivial (step_tr (w:=1+i) h3 .here) ?_
   rintro v1 L1 x1 ⟨s4,h4,rfl,rfl,rfl⟩
   refine wo_pure (of_has (.there .here) (vec_shape (by omega))) ?_
   rintro ⟨ra,rl,rc,rfl,hlen,hrc,hra,hra2⟩
   obtain rfl:rl=i:=by simp at hlen;omega
   repeat (first | (apply wo_po;apply mo_indexArr1 (j:=rl);exact rfl;exact rfl;omega;exact trivial) | (refine wR ?_;try simp only [oS]) | refine wo_nil ?_ | refine wM ?_ | refine wN ?_)
   refine wo_call (.cons rfl .nil) trivial (A.load_ok _ _ _ _ _ _ _ (R.a rl c2) h4 .here) ?_
   rintro v1 L1 x1 ⟨w,s5,hwb,h5,rfl,rfl,rfl⟩
   repeat (first | (apply wo_mo;apply mo_buildSlice (vs:=[_]);exact rfl;exact .cons rfl .nil;exact rfl;(intro v hv;cases (List.mem_singleton.1 hv);exact rfl);omega;exact trivial))
   rintro v' L' ⟨nb,rfl,rfl⟩
   repeat (first | (apply wo_mo;apply mo_append (new:=[num w]);exact rfl;exact rfl;exact rfl;exact rfl;exact .there (.there .here);exact rfl;exact .inr ⟨_,_,rfl,Rds.all .here⟩;(intro v hv;cases (List.mem_singleton.1 hv);exact rfl);(simp only [sliceLen];omega);exact trivial))
   rintro v' L' hL
   rw [show acc.map num++[num w]=(acc++[w]).map num by simp] at hL
   subst hL
   repeat (first | (refine wR ?_;try simp only [oS]) | refine wo_nil ?_ | refine wM ?_ | refine wA ?_ | refine wadd ?_)
   refine at_round (I:=rdInv A r n v F _) (R:=fun j=>17-j.1<17-rl) (rl+1,v',acc++[w],s5) (by show 17-(rl+1)<17-rl;omega) ⟨by show rl+1≤n;omega,by simp [hal],fun u hu=>?_,by show RLoop A _ (n-(rl+1)) _ _;rw [show n-(rl+1)=k by omega];exact h5⟩ ⟨rfl,rfl,rfl,rfl,rfl,rfl,trivial⟩ (.take (.there (.there .here)) (.take .here (.drop .refl))) rfl
   rcases List.mem_append.1 hu with hu | hu
   ·exact hab u hu
   ·cases List.mem_singleton.1 hu;exact hwb
  ·obtain rfl:i=n:=by omega
   rw [show i-i=0 by omega] at h3
   have key:∀ {e:Env},ev e (.tmp 0)=some (.pointer (some ⟨r,0,none⟩))→True:=fun _=>trivial
   by_cases c3:i=16
   ·repeat (first | refine wlssF ?_ | refine we_seq ?_ | (refine wR ?_;try simp only [oS]) | refine wo_nil ?_ | refine wM ?_ | refine wF ?_ | refine we_exit ?_)
    refine wo_call (.cons rfl (.cons rfl (.cons rfl .nil))) trivial (step_tr h3 .here) ?_
    rintro v1 L1 x1 ⟨s4,h4,rfl,rfl,rfl⟩
    repeat (first | refine we_seq ?_ | (refine wR ?_;try simp only [oS]) | refine wo_nil ?_ | refine wM ?_ | refine wN ?_ | refine wD ?_)
    refine wo_call (.cons rfl .nil) trivial (A.load_ok _ _ _ _ _ _ _ R.a0 h4 .here) ?_
    rintro v1 L1 x1 ⟨u,s5,hu,h5,rfl,rfl,rfl⟩
    by_cases c4:u=v
    ·rw [if_pos c4] at h5
     repeat (first | refine wneqF ?_ | refine we_seq ?_ | (refine wR ?_;try simp only [oS]) | refine wo_nil ?_ | refine wM ?_ | refine wA ?_ | refine wF ?_ | refine we_ret ?_ | refine we_skip ?_)
     (first | refine or3 Try.func16 Try.results16 hQ rfl rfl rfl ?_ | refine on3 Try.func16 Try.results16 hQ rfl rfl rfl ?_)
     exact ⟨some (acc,v),s5,rv,h5,fun y hy=>by cases hy;exact ⟨hal,hab,hv⟩,rfl,rfl,fun h st=>st⟩
    ·rw [if_neg c4] at h5
     repeat (first | refine wneqT ?_ | refine we_seq ?_ | (refine wR ?_;try simp only [oS]) | refine wo_nil ?_ | refine wM ?_ | refine wA ?_ | refine wT ?_ | refine we_ret ?_)
     (first | refine or3 Try.func16 Try.results16 hQ rfl rfl rfl ?_ | refine on3 Try.func16 Try.results16 hQ rfl rfl rfl ?_)
     exact ⟨none,s5,_,h5,(fun y hy=>by cases hy),rfl,rfl,fun h st=>star_swap (vec_nil (Ent.star (.take .here (.drop .refl)) st))⟩
   ·repeat (first | (apply wo_po;apply mo_load;exact rfl;exact hr3;exact trivial) | refine wlssT ?_ | refine weqlT ?_ | refine we_seq ?_ | (refine wR ?_;try simp only [oS]) | refine wo_nil ?_ | refine wM ?_ | refine wA ?_ | refine wN ?_ | refine wD ?_ | refine wT ?_ | refine we_skip ?_ | refine we_block ?_ | refine we_exit ?_)
    refine wo_call (.cons rfl (.cons rfl (.cons rfl .nil))) trivial (step_tr h3 .here) ?_
    rintro v1 L1 x1 ⟨s4,h4,rfl,rfl,rfl⟩
    repeat (first | refine we_seq ?_ | (refine wR ?_;try simp only [oS]) | refine wo_nil ?_ | refine wM ?_ | refine wN ?_ | refine wD ?_)
    refine wo_call (.cons rfl .nil) trivial (A.load_ok _ _ _ _ _ _ _ R.a0 h4 .here) ?_
    rintro v1 L1 x1 ⟨u,s5,hu,h5,rfl,rfl,rfl⟩
    by_cases c4:u=v
    ·rw [if_pos c4] at h5
     repeat (first | refine wneqF ?_ | refine we_seq ?_ | (refine wR ?_;try simp only [oS]) | refine wo_nil ?_ | refine wM ?_ | refine wA ?_ | refine wF ?_ | refine we_ret ?_ | refine we_skip ?_)
     (first | refine or3 Try.func16 Try.results16 hQ rfl rfl rfl ?_ | refine on3 Try.func16 Try.results16 hQ rfl rfl rfl ?_)
     exact ⟨some (acc,v),s5,rv,h5,fun y hy=>by cases hy;exact ⟨hal,hab,hv⟩,rfl,rfl,fun h st=>st⟩
    ·rw [if_neg c4] at h5
     repeat (first | refine wneqT ?_ | refine we_seq ?_ | (refine wR ?_;try simp only [oS]) | refine wo_nil ?_ | refine wM ?_ | refine wA ?_ | refine wT ?_ | refine we_ret ?_)
     (first | refine or3 Try.func16 Try.results16 hQ rfl rfl rfl ?_ | refine on3 Try.func16 Try.results16 hQ rfl rfl rfl ?_)
     exact ⟨none,s5,_,h5,(fun y hy=>by cases hy),rfl,rfl,fun h st=>star_swap (vec_nil (Ent.star (.take .here (.drop .refl)) st))⟩
 ·rw [if_neg c1] at h2
  repeat (first | (apply wo_po;apply mo_bin;exact rfl;exact rfl;apply bin_rem;omega;exact hm;exact trivial) | refine wneqT ?_ | refine we_seq ?_ | (refine wR ?_;try simp only [oS]) | refine wo_nil ?_ | refine wM ?_ | refine wA ?_ | refine wT ?_ | refine we_ret ?_)
  (first | refine or3 Try.func16 Try.results16 hQ rfl rfl rfl ?_ | refine on3 Try.func16 Try.results16 hQ rfl rfl rfl ?_)
  exact ⟨none,s2,_,h2,(fun y hy=>by cases hy),rfl,rfl,fun h st=>star_swap (vec_nil st)⟩
end
end
end Go.Proofs.Ytodgemainhokjaa
