/-
  Part 4 of 7.
-/
import Derived.Test.YtnnpdmhmpgmpnaaNv3
import Derived.Test.YtnnpdmhmpgmpnaaNv2
set_option linter.unusedVariables false
set_option linter.unusedSimpArgs false
namespace Go.PB
theorem zip_set {α β γ:Type} {f:α→β→γ} {b:β}:∀ {k:Nat} {xs:List α} {ys:List β} {a:α},xs[k]?=some a→List.zipWith f xs (ys.set k b)=(List.zipWith f xs ys).set k (f a b)
 | _,[],_,_,h=>by simp at h
 | _,x::xs,[],_,_=>rfl
 | 0,x::xs,y::ys,a,h=>by simp at h;subst h;rfl
 | k+1,x::xs,y::ys,a,h=>by simp only [List.set_cons_succ,List.zipWith_cons_cons];rw [zip_set (by simpa using h)]
theorem set_same {α:Type} {l:List α} {k:Nat} {a:α} (h:l[k]?=some a):l.set k a=l:=by
 obtain ⟨h1,h2⟩:=List.getElem?_eq_some_iff.1 h
 subst h2
 exact List.set_getElem_self h1
end Go.PB
namespace Go.Proofs.Ytnnpdmhmpgmpnaa
open Go Go.PB
attribute [local irreducible] Mo Bin Eql Tr Wo Ap Wle
structure PS (g:Game) where
 s:g.σ
 qs:List g.θ
 tr:List (Nat × (Int × Int))
def takeF {g:Game} (p:PS g) (k:Int):PS g × Bool :=
 if k<0 then (p,false) else
 match p.qs[k.toNat]? with
 | none=>(p,false)
 | some q=>match g.plan q with
  | none=>(p,false)
  | some (m,f)=>if p.tr.length=16384 then (p,false) else (⟨(f p.s).1,p.qs.set k.toNat (f p.s).2,p.tr++[(k.toNat,m)]⟩,true)
structure SId where
 sb:Nat
 says:Nat
 turn:Nat
 fin:Nat
def trCP (tr:List (Nat × (Int × Int))):List Value:=(tr.map fun t=>[.int .i64 (t.1:Nat),.int .u8 t.2.1,.int .i64 t.2.2]).flatten
theorem trCP_len {tr:List (Nat × (Int × Int))}:(trCP tr).length=tr.length*3:=flat_len (f:=fun t:Nat × (Int × Int)=>[Value.int .i64 (t.1:Nat),.int .u8 t.2.1,.int .i64 t.2.2]) (k:=3) (fun _=>rfl) tr
theorem trCP_app {tr:List (Nat × (Int × Int))} {k:Nat} {m:Int × Int}:trCP (tr++[(k,m)])=trCP tr++[.int .i64 (k:Nat),.int .u8 m.1,.int .i64 m.2]:=by simp [trCP]
def ptrs (ids:List SId):List Value:=ids.map fun i=>.pointer (some ⟨i.sb,0,none⟩)
abbrev lastQ (g:Game) (q:g.θ):List Value:=lastC ((g.plan q).map (·.1))
def seatC (g:Game) (i:SId) (q:g.θ):HProp:=all [seatR i.sb i.says i.turn i.fin,arr i.sb 3 (lastQ g q)]
def seatCs (g:Game) (ids:List SId) (qs:List g.θ):List HProp:=List.zipWith (seatC g) ids qs
def seatS {g:Game} (i:SId) (q:g.θ):Seat g.σ g.θ:=⟨i.says,i.turn,i.fin,.said q⟩
def seatSs {g:Game} (ids:List SId) (qs:List g.θ):List (Seat g.σ g.θ):=List.zipWith seatS ids qs
section
variable {g:Game} {wg pb:Nat} {ss ts cs:Value} {ids:List SId} {p:PS g} {F:List HProp}
abbrev playL (g:Game) (pb:Nat) (ss ts cs:Value) (ids:List SId) (p:PS g) (F:List HProp):List HProp :=
 g.U p.s::arr pb 0 [ss,ts,cs]::vec 1 ss (ptrs ids)::vec 3 ts (trCP p.tr)::all (seatCs g ids p.qs)::F
abbrev playX (g:Game) (wg:Nat) (ids:List SId) (p:PS g):MX:=gx g wg (seatSs ids p.qs) (some p.s) (16384-p.tr.length) ids.length
theorem takeF_len (k:Int):(takeF p k).1.qs.length=p.qs.length:=by
 unfold takeF
 split
 ·rfl
 split
 ·rfl
 split
 ·rfl
 split
 ·rfl
 ·simp
theorem takeF_le (h:p.tr.length≤16384) (k:Int):(takeF p k).1.tr.length≤16384:=by
 unfold takeF
 split
 ·exact h
 split
 ·exact h
 split
 ·exact h
 split
 ·exact h
 ·simp;omega
theorem take_out {k:Int} (hl:ids.length=p.qs.length) (hk:k<0∨(ids.length:Int)≤k) :
  Tr Try.prog mT 61 [.pointer (some ⟨pb,0,none⟩),.int .i64 k] (playL g pb ss ts cs ids p F) (playX g wg ids p) fun v L' x'=>v=.bool false∧L'=playL g pb ss ts cs ids p F∧x'=playX g wg ids p:=by
 refine tr_pure (of_has (.there (.there .here)) (vec_shape (by omega))) ?_
 rintro ⟨a,n,c,rfl,hn,_⟩
 have hn:n=ids.length:=by simp [ptrs] at hn;omega
 subst hn
 by_cases h0:k<0
 ·refine tr_of_body Try.func61 rfl Try.ntmps61 (by simp) fun um Q _ hQ=>?_
  simp only [argE,Nat.zero_add,Nat.reduceAdd]
  repeat (first | refine wlssT ?_ | refine we_seq ?_ | (refine wR ?_;try simp only [oS]) | refine wo_nil ?_ | refine wM ?_ | refine wA ?_ | (apply wo_no;exact rfl) | refine wK ?_ | refine wT ?_ | refine we_ret ?_)
  (first | refine or1 Try.func61 Try.results61 hQ rfl ?_ | refine on1 Try.func61 Try.results61 hQ rfl ?_)
  exact ⟨rfl,rfl,rfl⟩
 ·refine tr_of_body Try.func61 rfl Try.ntmps61 (by simp) fun um Q _ hQ=>?_
  simp only [argE,Nat.zero_add,Nat.reduceAdd]
  repeat (first | refine wlssF ?_ | refine wgeqT ?_ | refine we_seq ?_ | (refine wR ?_;try simp only [oS]) | refine wo_nil ?_ | refine wM ?_ | refine wA ?_ | (apply wo_no;exact rfl) | refine wK ?_ | refine wJ ?_ | refine wN ?_ | refine wD ?_ | refine wL ?_ | refine wE ?_ | refine wT ?_ | refine we_ret ?_)
  (first | refine or1 Try.func61 Try.results61 hQ rfl ?_ | refine on1 Try.func61 Try.results61 hQ rfl ?_)
  exact ⟨rfl,rfl,rfl⟩
theorem seat_pick {k:Nat} {i:SId} {q:g.θ} {L:List HProp} {h:Hp} (hi:ids[k]?=some i) (hq:p.qs[k]?=some q) (st:Star (all (seatCs g ids p.qs)::L) h) :
  Star (seatR i.sb i.says i.turn i.fin::arr i.sb 3 (lastQ g q)::all ((seatCs g ids p.qs).eraseIdx k)::L) h:=by
 have e:(seatCs g ids p.qs)[k]?=some (seatC g i q):=by simp [seatCs,List.getElem?_zipWith,hi,hq]
 exact star_open (M:=[_,_]) (star_pick e st)
theorem seat_put {k:Nat} {i:SId} {q q':g.θ} {L:List HProp} {h:Hp} (hi:ids[k]?=some i) (hq:p.qs[k]?=some q) (st:Star (seatR i.sb i.says i.turn i.fin::arr i.sb 3 (lastQ g q')::all ((seatCs g ids p.qs).eraseIdx k)::L) h) :
  Star (all (seatCs g ids (p.qs.set k q'))::L) h:=by
 have hlt:k<(seatCs g ids p.qs).length:=by
  have h1:=(List.getElem?_eq_some_iff.1 hi).1
  have h2:=(List.getElem?_eq_some_iff.1 hq).1
  simp [seatCs];omega
 have e:seatCs g ids (p.qs.set k q')=(seatCs g ids p.qs).set k (seatC g i q'):=zip_set hi
 rw [e]
 exact star_put hlt (star_shut (M:=[_,_]) st)
theorem take_no {k:Nat} {i:SId} {q:g.θ} (hi:ids[k]?=some i) (hq:p.qs[k]?=some q) (hno:g.plan q=none∨p.tr.length=16384) :
  Tr Try.prog mT 61 [.pointer (some ⟨pb,0,none⟩),.int .i64 (k:Nat)] (playL g pb ss ts cs ids p F) (playX g wg ids p) fun v L' x'=>v=.bool false∧L'=playL g pb ss ts cs ids p F∧x'=playX g wg ids p:=by
 have hk:=(List.getElem?_eq_some_iff.1 hi).1
 refine tr_pure (of_has (.there (.there .here)) (vec_shape (by omega))) ?_
 rintro ⟨a,n,c,rfl,hn,_,hnz,hy⟩
 have hn:n=ids.length:=by simp [ptrs] at hn;omega
 subst hn
 refine tr_pure (of_has (.there (.there (.there .here))) (vec_shape (by omega))) ?_
 rintro ⟨ta,tn,tc,rfl,htn,_⟩
 have htn:tn=p.tr.length:=by rw [trCP_len] at htn;omega
 subst htn
 cases a with
 | none=>have:=hnz rfl;omega
 | some ad =>
 obtain ⟨b,o,sp⟩:=ad
 have:=hy _ rfl
 simp only [Addr.mk.injEq,true_and] at this
 subst this
 refine Tr.post (R:=fun v L' x'=>v=.bool false∧x'=playX g wg ids p∧∀ h,Star L' h→Star (playL g pb (.slice (some ⟨b,o,none⟩) ids.length c) (.slice ta p.tr.length tc) cs ids p F) h) ?_
  (by rintro v L' x' ⟨rfl,rfl,h2⟩;exact ⟨_,⟨rfl,rfl,rfl⟩,h2⟩)
 let L1:List HProp:=seatR i.sb i.says i.turn i.fin::arr i.sb 3 (lastQ g q)::all ((seatCs g ids p.qs).eraseIdx k)::g.U p.s::arr pb 0 [.slice (some ⟨b,o,none⟩) ids.length c,.slice ta p.tr.length tc,cs]::vec 1 (.slice (some ⟨b,o,none⟩) ids.length c) (ptrs ids)::vec 3 (.slice ta p.tr.length tc) (trCP p.tr)::F
 refine tr_star L1 (fun h st=>seat_pick hi hq (((.there (.there (.there (.there .here)))):Has (playL g pb _ _ cs ids p F) _ _).star st)) ?_
 have hback:∀ h,Star L1 h→Star (playL g pb (.slice (some ⟨b,o,none⟩) ids.length c) (.slice ta p.tr.length tc) cs ids p F) h:=fun h st=>by
  have s1:=seat_put (q':=q) hi hq st
  have e:p.qs.set k q=p.qs:=set_same hq
  rw [e] at s1
  exact Ent.star (.take (.there .here) (.take (.there .here) (.take (.there .here) (.take (.there .here) (.take .here .refl))))) s1
 have rs:Rd L1 b (o+k) (.pointer (some ⟨i.sb,0,none⟩)):=rd_vec (cs:=ptrs ids) (.there (.there (.there (.there (.there .here))))) (by simp [ptrs,hi])
 have hlast:∃ m1 m2 q3,lastQ g q=[.int .u8 m1,.int .i64 m2,.bool q3]∧(q3=true∨(q3=false∧p.tr.length=16384)):=by
  unfold lastQ
  cases hp:g.plan q with
  | none=>exact ⟨_,_,_,rfl,.inl rfl⟩
  | some mf =>
   refine ⟨_,_,_,rfl,.inr ⟨rfl,hno.resolve_left (by rw [hp];simp)⟩⟩
 obtain ⟨m1,m2,q3,hl,hq3⟩:=hlast
 have rl:Rd L1 i.sb 5 (.bool q3):=Rd.of (.there .here) (by rw [hl];exact Rd.row (k:=2) rfl rfl)
 rcases hq3 with rfl | ⟨rfl,htr⟩
 ·refine tr_of_body Try.func61 rfl Try.ntmps61 (by simp) fun um Q _ hQ=>?_
  simp only [argE,Nat.zero_add,Nat.reduceAdd]
  repeat (first | (apply wo_po;apply mo_index1;exact rfl;exact rfl;omega;exact gY) | (apply wo_po;apply mo_load;exact rfl;(first | exact rs | exact rl | exact Rd.of (.there (.there (.there (.there .here)))) (Rd.row0 rfl));exact gY) | refine wlssF ?_ | refine wgeqF ?_ | refine we_seq ?_ | (refine wR ?_;try simp only [oS]) | refine wo_nil ?_ | refine wM ?_ | refine wA ?_ | (apply wo_no;exact rfl) | refine wK ?_ | refine wJ ?_ | refine wN ?_ | refine wD ?_ | refine wE ?_ | refine wT ?_ | refine we_ret ?_)
  (first | refine or1 Try.func61 Try.results61 hQ rfl ?_ | refine on1 Try.func61 Try.results61 hQ rfl ?_)
  exact ⟨rfl,rfl,hback⟩
 ·refine tr_of_body Try.func61 rfl Try.ntmps61 (by simp) fun um Q _ hQ=>?_
  simp only [argE,Nat.zero_add,Nat.reduceAdd]
  repeat (first | (apply wo_po;apply mo_index1;exact rfl;exact rfl;omega;exact gY) | (apply wo_po;apply mo_load;exact rfl;(first | exact rs | exact rl | exact Rd.of (.there (.there (.there (.there .here)))) (Rd.row0 rfl));exact gY) | refine wlssF ?_ | refine wgeqF ?_ | refine weqlT ?_ | refine we_seq ?_ | (refine wR ?_;try simp only [oS]) | refine wo_nil ?_ | refine wM ?_ | refine wA ?_ | refine wJ ?_ | refine wN ?_ | refine wD ?_ | refine wE ?_ | refine wT ?_ | refine we_ret ?_)
  (first | refine or1 Try.func61 Try.results61 hQ rfl ?_ | refine on1 Try.func61 Try.results61 hQ rfl ?_)
  exact ⟨rfl,rfl,hback⟩
theorem take_yes {k:Nat} {i:SId} {q:g.θ} {m:Int × Int} {f:g.σ→g.σ × g.θ} (hl:ids.length=p.qs.length) (hi:ids[k]?=some i) (hq:p.qs[k]?=some q) (hpl:g.plan q=some (m,f)) (htr:p.tr.length<16384) (hok:g.ok p.s) :
  Tr Try.prog mT 61 [.pointer (some ⟨pb,0,none⟩),.int .i64 (k:Nat)] (playL g pb ss ts cs ids p F) (playX g wg ids p) fun v L' x'=>∃ ts',v=.bool true∧L'=playL g pb ss ts' cs ids ⟨(f p.s).1,p.qs.set k (f p.s).2,p.tr++[(k,m)]⟩ F∧x'=playX g wg ids ⟨(f p.s).1,p.qs.set k (f p.s).2,p.tr++[(k,m)]⟩:=by
 have hk:=(List.getElem?_eq_some_iff.1 hi).1
 refine tr_pure (of_has (.there (.there .here)) (vec_shape (by omega))) ?_
 rintro ⟨a,n,c,rfl,hn,_,hnz,hy⟩
 have hn:n=ids.length:=by simp [ptrs] at hn;omega
 subst hn
 refine tr_pure (of_has (.there (.there (.there .here))) (vec_shape (by omega))) ?_
 rintro ⟨ta,tn,tc,rfl,htn,_⟩
 have htn:tn=p.tr.length:=by rw [trCP_len] at htn;omega
 subst htn
 cases a with
 | none=>have:=hnz rfl;omega
 | some ad =>
 obtain ⟨b,o,sp⟩:=ad
 have:=hy _ rfl
 simp only [Addr.mk.injEq,true_and] at this
 subst this
 refine Tr.post (R:=fun v L' x'=>∃ ts',v=.bool true∧x'=playX g wg ids ⟨(f p.s).1,p.qs.set k (f p.s).2,p.tr++[(k,m)]⟩∧∀ h,Star L' h→Star (playL g pb (.slice (some ⟨b,o,none⟩) ids.length c) ts' cs ids ⟨(f p.s).1,p.qs.set k (f p.s).2,p.tr++[(k,m)]⟩ F) h) ?_
  (by rintro v L' x' ⟨ts',rfl,rfl,h2⟩;exact ⟨_,⟨ts',rfl,rfl,rfl⟩,h2⟩)
 have hlq:lastQ g q=[.int .u8 m.1,.int .i64 m.2,.bool false]:=by unfold lastQ;rw [hpl];rfl
 let er:=all ((seatCs g ids p.qs).eraseIdx k)
 let L1:List HProp:=seatR i.sb i.says i.turn i.fin::arr i.sb 3 [.int .u8 m.1,.int .i64 m.2,.bool false]::arr pb 0 [.slice (some ⟨b,o,none⟩) ids.length c,.slice ta p.tr.length tc,cs]::vec 3 (.slice ta p.tr.length tc) (trCP p.tr)::vec 1 (.slice (some ⟨b,o,none⟩) ids.length c) (ptrs ids)::g.U p.s::er::F
 refine tr_star L1 (fun h st=>by have:=seat_pick hi hq (((.there (.there (.there (.there .here)))):Has (playL g pb _ _ cs ids p F) _ _).star st);rw [hlq] at this;exact Ent.star (.take .here (.take .here (.take (.there (.there .here)) (.take (.there (.there (.there .here))) (.take (.there (.there .here)) (.take (.there .here) (.take .here .refl))))))) this) ?_
 have rs:Rd L1 b (o+k) (.pointer (some ⟨i.sb,0,none⟩)):=rd_vec (cs:=ptrs ids) (.there (.there (.there (.there .here)))) (by simp [ptrs,hi])
 have rl:Rd L1 i.sb 5 (.bool false):=.there (Rd.row (k:=2) rfl rfl)
 have rt:Rd L1 i.sb 0 (.chan (some i.turn)):=Rd.fro (k:=0) rfl rfl
 have hsz:(seatSs ids p.qs).length=ids.length:=by simp [seatSs];omega
 have hsk:(seatSs ids p.qs)[k]?=some (⟨i.says,i.turn,i.fin,.said q⟩:Seat g.σ g.θ):=by simp [seatSs,List.getElem?_zipWith,hi,hq,seatS]
 refine tr_of_body Try.func61 rfl Try.ntmps61 (by simp) fun um Q _ hQ=>?_
 simp only [argE,Nat.zero_add,Nat.reduceAdd]
 repeat (first | (apply wo_po;apply mo_index1;exact rfl;exact rfl;omega;exact gY) | (apply wo_po;apply mo_load;exact rfl;(first | exact rs | exact rl | exact Rd.of (.there (.there .here)) (Rd.row0 rfl));exact gY) | refine wlssF ?_ | refine wgeqF ?_ | refine weqlF ?_ | refine we_seq ?_ | (refine wR ?_;try simp only [oS]) | refine wo_nil ?_ | refine wM ?_ | refine wA ?_ | refine wJ ?_ | refine wN ?_ | refine wD ?_ | refine wE ?_ | refine wF ?_ | refine we_skip ?_)
 refine we_draw (List.range' 0 19) (by kernel_rfl) ?_
 repeat (first | (apply ap_read;exact rfl;exact rfl;exact trivial;apply mo_load;exact rfl;exact Rd.of (.there (.there .here)) (Rd.row0 rfl)) | (apply ap_read;exact rfl;exact rfl;exact trivial;apply mo_loadA (vs:=[.int .u8 m.1,.int .i64 m.2]);exact rfl;exact rfl;exact Rds.row (k:=0) (.there .here) (by intro i v hv;match i,hv with | 0,hv=>exact hv | 1,hv=>exact hv)) | (apply ap_pure;exact rfl;exact rfl;exact trivial;intro L;apply mo_build (pv:=[(0,_),(1,_)]);exact rfl;exact .cons rfl (.cons rfl .nil);exact rfl) | refine aM ?_ | refine aN ?_ | refine aD ?_)
 have hone:∀ v∈[Value.int .i64 (k:Nat),.int .u8 m.1,.int .i64 m.2],one v=true:=by intro v hv;simp at hv;rcases hv with rfl | rfl | rfl <;> rfl
 refine ap_loudR rfl rfl rfl rfl trivial (mo_buildSlice (sz:=3) (vs:=[.agg #[.int .i64 (k:Nat),.int .u8 m.1,.int .i64 m.2]]) rfl (.cons rfl .nil) rfl (by intro v hv;cases (List.mem_singleton.1 hv);exact rfl) (by omega)) ?_ ?_
 ·rintro v L ⟨nb,rfl,rfl⟩ p hp
  replace hp:=(List.mem_filter.1 hp).1
  simp only [List.mem_cons,List.not_mem_nil,or_false] at hp
  rcases hp with rfl | rfl | rfl | rfl | rfl | rfl | rfl | rfl | rfl | rfl | rfl | rfl | rfl <;> first | exact .inl rfl | exact .inr ⟨_,rfl,trivial,mo_load rfl (Rd.of (.there (.there (.there .here))) (Rd.row0 rfl))⟩ | exact .inr ⟨_,rfl,trivial,mo_loadA rfl rfl (Rds.row (k:=0) (.there (.there .here)) (by intro i v hv;match i,hv with | 0,hv=>exact hv | 1,hv=>exact hv))⟩
 rintro v' L' ⟨nb,rfl,rfl⟩
 refine ap_loud rfl rfl rfl rfl rfl trivial (mo_append (sz:=3) (new:=[.int .i64 (k:Nat),.int .u8 m.1,.int .i64 m.2]) rfl rfl rfl rfl (.there (.there (.there (.there .here)))) rfl (.inr ⟨_,_,rfl,Rds.all .here⟩) hone (by simp only [sliceLen];omega)) ?_
 rintro v' L' rfl
 refine ap_know (of_has .here (vec_shape (by omega))) ?_
 rintro ⟨ua,un,uc,rfl,_⟩
 repeat (first | refine aN ?_ | refine aD ?_)
 refine ap_loud rfl rfl rfl rfl rfl trivial (mo_store rfl rfl rfl (Wt.row0 (k:=1) (.there (.there (.there (.there .here)))) (Nat.lt_of_sub_eq_succ rfl))) ?_
 rintro v' L' ⟨rfl,rfl⟩
 refine ap_end ?_
 have rt2:∀ {A C D:HProp} {M:List HProp},Rd (A::C::seatR i.sb i.says i.turn i.fin::D::M) i.sb 0 (.chan (some i.turn)):=.there (.there (Rd.fro (k:=0) rfl rfl))
 repeat (first | (apply wo_po;apply mo_load;exact rfl;exact rt2;exact gY) | (apply wo_po;apply mo_build (pv:=[]);exact rfl;exact .nil;exact rfl;exact trivial) | refine we_seq ?_ | (refine wR ?_;try simp only [oS]) | refine wM ?_ | refine wN ?_ | refine wD ?_)
 refine wo_turn (X:=⟨g,wg,seatSs ids p.qs,some p.s,16384-p.tr.length,ids.length,false,.play⟩) (j:=k) (lf:=16384-(p.tr.length+1)) (c:=⟨i.says,i.turn,i.fin,.said q⟩) (s:=p.s) (q:=q) rfl rfl rfl rfl hsk rfl hpl rfl (by show 16384-p.tr.length=_;omega) (by show ids.length=_;rw [hsz]) hok (.there (.there (.there (.there (.there (.there .here)))))) trivial ?_
 have rs2:∀ {A C D:HProp} {M:List HProp},Rd (A::C::seatR i.sb i.says i.turn i.fin::D::M) i.sb 2 (.chan (some i.says)):=.there (.there (Rd.fro (k:=2) rfl rfl))
 repeat (first | (apply wo_po;apply mo_load;exact rfl;exact rs2;exact gY) | refine we_seq ?_ | (refine wR ?_;try simp only [oS]) | refine wo_nil ?_ | refine wM ?_ | refine wN ?_ | refine wD ?_)
 refine wo_hear (X:=⟨g,wg,(seatSs ids p.qs).set k ⟨i.says,i.turn,i.fin,.run (f p.s).1 (f p.s).2⟩,none,16384-(p.tr.length+1),ids.length,false,.play⟩) (j:=k) (c:=⟨i.says,i.turn,i.fin,.run (f p.s).1 (f p.s).2⟩) (s:=(f p.s).1) (q:=(f p.s).2) rfl rfl rfl (List.getElem?_set_self (by rw [hsz];exact hk)) rfl rfl trivial ?_
 have hc:=lastC_says (g:=g) (q:=(f p.s).2)
 have hov:over [.int .u8 m.1,.int .i64 m.2,.bool false] 0 (g.says (f p.s).2).cells.toList=lastQ g (f p.s).2:=by
  rw [hc];unfold over;simp [lastC_len]
 repeat (first | refine wN ?_ | refine wD ?_)
 apply wo_pm
 exact mo_storeA (n:=3) (c:=3) (k:=0) (a:=3) (vs:=[.int .u8 m.1,.int .i64 m.2,.bool false]) rfl rfl (by rw [← Array.length_toList,hc];exact lastC_len) (by rw [hc];exact lastC_one) rfl (Nat.le_refl 3) (.there (.there (.there (.there .here))))
 exact trivial
 rw [hov]
 have hset:((seatSs ids p.qs).set k ⟨i.says,i.turn,i.fin,.run (f p.s).1 (f p.s).2⟩).set k ⟨i.says,i.turn,i.fin,.said (f p.s).2⟩=seatSs ids (p.qs.set k (f p.s).2):=by
  rw [List.set_set];exact (zip_set (f:=seatS) hi).symm
 repeat (first | refine we_seq ?_ | (refine wR ?_;try simp only [oS]) | refine wo_nil ?_ | refine wA ?_ | refine we_ret ?_)
 (first | refine or1 Try.func61 Try.results61 hQ rfl ?_ | refine on1 Try.func61 Try.results61 hQ rfl ?_)
 refine ⟨.slice ua un uc,rfl,?_,fun h st=>?_⟩
 ·show gx g wg (((seatSs ids p.qs).set k ⟨i.says,i.turn,i.fin,.run (f p.s).1 (f p.s).2⟩).set k ⟨i.says,i.turn,i.fin,.said (f p.s).2⟩) _ _ _=gx g wg _ _ _ _
  rw [hset]
  simp
 ·have st1:Star (seatR i.sb i.says i.turn i.fin::arr i.sb 3 (lastQ g (f p.s).2)::er::g.U (f p.s).1::arr pb 0 [.slice (some ⟨b,o,none⟩) ids.length c,.slice ua un uc,cs]::vec 1 (.slice (some ⟨b,o,none⟩) ids.length c) (ptrs ids)::vec 3 (.slice ua un uc) (trCP p.tr++[.int .i64 (k:Nat),.int .u8 m.1,.int .i64 m.2])::F) h:=Ent.star (.take (.there (.there (.there .here))) (.take (.there (.there (.there .here))) (.take (.there (.there (.there (.there (.there .here))))) (.take .here (.take (.there (.there .here)) (.take (.there (.there .here)) (.take .here (.drop .refl)))))))) st
  rw [← trCP_app] at st1
  have s1:=seat_put hi hq st1
  exact Ent.star (.take (.there .here) (.take (.there .here) (.take (.there .here) (.take (.there .here) (.take .here .refl))))) s1
theorem takes_tr {k:Int} (hl:ids.length=p.qs.length) (hle:p.tr.length≤16384) (hok:p.tr.length<16384→g.ok p.s) :
  Tr Try.prog mT 61 [.pointer (some ⟨pb,0,none⟩),.int .i64 k] (playL g pb ss ts cs ids p F) (playX g wg ids p) fun v L' x'=>∃ ts',v=.bool (takeF p k).2∧L'=playL g pb ss ts' cs ids (takeF p k).1 F∧x'=playX g wg ids (takeF p k).1:=by
 by_cases h0:k<0
 ·rw [show takeF p k=(p,false) by unfold takeF;rw [if_pos h0]]
  exact (take_out hl (.inl h0)).mono fun v L' x' h=>⟨ts,h⟩
 obtain ⟨n,rfl⟩:∃ n:Nat,k=n:=⟨k.toNat,by omega⟩
 cases hq:p.qs[n]? with
 | none =>
  have:=List.getElem?_eq_none_iff.1 hq
  rw [show takeF p (n:Int)=(p,false) by unfold takeF;rw [if_neg h0,Int.toNat_natCast,hq]]
  exact (take_out hl (.inr (by omega))).mono fun v L' x' h=>⟨ts,h⟩
 | some q =>
  have hn:=(List.getElem?_eq_some_iff.1 hq).1
  have hi:ids[n]?=some (ids[n]'(by omega)):=List.getElem?_eq_getElem _
  cases hpl:g.plan q with
  | none =>
   rw [show takeF p (n:Int)=(p,false) by unfold takeF;rw [if_neg h0,Int.toNat_natCast,hq];simp only [hpl]]
   exact (take_no hi hq (.inl hpl)).mono fun v L' x' h=>⟨ts,h⟩
  | some mf =>
   obtain ⟨m,f⟩:=mf
   by_cases htr:p.tr.length=16384
   ·rw [show takeF p (n:Int)=(p,false) by unfold takeF;rw [if_neg h0,Int.toNat_natCast,hq];simp only [hpl,if_pos htr]]
    exact (take_no hi hq (.inr htr)).mono fun v L' x' h=>⟨ts,h⟩
   ·rw [show takeF p (n:Int)=(⟨(f p.s).1,p.qs.set n (f p.s).2,p.tr++[(n,m)]⟩,true) by unfold takeF;rw [if_neg h0,Int.toNat_natCast,hq];simp only [hpl,if_neg htr]]
    exact (take_yes hl hi hq hpl (by omega) (hok (by omega))).mono fun v L' x' h=>h
end
end Go.Proofs.Ytnnpdmhmpgmpnaa
namespace Go.PB
section
variable {P:Program} {B:Hand} {kd:CallKind} {n:Nat} {ops:Array Oper} {ord R:List Nat} {Pd:List Pn} {K:Post B} {e:Env} {z:Z} {L:List HProp} {x:B.X}
theorem ap1_swap {i f:Nat} {ord' R' pre idx:List Nat} {t:Array Value} {h:Hp} (hf:R.contains f=true) (hR:R.erase f=R') (hord:ord'=(ord.takeWhile fun q=>!(q == i))++f::i::R') (hok:okOrd n ops ord'=true)
  (b:Ap1 P B kd n ops ord' f (i::R') Pd K e z L x) (hpre:ord=pre++i::R) (hin:∀ p∈Pd,p.i∈pre) (ok:OkO n ops ord) (hpd:∀ p∈Pd,PdOk P n ops L p) (I:InvA n ops (i::R) Pd e (f::idx) t) (s:Star L h):Wr P B kd ops (f::idx) K t z h x:=by
 subst hR
 have hfR:f∈R:=by simpa using hf
 have hnd:(pre++i::R).Nodup:=hpre▸ok.nd
 have htw:ord.takeWhile (fun q=>!(q == i))=pre:=by rw [hpre];exact takeWhile_pre hnd
 have hnd2:=List.nodup_cons.1 (List.nodup_append.1 hnd).2.1
 have hmem:∀ y,(y∈f::i::R.erase f)↔y∈i::R:=by
  intro y
  simp only [List.mem_cons,hnd2.2.mem_erase_iff]
  constructor
  ·rintro (rfl | rfl | ⟨_,h⟩)
   ·exact .inr hfR
   ·exact .inl rfl
   ·exact .inr h
  ·rintro (rfl | h)
   ·exact .inr (.inl rfl)
   ·by_cases e:y=f
    ·exact .inl e
    ·exact .inr (.inr ⟨e,h⟩)
 refine b ⟨pre,by rw [hord,htw],hin⟩ (okOrd_ok hok) hpd idx t h ⟨I.sz,I.nd,I.lt,fun q hq=>?_,fun q hq=>I.all q ((hmem q).1 hq),fun p hp hh=>I.dj p hp ((hmem _).1 hh),I.pu,I.resp,I.dn,I.envok,I.pok⟩ s
 rcases I.sub q hq with h1 | h1
 ·exact .inl ((hmem q).2 h1)
 ·exact .inr h1
theorem ap_fork3 [Lets B] {i f g:Nat} {ordf ordg Rf Rg:List Nat} (hdom:(R.all fun j=>j == f||j == g||(anc ops ops.size j).contains i)=true) (hf:R.contains f=true) (hRf:R.erase f=Rf) (hordf:ordf=(ord.takeWhile fun q=>!(q == i))++f::i::Rf) (hokf:okOrd n ops ordf=true)
  (hg:R.contains g=true) (hRg:R.erase g=Rg) (hordg:ordg=(ord.takeWhile fun q=>!(q == i))++g::i::Rg) (hokg:okOrd n ops ordg=true)
  (a:Ap1 P B kd n ops ord i R Pd K e z L x) (b:Ap1 P B kd n ops ordf f (i::Rf) Pd K e z L x) (c:Ap1 P B kd n ops ordg g (i::Rg) Pd K e z L x):Ap P B kd n ops ord (i::R) Pd K e z L x:=by
 rintro ⟨pre,hpre,hin⟩ ok hpd
 refine ap_run ok hpd (fun t h I s=>?_) (fun j idx t h hj I s=>?_)
 ·have:=I.all i (by simp);simp at this
 ·by_cases hji:j=i
  ·subst hji
   exact a ⟨pre,hpre,hin⟩ ok hpd idx t h I s
  ·have hjf:j=f∨j=g:=by
    rcases List.mem_cons.1 hj with h1 | h1
    ·exact absurd h1 hji
    ·have:=(List.all_eq_true.1 hdom) j h1
     simp only [Bool.or_eq_true,beq_iff_eq,List.contains_eq_mem,decide_eq_true_eq] at this
     rcases this with h2 | h2
     ·exact h2
     ·exact absurd (I.all i (by simp)) (I.first ok h2)
   rcases hjf with rfl | rfl
   ·exact ap1_swap hf hRf hordf hokf b hpre hin ok hpd I s
   ·exact ap1_swap hg hRg hordg hokg c hpre hin ok hpd I s
theorem ap_fork2 [Lets B] {i f:Nat} {ordf Rf:List Nat} (hdom:(R.all fun j=>j == f||(anc ops ops.size j).contains i)=true) (hf:R.contains f=true) (hRf:R.erase f=Rf) (hordf:ordf=(ord.takeWhile fun q=>!(q == i))++f::i::Rf) (hokf:okOrd n ops ordf=true)
  (a:Ap1 P B kd n ops ord i R Pd K e z L x) (b:Ap1 P B kd n ops ordf f (i::Rf) Pd K e z L x):Ap P B kd n ops ord (i::R) Pd K e z L x:=by
 subst hRf;exact ap_fork hdom hf hordf hokf a b
end
end Go.PB
namespace Go.Proofs.Ytnnpdmhmpgmpnaa
open Go Go.PB
attribute [local irreducible] Mo Bin Eql Tr Wo Ap Wle
section
variable {B:Hand} [Lets B] {L:List HProp} {x:B.X}
def isFn (v:Value):Prop:=∃ f u w,v=.func f u w
theorem wrong1_nil:Tr Try.prog B 77 [.nilFunc] L x fun v L' x'=>v=.bool true∧L'=L∧x'=x:=by
 refine tr_of_body Try.func77 rfl Try.ntmps77 (by simp) fun um Q _ hQ=>?_
 simp only [argE,Nat.zero_add,Nat.reduceAdd]
 repeat (first | (apply wo_po;apply mo_bin;exact rfl;exact rfl;apply bin_eq;apply eql_nilfunc_nil;exact trivial) | refine we_seq ?_ | (refine wR ?_;try simp only [oS]) | refine wo_nil ?_ | refine wM ?_ | refine wA ?_ | refine we_ret ?_)
 (first | refine or1 Try.func77 Try.results77 hQ rfl ?_ | refine on1 Try.func77 Try.results77 hQ rfl ?_)
 exact ⟨rfl,rfl,rfl⟩
theorem wrong1_fn {v:Value} (hv:isFn v):Tr Try.prog B 77 [v] L x fun v L' x'=>v=.bool false∧L'=L∧x'=x:=by
 obtain ⟨f,u,w,rfl⟩:=hv
 refine tr_of_body Try.func77 rfl Try.ntmps77 (by simp) fun um Q _ hQ=>?_
 simp only [argE,Nat.zero_add,Nat.reduceAdd]
 repeat (first | (apply wo_po;apply mo_bin;exact rfl;exact rfl;apply bin_eq;apply eql_func_nil;exact trivial) | refine we_seq ?_ | (refine wR ?_;try simp only [oS]) | refine wo_nil ?_ | refine wM ?_ | refine wA ?_ | refine we_ret ?_)
 (first | refine or1 Try.func77 Try.results77 hQ rfl ?_ | refine on1 Try.func77 Try.results77 hQ rfl ?_)
 exact ⟨rfl,rfl,rfl⟩
def RdsO (L:List HProp) (a:Option Addr) (n:Nat) (vs:List Value):Prop:=n=vs.length∧(n=0∨∃ b o,a=some ⟨b,o,none⟩∧Rds L b o vs)
theorem RdsO.there {L:List HProp} {c:HProp} {a:Option Addr} {n:Nat} {vs:List Value} (h:RdsO L a n vs):RdsO (c::L) a n vs :=
 ⟨h.1,h.2.imp id fun ⟨b,o,e,r⟩=>⟨b,o,e,fun i v hi=>.there (r i v hi)⟩⟩
theorem RdsO.rds {L:List HProp} {a:Option Addr} {n:Nat} {vs:List Value} (h:RdsO L a n vs) (hn:0<n):∃ b o,a=some ⟨b,o,none⟩∧Rds L b o vs:=by
 rcases h.2 with h0 | h
 ·omega
 ·exact h
def idxInv (tv fv:Value) (vs:List Value) (L:List HProp) (x:B.X):PB.Inv Nat B.X where
 e:=fun i=>[(0,tv),(1,fv),(7,.int .i64 (vs.length:Nat)),(8,.int .i64 (i:Nat))]
 L:=fun _=>L
 x:=fun _=>x
 ok:=fun i=>i≤vs.length∧∀ k v,k<i→vs[k]?=some v→isFn v
theorem index_tr {a:Option Addr} {n c:Nat} {vs:List Value} (hvs:∀ v∈vs,v=.nilFunc∨isFn v) (hr:RdsO L a n vs) (hb:n<1000000) :
  Tr Try.prog B 105 [.slice a n c,.func (.func 77) #[] #[]] L x fun v L' x'=>(∃ j:Int,v=.int .i64 j∧((j<0∧∀ v∈vs,isFn v)∨(0≤j∧.nilFunc∈vs)))∧L'=L∧x'=x:=by
 obtain ⟨rfl,hr⟩:=hr
 refine tr_of_body Try.func105 rfl Try.ntmps105 (by simp) fun um Q _ hQ=>?_
 simp only [argE,Nat.zero_add,Nat.reduceAdd]
 repeat (first | refine we_seq ?_ | (refine wR ?_;try simp only [oS]) | refine wo_nil ?_ | refine wM ?_ | refine wA ?_ | refine wE ?_ | refine we_block ?_)
 refine we_loopN (idxInv (.slice a vs.length c) (.func (.func 77) #[] #[]) vs L x) (fun i=>vs.length-i) 0 ⟨by omega,fun k v h=>by omega⟩ ⟨rfl,rfl,rfl,rfl,trivial⟩ .refl rfl ?_
 rintro i ⟨hi,hbe⟩
 simp only [idxInv]
 by_cases hlt:i<vs.length
 ·obtain ⟨b,o,rfl,hrd⟩:∃ b o,a=some ⟨b,o,none⟩∧Rds L b o vs:=by
   rcases hr with h | h
   ·omega
   ·exact h
  have hri:=hrd i vs[i] (List.getElem?_eq_getElem hlt)
  repeat (first | (apply wo_po;apply mo_index1;exact rfl;exact rfl;omega;exact gY) | (apply wo_po;apply mo_load;exact rfl;exact hri;exact trivial) | refine wlssT ?_ | refine we_seq ?_ | (refine wR ?_;try simp only [oS]) | refine wo_nil ?_ | refine wM ?_ | refine wA ?_ | refine wT ?_ | refine we_skip ?_ | refine we_block ?_)
  rcases hvs vs[i] (List.getElem_mem hlt) with hv | hv
  ·rw [hv]
   refine wo_callv (args:=[_]) (first:=[]) (cap:=[]) rfl rfl (.cons rfl .nil) trivial (R:=fun v L' x'=>v=.bool true∧L'=L∧x'=x) wrong1_nil ?_
   rintro v L' x' ⟨rfl,rfl,rfl⟩
   repeat (first | refine we_seq ?_ | (refine wR ?_;try simp only [oS]) | refine wo_nil ?_ | refine wM ?_ | refine wA ?_ | refine wT ?_ | refine we_ret ?_)
   (first | refine or1 Try.func105 Try.results105 hQ rfl ?_ | refine on1 Try.func105 Try.results105 hQ rfl ?_)
   exact ⟨⟨_,rfl,.inr ⟨by omega,by rw [← hv];exact List.getElem_mem hlt⟩⟩,rfl,rfl⟩
  ·refine wo_callv (args:=[_]) (first:=[]) (cap:=[]) rfl rfl (.cons rfl .nil) trivial (R:=fun v L' x'=>v=.bool false∧L'=L∧x'=x) (wrong1_fn hv) ?_
   rintro v L' x' ⟨rfl,rfl,rfl⟩
   repeat (first | (refine wR ?_;try simp only [oS]) | refine wo_nil ?_ | refine wM ?_ | refine wadd ?_ | refine wF ?_ | refine we_skip ?_)
   refine at_round (I:=idxInv (.slice (some ⟨b,o,none⟩) vs.length c) (.func (.func 77) #[] #[]) vs _ x') (R:=fun j=>vs.length-j<vs.length-i) (i+1) (by omega) ⟨by omega,fun k v hk hv'=>?_⟩ ⟨rfl,rfl,rfl,rfl,trivial⟩ .refl rfl
   by_cases e:k=i
   ·subst e;rw [List.getElem?_eq_getElem hlt] at hv';cases hv';exact hv
   ·exact hbe k v (by omega) hv'
 ·repeat (first | refine wlssF ?_ | refine we_seq ?_ | (refine wR ?_;try simp only [oS]) | refine wo_nil ?_ | refine wA ?_ | refine wF ?_ | refine we_ret ?_ | refine we_exit ?_)
  (first | refine or1 Try.func105 Try.results105 hQ rfl ?_ | refine on1 Try.func105 Try.results105 hQ rfl ?_)
  refine ⟨⟨_,rfl,.inl ⟨by omega,fun v hv=>?_⟩⟩,rfl,rfl⟩
  obtain ⟨k,hk⟩:=List.mem_iff_getElem?.1 hv
  exact hbe k v (by have:=(List.getElem?_eq_some_iff.1 hk).1;omega) hk
theorem contains_tr {a:Option Addr} {n c:Nat} {vs:List Value} (hvs:∀ v∈vs,v=.nilFunc∨isFn v) (hr:RdsO L a n vs) (hb:n<1000000) :
  Tr Try.prog B 76 [.slice a n c,.func (.func 77) #[] #[]] L x fun v L' x'=>(∃ q,v=.bool q∧(if q=true then .nilFunc∈vs else ∀ v∈vs,isFn v))∧L'=L∧x'=x:=by
 refine tr_of_body Try.func76 rfl Try.ntmps76 (by simp) fun um Q _ hQ=>?_
 simp only [argE,Nat.zero_add,Nat.reduceAdd]
 repeat (first | refine we_seq ?_ | (refine wR ?_;try simp only [oS]) | refine wo_nil ?_ | refine wM ?_ | refine wA ?_)
 refine wo_call (.cons rfl (.cons rfl .nil)) trivial (index_tr hvs hr hb) ?_
 rintro v L' x' ⟨⟨j,rfl,hj⟩,rfl,rfl⟩
 rcases hj with ⟨h1,h2⟩ | ⟨h1,h2⟩
 ·repeat (first | refine wgeqF ?_ | refine wo_nil ?_ | refine wA ?_ | refine we_ret ?_)
  (first | refine or1 Try.func76 Try.results76 hQ rfl ?_ | refine on1 Try.func76 Try.results76 hQ rfl ?_)
  exact ⟨⟨false,rfl,h2⟩,rfl,rfl⟩
 ·repeat (first | refine wgeqT ?_ | refine wo_nil ?_ | refine wA ?_ | refine we_ret ?_)
  (first | refine or1 Try.func76 Try.results76 hQ rfl ?_ | refine on1 Try.func76 Try.results76 hQ rfl ?_)
  exact ⟨⟨true,rfl,h2⟩,rfl,rfl⟩
theorem wrong_tr {a:Option Addr} {n c:Nat} {vs:List Value} (hvs:∀ v∈vs,v=.nilFunc∨isFn v) (hr:RdsO L a n vs) (hb:n<1000000) :
  Tr Try.prog B 55 [.slice a n c] L x fun v L' x'=>(∃ k:Int,v=.int .i64 k∧(((k=1∧.nilFunc∈vs)∨((∀ v∈vs,isFn v)∧k=if vs.length=0 then 2 else if 16<vs.length then 4 else 0))))∧L'=L∧x'=x:=by
 have hn:=hr.1
 refine tr_of_body Try.func55 rfl Try.ntmps55 (by simp) fun um Q _ hQ=>?_
 simp only [argE,Nat.zero_add,Nat.reduceAdd]
 repeat (first | refine we_seq ?_ | (refine wR ?_;try simp only [oS]) | refine wo_nil ?_ | refine wM ?_ | refine wA ?_ | refine we_block ?_)
 refine wo_call (.cons rfl (.cons rfl .nil)) trivial (contains_tr hvs hr hb) ?_
 rintro v L' x' ⟨⟨q,rfl,hq⟩,rfl,rfl⟩
 cases q with
 | true =>
  repeat (first | refine we_seq ?_ | (refine wR ?_;try simp only [oS]) | refine wo_nil ?_ | refine wA ?_ | refine wT ?_ | refine we_ret ?_)
  (first | refine or1 Try.func55 Try.results55 hQ rfl ?_ | refine on1 Try.func55 Try.results55 hQ rfl ?_)
  exact ⟨⟨_,rfl,.inl ⟨rfl,hq⟩⟩,rfl,rfl⟩
 | false =>
  by_cases h0:n=0
  ·repeat (first | refine weqlT ?_ | refine we_seq ?_ | (refine wR ?_;try simp only [oS]) | refine wo_nil ?_ | refine wM ?_ | refine wA ?_ | refine wE ?_ | refine wT ?_ | refine wF ?_ | refine we_ret ?_)
   (first | refine or1 Try.func55 Try.results55 hQ rfl ?_ | refine on1 Try.func55 Try.results55 hQ rfl ?_)
   exact ⟨⟨_,rfl,.inr ⟨hq,by rw [if_pos (by omega)]⟩⟩,rfl,rfl⟩
  by_cases h1:16<n
  ·repeat (first | refine wgtrT ?_ | refine weqlF ?_ | refine we_seq ?_ | (refine wR ?_;try simp only [oS]) | refine wo_nil ?_ | refine wM ?_ | refine wA ?_ | refine wE ?_ | refine wT ?_ | refine wF ?_ | refine we_ret ?_)
   (first | refine or1 Try.func55 Try.results55 hQ rfl ?_ | refine on1 Try.func55 Try.results55 hQ rfl ?_)
   exact ⟨⟨_,rfl,.inr ⟨hq,by rw [if_neg (by omega),if_pos (by omega)]⟩⟩,rfl,rfl⟩
  ·repeat (first | refine wgtrF ?_ | refine weqlF ?_ | refine we_seq ?_ | (refine wR ?_;try simp only [oS]) | refine wo_nil ?_ | refine wM ?_ | refine wA ?_ | refine wE ?_ | refine wF ?_ | refine we_ret ?_ | refine we_skip ?_)
   (first | refine or1 Try.func55 Try.results55 hQ rfl ?_ | refine on1 Try.func55 Try.results55 hQ rfl ?_)
   exact ⟨⟨_,rfl,.inr ⟨hq,by rw [if_neg (by omega),if_neg (by omega)]⟩⟩,rfl,rfl⟩
end
end Go.Proofs.Ytnnpdmhmpgmpnaa
namespace Go.Proofs.Ytnnpdmhmpgmpnaa
open Go Go.PB
attribute [local irreducible] Mo Bin Eql Tr Wo Ap Wle
attribute [local instance] Pass.of_no
section
structure Thr (g:Game) where
 fv:Value
 ini:g.σ→g.σ × g.θ
 M:HProp
section
variable {g:Game}
def startF:List (Thr g)→g.σ→g.σ × List g.θ
 | [],s=>(s,[])
 | t::ts,s=>((startF ts (t.ini s).1).1,(t.ini s).2::(startF ts (t.ini s).1).2)
theorem startF_snoc {t:Thr g}:∀ (l:List (Thr g)) (s:g.σ),startF (l++[t]) s=((t.ini (startF l s).1).1,(startF l s).2++[(t.ini (startF l s).1).2])
 | [],s=>rfl
 | a::l,s=>by simp only [List.cons_append,startF,startF_snoc l]
theorem startF_len:∀ (l:List (Thr g)) (s:g.σ),(startF l s).2.length=l.length
 | [],s=>rfl
 | a::l,s=>by simp [startF,startF_len l]
def ordF (p:PS g) (order:List Int):PS g:=order.foldl (fun p k=>(takeF p k).1) p
def roundF (p:PS g):Nat→PS g × Bool
 | 0=>(p,false)
 | k+1=>((takeF (roundF p k).1 k).1,(takeF (roundF p k).1 k).2||(roundF p k).2)
def restF:Nat→PS g→PS g
 | 0,p=>p
 | n+1,p=>if (roundF p p.qs.length).2=true then restF n (roundF p p.qs.length).1 else (roundF p p.qs.length).1
def playF (ts:List (Thr g)) (s:g.σ) (order:List Int):PS g:=restF 16385 (ordF ⟨(startF ts s).1,(startF ts s).2,[]⟩ order)
def cutC (l:List Nat):List Value:=l.map fun k=>.int .i64 (k:Nat)
theorem roundF_len (p:PS g):∀ n,(roundF p n).1.qs.length=p.qs.length
 | 0=>rfl
 | n+1=>by show (takeF _ _).1.qs.length=_;rw [takeF_len,roundF_len p n]
theorem roundF_le {p:PS g} (h:p.tr.length≤16384):∀ n,(roundF p n).1.tr.length≤16384
 | 0=>h
 | n+1=>takeF_le (roundF_le h n) _
theorem takeF_cases (p:PS g) (k:Int):takeF p k=(p,false)∨∃ (n:Nat) (q:g.θ) (m:Int × Int) (f:g.σ→g.σ × g.θ),k=n∧p.qs[n]?=some q∧g.plan q=some (m,f)∧p.tr.length≠16384∧takeF p k=(⟨(f p.s).1,p.qs.set n (f p.s).2,p.tr++[(n,m)]⟩,true):=by
 by_cases h0:k<0
 ·left;unfold takeF;rw [if_pos h0]
 obtain ⟨n,rfl⟩:∃ n:Nat,k=n:=⟨k.toNat,by omega⟩
 cases hq:p.qs[n]? with
 | none=>left;unfold takeF;rw [if_neg h0,Int.toNat_natCast,hq]
 | some q =>
  cases hpl:g.plan q with
  | none=>left;unfold takeF;rw [if_neg h0,Int.toNat_natCast,hq];simp only [hpl]
  | some mf =>
   obtain ⟨m,f⟩:=mf
   by_cases htr:p.tr.length=16384
   ·left;unfold takeF;rw [if_neg h0,Int.toNat_natCast,hq];simp only [hpl,if_pos htr]
   ·right;refine ⟨n,q,m,f,rfl,hq,hpl,htr,?_⟩
    unfold takeF;rw [if_neg h0,Int.toNat_natCast,hq];simp only [hpl,if_neg htr]
theorem takeF_grow (p:PS g) (k:Int):p.tr.length+(if (takeF p k).2=true then 1 else 0)≤(takeF p k).1.tr.length:=by
 rcases takeF_cases p k with h | ⟨n,q,m,f,_,_,_,_,h⟩ <;> rw [h] <;> simp
theorem roundF_grow (p:PS g):∀ n,p.tr.length+(if (roundF p n).2=true then 1 else 0)≤(roundF p n).1.tr.length
 | 0=>by simp [roundF]
 | n+1=>by
  have h1:=roundF_grow p n
  have h2:=takeF_grow (roundF p n).1 n
  show p.tr.length+(if ((takeF (roundF p n).1 n).2||(roundF p n).2)=true then 1 else 0)≤(takeF (roundF p n).1 n).1.tr.length
  cases h3:(takeF (roundF p n).1 n).2 <;> cases h4:(roundF p n).2 <;> simp [h3,h4] at h1 h2 ⊢ <;> omega
theorem ordF_len (order:List Int):∀ p:PS g,(ordF p order).qs.length=p.qs.length:=by
 induction order with
 | nil=>intro p;rfl
 | cons k l ih=>intro p;show (ordF (takeF p k).1 l).qs.length=_;rw [ih,takeF_len]
theorem ordF_le (order:List Int):∀ p:PS g,p.tr.length≤16384→(ordF p order).tr.length≤16384:=by
 induction order with
 | nil=>intro p h;exact h
 | cons k l ih=>intro p h;exact ih _ (takeF_le h k)
theorem ordF_snoc (p:PS g) (l:List Int) (k:Int):ordF p (l++[k])=(takeF (ordF p l) k).1:=by simp [ordF]
def cutN (g:Game) (qs:List g.θ) (j:Nat):List Nat:=(List.range j).filter fun k=>((qs[k]?).bind g.plan).isSome
theorem cutN_succ {qs:List g.θ} {j:Nat}:cutN g qs (j+1)=cutN g qs j++(if ((qs[j]?).bind g.plan).isSome=true then [j] else []):=by
 unfold cutN
 rw [List.range_succ,List.filter_append]
 congr 1
 simp only [List.filter_cons,List.filter_nil]
def shutS (ids:List SId) (qs:List g.θ) (j:Nat):List (Seat g.σ g.θ):=(List.zip ids qs).mapIdx fun k iq=>if k<j then ⟨iq.1.says,iq.1.turn,iq.1.fin,.shut iq.2⟩ else seatS iq.1 iq.2
theorem shutS_zero {ids:List SId} {qs:List g.θ}:shutS ids qs 0=seatSs ids qs:=by
 apply List.ext_getElem?
 intro k
 simp only [shutS,List.getElem?_mapIdx,seatSs,List.getElem?_zipWith,List.getElem?_zip_eq_some,List.zip,Nat.not_lt_zero,if_false]
 cases ids[k]? <;> cases qs[k]? <;> rfl
theorem shutS_len {ids:List SId} {qs:List g.θ} {j:Nat} (h:ids.length=qs.length):(shutS ids qs j).length=ids.length:=by simp [shutS];omega
theorem shutS_get {ids:List SId} {qs:List g.θ} {j k:Nat} {i:SId} {q:g.θ} (hi:ids[k]?=some i) (hq:qs[k]?=some q):(shutS ids qs j)[k]?=some (if k<j then ⟨i.says,i.turn,i.fin,.shut q⟩ else seatS i q):=by
 simp [shutS,List.getElem?_mapIdx,List.zip,List.getElem?_zipWith,hi,hq]
theorem shutS_succ {ids:List SId} {qs:List g.θ} {j:Nat} {i:SId} {q:g.θ} (hi:ids[j]?=some i) (hq:qs[j]?=some q):(shutS ids qs j).set j ⟨i.says,i.turn,i.fin,.shut q⟩=shutS ids qs (j+1):=by
 apply List.ext_getElem?
 intro k
 have hj:j<(shutS ids qs j).length:=(List.getElem?_eq_some_iff.1 (shutS_get (j:=j) hi hq)).1
 rw [List.getElem?_set]
 by_cases e:j=k
 ·subst e
  rw [if_pos rfl,if_pos hj,shutS_get hi hq,if_pos (by omega)]
 ·rw [if_neg e]
  simp only [shutS,List.getElem?_mapIdx]
  cases (ids.zip qs)[k]? with
  | none=>rfl
  | some iq =>
   simp only [Option.map_some,Option.some.injEq]
   by_cases h:k<j
   ·rw [if_pos h,if_pos (by omega)]
   ·rw [if_neg h,if_neg (by omega)]
theorem shutS_all {ids:List SId} {qs:List g.θ} (h:ids.length=qs.length):(shutS ids qs ids.length).map Seat.fins=qs.map g.Fin:=by
 apply List.ext_getElem?
 intro k
 by_cases hk:k<ids.length
 ·have hi:=List.getElem?_eq_getElem hk
  have hq:=List.getElem?_eq_getElem (show k<qs.length by omega)
  rw [List.getElem?_map,shutS_get hi hq,if_pos hk,List.getElem?_map,hq]
  rfl
 ·rw [List.getElem?_eq_none (by simp [shutS_len h];omega),List.getElem?_eq_none (by simp;omega)]
theorem shutS_closed {ids:List SId} {qs:List g.θ} (h:ids.length=qs.length):∀ s∈shutS ids qs ids.length,s.closed:=by
 intro s hs
 obtain ⟨k,hk⟩:=List.mem_iff_getElem?.1 hs
 have hlt:=(List.getElem?_eq_some_iff.1 hk).1
 rw [shutS_len h] at hlt
 rw [shutS_get (List.getElem?_eq_getElem hlt) (List.getElem?_eq_getElem (show k<qs.length by omega)),if_pos hlt] at hk
 cases hk
 trivial
end
section
variable {g:Game} {ts:List (Thr g)} {s0:g.σ} {F:List HProp} {wg pb rb:Nat} {ov tv:Value}
theorem star_head {c:HProp} {M L:List HProp} {h:Hp} (s:Star (all (c::M)::L) h):Star (c::all M::L) h :=
 star_map (star_open s) (fun _ a=>a) (fun _ st=>star_shut (M:=M) st)
def startInvP (ts:List (Thr g)) (s0:g.σ) (wg pb rb:Nat) (ov tv:Value) (F:List HProp):PB.Inv (Nat × g.σ × List g.θ × List SId × Value) MX where
 e:=fun i=>[(0,ov),(1,tv),(4,.pointer (some ⟨rb,0,none⟩)),(7,.pointer (some ⟨wg,0,none⟩)),(8,.pointer (some ⟨pb,0,none⟩)),(28,tv),(29,.int .i64 (ts.length:Nat)),(30,.int .i64 (i.1:Nat))]
 L:=fun i=>g.U i.2.1::arr pb 0 [i.2.2.2.2,.slice none 0 0,.slice none 0 0]::vec 1 i.2.2.2.2 (ptrs i.2.2.2.1)::all (seatCs g i.2.2.2.1 i.2.2.1)::all ((ts.drop i.1).map Thr.M)::arr rb 0 [.slice none 0 0,.slice none 0 0]::F
 x:=fun i=>gx g wg (seatSs i.2.2.2.1 i.2.2.1) (some i.2.1) 16384 (seatSs i.2.2.2.1 i.2.2.1).length
 ok:=fun i=>i.1≤ts.length∧i.2.2.2.1.length=i.1∧startF (ts.take i.1) s0=(i.2.1,i.2.2.1)
def seatMid (wg pb rb j n:Nat) (ov tv fv:Value) (x:MX) (L:List HProp):PB.Inv (Nat × Nat × Nat × Nat) MX where
 e:=fun i=>[(0,ov),(1,tv),(4,.pointer (some ⟨rb,0,none⟩)),(7,.pointer (some ⟨wg,0,none⟩)),(8,.pointer (some ⟨pb,0,none⟩)),(28,tv),(29,.int .i64 (n:Nat)),(30,.int .i64 (j:Nat)),(10,fv),(11,.pointer (some ⟨i.1,0,none⟩))]
 L:=fun i=>arr i.1 0 [.chan (some i.2.2.1),.chan (some i.2.2.2),.chan (some i.2.1),.int .u8 0,.int .i64 0,.bool false]::ob i.2.1 newChan::ob i.2.2.1 newChan::ob i.2.2.2 newChan::L
 x:=fun _=>x
 ok:=fun _=>True
def ordInv (p0:PS g) (order:List Int) (ids:List SId) (wg pb rb:Nat) (ov:Value) (ss:Value) (F:List HProp):PB.Inv (Nat × Value) MX where
 e:=fun i=>[(4,.pointer (some ⟨rb,0,none⟩)),(7,.pointer (some ⟨wg,0,none⟩)),(8,.pointer (some ⟨pb,0,none⟩)),(49,ov),(50,.int .i64 (order.length:Nat)),(51,.int .i64 (i.1:Nat))]
 L:=fun i=>playL g pb ss i.2 (.slice none 0 0) ids (ordF p0 (order.take i.1)) F
 x:=fun i=>playX g wg ids (ordF p0 (order.take i.1))
 ok:=fun i=>i.1≤order.length
def restInv (I:PS g→Prop) (p0:PS g) (ids:List SId) (wg pb rb:Nat) (ss:Value) (F:List HProp):PB.Inv (Nat × PS g × Value × Bool) MX where
 e:=fun i=>[(4,.pointer (some ⟨rb,0,none⟩)),(7,.pointer (some ⟨wg,0,none⟩)),(8,.pointer (some ⟨pb,0,none⟩)),(14,.bool i.2.2.2)]
 L:=fun i=>playL g pb ss i.2.2.1 (.slice none 0 0) ids i.2.1 F
 x:=fun i=>playX g wg ids i.2.1
 ok:=fun i=>I i.2.1∧i.2.1.qs.length=p0.qs.length∧i.2.1.tr.length≤16384∧(if i.2.2.2=true then restF i.1 i.2.1=restF 16385 p0∧16384<i.2.1.tr.length+i.1 else i.2.1=restF 16385 p0)
def rndInvP (p:PS g) (ids:List SId) (wg pb rb:Nat) (ss:Value) (F:List HProp):PB.Inv (Nat × Value) MX where
 e:=fun i=>[(4,.pointer (some ⟨rb,0,none⟩)),(7,.pointer (some ⟨wg,0,none⟩)),(8,.pointer (some ⟨pb,0,none⟩)),(14,.bool (roundF p i.1).2),(61,.int .i64 (ids.length:Nat)),(62,.int .i64 (i.1:Nat))]
 L:=fun i=>playL g pb ss i.2 (.slice none 0 0) ids (roundF p i.1).1 F
 x:=fun i=>playX g wg ids (roundF p i.1).1
 ok:=fun i=>i.1≤ids.length
def cutInv (p:PS g) (ids:List SId) (wg pb rb:Nat) (ss tsv:Value) (F:List HProp):PB.Inv (Nat × Value) MX where
 e:=fun i=>[(4,.pointer (some ⟨rb,0,none⟩)),(7,.pointer (some ⟨wg,0,none⟩)),(8,.pointer (some ⟨pb,0,none⟩)),(72,ss),(73,.int .i64 (ids.length:Nat)),(74,.int .i64 (i.1:Nat))]
 L:=fun i=>vec 1 i.2 (cutC (cutN g p.qs i.1))::arr pb 0 [ss,tsv,i.2]::vec 1 ss (ptrs ids)::vec 3 tsv (trCP p.tr)::all (seatCs g ids p.qs)::g.U p.s::F
 x:=fun i=>gx g wg (shutS ids p.qs i.1) (some p.s) (16384-p.tr.length) ids.length
 ok:=fun i=>i.1≤ids.length
set_option maxHeartbeats 4000000 in
theorem plays_tr {oa ta:Option Addr} {on oc tn tc:Nat} {order:List Int} (I:PS g→Prop) (hS:∀ j,j<ts.length→g.ok (startF (ts.take j) s0).1) (hI0:I ⟨(startF ts s0).1,(startF ts s0).2,[]⟩) (hIs:∀ p k,I p→I (takeF p k).1) (hIo:∀ p,I p→p.tr.length<16384→g.ok p.s) (hfin:∀ q h,g.Pv q h→g.Fin q h) (hts:∀ t∈ts,ThrOk g t.ini t.fv t.M) (h1:0<ts.length) (h16:ts.length≤16) (hor:order.length≤16384)
  (hrt:RdsO F ta tn (ts.map Thr.fv)) (hro:RdsO F oa on (order.map fun k=>.int .i64 k)) :
  Tr Try.prog mT 30 [.slice oa on oc,.slice ta tn tc] (g.U s0::all (ts.map Thr.M)::F) .idle fun v L' x' =>
   ∃ tv cv,v=.tuple #[.agg #[tv,cv],.int .i64 0]∧x'=.idle∧L'=vec 3 tv (trCP (playF ts s0 order).tr)::vec 1 cv (cutC (cutN g (playF ts s0 order).qs ts.length))::g.U (playF ts s0 order).s::all ((playF ts s0 order).qs.map g.Fin)::F:=by
 refine Tr.post (R:=fun v L' x'=>∃ tv cv,v=.tuple #[.agg #[tv,cv],.int .i64 0]∧x'=MX.idle∧∀ h,Star L' h→Star (vec 3 tv (trCP (playF ts s0 order).tr)::vec 1 cv (cutC (cutN g (playF ts s0 order).qs ts.length))::g.U (playF ts s0 order).s::all ((playF ts s0 order).qs.map g.Fin)::F) h) ?_
  (by rintro v L' x' ⟨tv,cv,rfl,rfl,h2⟩;exact ⟨_,⟨tv,cv,rfl,rfl,rfl⟩,h2⟩)
 have hfn:∀ v∈ts.map Thr.fv,isFn v:=by
  intro v hv
  obtain ⟨t,ht,rfl⟩:=List.mem_map.1 hv
  obtain ⟨f,first,cap,hc,_⟩:=(hts t ht).run
  revert hc
  cases t.fv with
  | func a b c=>exact fun _=>⟨a,b,c,rfl⟩
  | _=>intro hc;cases hc
 have hIord:∀ (l:List Int) (p:PS g),I p→I (ordF p l):=by
  intro l
  induction l with
  | nil=>exact fun p h=>h
  | cons k l ih=>exact fun p h=>ih _ (hIs p k h)
 have hIrnd:∀ (p:PS g) k,I p→I (roundF p k).1:=by
  intro p k h
  induction k with
  | zero=>exact h
  | succ k ih=>exact hIs _ _ ih
 have htn:tn=ts.length:=by have:=hrt.1;simpa using this
 have hon:on=order.length:=by have:=hro.1;simpa using this
 subst htn
 subst hon
 refine tr_of_body Try.func30 rfl Try.ntmps30 (by simp) fun um Q _ hQ=>?_
 simp only [argE,Nat.zero_add,Nat.reduceAdd]
 repeat (first | (apply wo_mo;apply mo_alloc;exact trivial) | refine we_seq ?_ | (refine wR ?_;try simp only [oS]))
 rintro v' L' ⟨rb,rfl,rfl⟩
 repeat (first | refine we_seq ?_ | (refine wR ?_;try simp only [oS]) | refine wo_nil ?_ | refine wM ?_ | refine wA ?_)
 refine wo_call (.cons rfl .nil) trivial (wrong_tr (fun v hv=>.inr (hfn v hv)) hrt.there.there.there (by omega)) ?_
 rintro v' L' x' ⟨⟨k,rfl,hk⟩,rfl,rfl⟩
 obtain rfl:k=0:=by
  rcases hk with ⟨_,h⟩ | ⟨_,h⟩
  ·obtain ⟨_,_,_,h⟩:=hfn _ h;cases h
  ·rw [h,List.length_map,if_neg (by omega),if_neg (by omega)]
 repeat (first | (apply wo_mo;apply mo_allocS;exact trivial) | refine wgtrF ?_ | refine wneqF ?_ | refine we_seq ?_ | (refine wR ?_;try simp only [oS]) | refine wo_nil ?_ | refine wM ?_ | refine wA ?_ | refine wE ?_ | refine wF ?_ | refine we_skip ?_)
 rintro v' L' ⟨wg,rfl,rfl⟩
 repeat (first | refine we_seq ?_ | (refine wR ?_;try simp only [oS]) | refine wo_nil ?_)
 refine wo_begin g s0 (wg:=wg) (R:=arr rb 0 [.slice none 0 0,.slice none 0 0]::g.U s0::all (ts.map Thr.M)::F) (fun h st=>st) ?_
 repeat (first | (apply wo_mo;apply mo_alloc;exact trivial))
 rintro v' L' ⟨pb,rfl,rfl⟩
 repeat (first | refine we_seq ?_ | (refine wR ?_;try simp only [oS]) | refine wo_nil ?_ | refine wM ?_ | refine wE ?_ | refine we_block ?_)
 refine we_star (vec 1 (.slice none 0 0) (ptrs [])::all (seatCs g [] [])::arr pb 0 [.slice none 0 0,.slice none 0 0,.slice none 0 0]::shpC wg 144 2::arr rb 0 [.slice none 0 0,.slice none 0 0]::g.U s0::all (ts.map Thr.M)::F) (fun h st=>vec_nil (star_shut (M:=[]) st)) ?_
 refine we_loopN (startInvP ts s0 wg pb rb (.slice oa order.length oc) (.slice ta ts.length tc) (shpC wg 144 2::F)) (fun i=>ts.length-i.1) (0,s0,[],[],.slice none 0 0) ⟨by omega,rfl,rfl⟩ ⟨rfl,rfl,rfl,rfl,rfl,rfl,rfl,rfl,trivial⟩ (.take (.there (.there (.there (.there (.there .here))))) (.take (.there (.there .here)) (.take .here (.take .here (.take (.there (.there .here)) (.take (.there .here) (.take .here .refl))))))) rfl ?_
 rintro ⟨j,s,qs,ids,ss⟩ ⟨hj,hids,hst⟩
 simp only at hj hids hst
 have hqs:qs.length=j:=by have:=startF_len (ts.take j) s0;rw [hst] at this;simpa [Nat.min_eq_left hj] using this
 have hsl:(seatSs ids qs).length=ids.length:=by simp [seatSs];omega
 simp only [startInvP]
 by_cases hlt:j<ts.length
 ·obtain ⟨tb,to,rfl,hrd⟩:=hrt.rds (by omega)
  have ht:ts[j]?=some ts[j]:=List.getElem?_eq_getElem hlt
  have hrj:=hrd j (ts[j].fv) (by simp [ht])
  have hTO:=hts _ (List.getElem_mem hlt)
  have hdrop:ts.drop j=ts[j]::ts.drop (j+1):=List.drop_eq_getElem_cons hlt
  rw [hdrop]
  refine we_star (g.U s::arr pb 0 [ss,.slice none 0 0,.slice none 0 0]::vec 1 ss (ptrs ids)::all (seatCs g ids qs)::ts[j].M::all ((ts.drop (j+1)).map Thr.M)::arr rb 0 [.slice none 0 0,.slice none 0 0]::shpC wg 144 2::F) (fun h st=>Ent.star (.take (.there (.there .here)) (.take (.there (.there .here)) (.take (.there (.there .here)) (.take (.there (.there .here)) (.take .here (.take .here .refl)))))) (star_head (((.there (.there (.there (.there .here)))):Has _ (all ((ts[j]::ts.drop (j+1)).map Thr.M)) _).star st))) ?_
  repeat (first | (apply wo_po;apply mo_index1;exact rfl;exact rfl;omega;exact gY) | (apply wo_po;apply mo_load;exact rfl;exact .there (.there (.there (.there (.there (.there (.there (.there hrj)))))));exact trivial) | refine wlssT ?_ | refine we_seq ?_ | (refine wR ?_;try simp only [oS]) | refine wo_nil ?_ | refine wA ?_ | refine wT ?_ | refine we_skip ?_ | refine we_block ?_)
  let MI:=seatMid wg pb rb j ts.length (.slice oa order.length oc) (.slice (some ⟨tb,to,none⟩) ts.length tc) ts[j].fv (gx g wg (seatSs ids qs) (some s) 16384 (seatSs ids qs).length) (g.U s::arr pb 0 [ss,.slice none 0 0,.slice none 0 0]::vec 1 ss (ptrs ids)::all (seatCs g ids qs)::ts[j].M::all ((ts.drop (j+1)).map Thr.M)::arr rb 0 [.slice none 0 0,.slice none 0 0]::shpC wg 144 2::F)
  refine we_join MI ?_ ?_
  ·refine we_draw (List.range' 0 6) (by kernel_rfl) ?_
   refine ap_fork3 (f:=1) (g:=2) (ordf:=[1,0,2,3,4,5]) (ordg:=[2,0,1,3,4,5]) (Rf:=[2,3,4,5]) (Rg:=[1,3,4,5]) (by kernel_rfl) (by kernel_rfl) (by kernel_rfl) (by kernel_rfl) (by kernel_rfl) (by kernel_rfl) (by kernel_rfl) (by kernel_rfl) (by kernel_rfl) ?_ ?_ ?_
   ·refine ap1_mo (Pd':=[]) rfl rfl rfl trivial (mo_makeChan (m:=0) (k:=.i64) rfl (by omega) (by omega)) (fun v L' _ p hp=>by cases hp) ?_
    rintro v' L' ⟨ct,rfl,rfl⟩
    refine ap_fork2 (f:=2) (ordf:=[0,2,1,3,4,5]) (Rf:=[3,4,5]) (by kernel_rfl) (by kernel_rfl) (by kernel_rfl) (by kernel_rfl) (by kernel_rfl) ?_ ?_
    ·refine ap1_mo (Pd':=[]) rfl rfl rfl trivial (mo_makeChan (m:=0) (k:=.i64) rfl (by omega) (by omega)) (fun v L' _ p hp=>by cases hp) ?_
     rintro v' L' ⟨ce,rfl,rfl⟩
     refine ap_loud rfl rfl rfl rfl rfl trivial (mo_makeChan (m:=0) (k:=.i64) rfl (by omega) (by omega)) ?_
     rintro v' L' ⟨cs,rfl,rfl⟩
     repeat (first | (apply ap_pure;exact rfl;exact rfl;exact trivial;intro L;apply mo_build (pv:=[(0,_),(1,_),(2,_)]);exact rfl;exact .cons rfl (.cons rfl (.cons rfl .nil));exact rfl))
     refine ap_loud rfl rfl rfl rfl rfl trivial (mo_box rfl) ?_
     rintro v' L' ⟨sb,rfl,rfl⟩
     repeat (first | refine aA ?_ | refine ap_end ?_)
     refine at_mid (B:=mT) (I:=MI) (sb,cs,ct,ce) trivial ?_ ?_ rfl
     exact ⟨rfl,rfl,rfl,rfl,rfl,rfl,rfl,rfl,rfl,rfl,trivial⟩
     repeat (first | exact Ent.refl | (apply Ent.take;(repeat (first | exact Has.here | apply Has.there))) | apply Ent.drop)
    ·refine ap1_mo (Pd':=[]) rfl rfl rfl trivial (mo_makeChan (m:=0) (k:=.i64) rfl (by omega) (by omega)) (fun v L' _ p hp=>by cases hp) ?_
     rintro v' L' ⟨cs,rfl,rfl⟩
     refine ap_loud rfl rfl rfl rfl rfl trivial (mo_makeChan (m:=0) (k:=.i64) rfl (by omega) (by omega)) ?_
     rintro v' L' ⟨ce,rfl,rfl⟩
     repeat (first | (apply ap_pure;exact rfl;exact rfl;exact trivial;intro L;apply mo_build (pv:=[(0,_),(1,_),(2,_)]);exact rfl;exact .cons rfl (.cons rfl (.cons rfl .nil));exact rfl))
     refine ap_loud rfl rfl rfl rfl rfl trivial (mo_box rfl) ?_
     rintro v' L' ⟨sb,rfl,rfl⟩
     repeat (first | refine aA ?_ | refine ap_end ?_)
     refine at_mid (B:=mT) (I:=MI) (sb,cs,ct,ce) trivial ?_ ?_ rfl
     exact ⟨rfl,rfl,rfl,rfl,rfl,rfl,rfl,rfl,rfl,rfl,trivial⟩
     repeat (first | exact Ent.refl | (apply Ent.take;(repeat (first | exact Has.here | apply Has.there))) | apply Ent.drop)
   ·refine ap1_mo (Pd':=[]) rfl rfl rfl trivial (mo_makeChan (m:=0) (k:=.i64) rfl (by omega) (by omega)) (fun v L' _ p hp=>by cases hp) ?_
    rintro v' L' ⟨ce,rfl,rfl⟩
    refine ap_fork2 (f:=2) (ordf:=[1,2,0,3,4,5]) (Rf:=[3,4,5]) (by kernel_rfl) (by kernel_rfl) (by kernel_rfl) (by kernel_rfl) (by kernel_rfl) ?_ ?_
    ·refine ap1_mo (Pd':=[]) rfl rfl rfl trivial (mo_makeChan (m:=0) (k:=.i64) rfl (by omega) (by omega)) (fun v L' _ p hp=>by cases hp) ?_
     rintro v' L' ⟨ct,rfl,rfl⟩
     refine ap_loud rfl rfl rfl rfl rfl trivial (mo_makeChan (m:=0) (k:=.i64) rfl (by omega) (by omega)) ?_
     rintro v' L' ⟨cs,rfl,rfl⟩
     repeat (first | (apply ap_pure;exact rfl;exact rfl;exact trivial;intro L;apply mo_build (pv:=[(0,_),(1,_),(2,_)]);exact rfl;exact .cons rfl (.cons rfl (.cons rfl .nil));exact rfl))
     refine ap_loud rfl rfl rfl rfl rfl trivial (mo_box rfl) ?_
     rintro v' L' ⟨sb,rfl,rfl⟩
     repeat (first | refine aA ?_ | refine ap_end ?_)
     refine at_mid (B:=mT) (I:=MI) (sb,cs,ct,ce) trivial ?_ ?_ rfl
     exact ⟨rfl,rfl,rfl,rfl,rfl,rfl,rfl,rfl,rfl,rfl,trivial⟩
     repeat (first | exact Ent.refl | (apply Ent.take;(repeat (first | exact Has.here | apply Has.there))) | apply Ent.drop)
    ·refine ap1_mo (Pd':=[]) rfl rfl rfl trivial (mo_makeChan (m:=0) (k:=.i64) rfl (by omega) (by omega)) (fun v L' _ p hp=>by cases hp) ?_
     rintro v' L' ⟨cs,rfl,rfl⟩
     refine ap_loud rfl rfl rfl rfl rfl trivial (mo_makeChan (m:=0) (k:=.i64) rfl (by omega) (by omega)) ?_
     rintro v' L' ⟨ct,rfl,rfl⟩
     repeat (first | (apply ap_pure;exact rfl;exact rfl;exact trivial;intro L;apply mo_build (pv:=[(0,_),(1,_),(2,_)]);exact rfl;exact .cons rfl (.cons rfl (.cons rfl .nil));exact rfl))
     refine ap_loud rfl rfl rfl rfl rfl trivial (mo_box rfl) ?_
     rintro v' L' ⟨sb,rfl,rfl⟩
     repeat (first | refine aA ?_ | refine ap_end ?_)
     refine at_mid (B:=mT) (I:=MI) (sb,cs,ct,ce) trivial ?_ ?_ rfl
     exact ⟨rfl,rfl,rfl,rfl,rfl,rfl,rfl,rfl,rfl,rfl,trivial⟩
     repeat (first | exact Ent.refl | (apply Ent.take;(repeat (first | exact Has.here | apply Has.there))) | apply Ent.drop)
   ·refine ap1_mo (Pd':=[]) rfl rfl rfl trivial (mo_makeChan (m:=0) (k:=.i64) rfl (by omega) (by omega)) (fun v L' _ p hp=>by cases hp) ?_
    rintro v' L' ⟨cs,rfl,rfl⟩
    refine ap_fork2 (f:=1) (ordf:=[2,1,0,3,4,5]) (Rf:=[3,4,5]) (by kernel_rfl) (by kernel_rfl) (by kernel_rfl) (by kernel_rfl) (by kernel_rfl) ?_ ?_
    ·refine ap1_mo (Pd':=[]) rfl rfl rfl trivial (mo_makeChan (m:=0) (k:=.i64) rfl (by omega) (by omega)) (fun v L' _ p hp=>by cases hp) ?_
     rintro v' L' ⟨ct,rfl,rfl⟩
     refine ap_loud rfl rfl rfl rfl rfl trivial (mo_makeChan (m:=0) (k:=.i64) rfl (by omega) (by omega)) ?_
     rintro v' L' ⟨ce,rfl,rfl⟩
     repeat (first | (apply ap_pure;exact rfl;exact rfl;exact trivial;intro L;apply mo_build (pv:=[(0,_),(1,_),(2,_)]);exact rfl;exact .cons rfl (.cons rfl (.cons rfl .nil));exact rfl))
     refine ap_loud rfl rfl rfl rfl rfl trivial (mo_box rfl) ?_
     rintro v' L' ⟨sb,rfl,rfl⟩
     repeat (first | refine aA ?_ | refine ap_end ?_)
     refine at_mid (B:=mT) (I:=MI) (sb,cs,ct,ce) trivial ?_ ?_ rfl
     exact ⟨rfl,rfl,rfl,rfl,rfl,rfl,rfl,rfl,rfl,rfl,trivial⟩
     repeat (first | exact Ent.refl | (apply Ent.take;(repeat (first | exact Has.here | apply Has.there))) | apply Ent.drop)
    ·refine ap1_mo (Pd':=[]) rfl rfl rfl trivial (mo_makeChan (m:=0) (k:=.i64) rfl (by omega) (by omega)) (fun v L' _ p hp=>by cases hp) ?_
     rintro v' L' ⟨ce,rfl,rfl⟩
     refine ap_loud rfl rfl rfl rfl rfl trivial (mo_makeChan (m:=0) (k:=.i64) rfl (by omega) (by omega)) ?_
     rintro v' L' ⟨ct,rfl,rfl⟩
     repeat (first | (apply ap_pure;exact rfl;exact rfl;exact trivial;intro L;apply mo_build (pv:=[(0,_),(1,_),(2,_)]);exact rfl;exact .cons rfl (.cons rfl (.cons rfl .nil));exact rfl))
     refine ap_loud rfl rfl rfl rfl rfl trivial (mo_box rfl) ?_
     rintro v' L' ⟨sb,rfl,rfl⟩
     repeat (first | refine aA ?_ | refine ap_end ?_)
     refine at_mid (B:=mT) (I:=MI) (sb,cs,ct,ce) trivial ?_ ?_ rfl
     exact ⟨rfl,rfl,rfl,rfl,rfl,rfl,rfl,rfl,rfl,rfl,trivial⟩
     repeat (first | exact Ent.refl | (apply Ent.take;(repeat (first | exact Has.here | apply Has.there))) | apply Ent.drop)
  ·rintro ⟨sb,cs,ct,ce⟩ _
   simp only [MI,seatMid]
   repeat (first | refine we_seq ?_ | (refine wR ?_;try simp only [oS]) | refine wM ?_)
   refine wo_call (.cons rfl (.cons rfl (.cons rfl .nil))) trivial (Tr.ent (L':=g.U s::ts[j].M::arr sb 0 [.chan (some ct),.chan (some ce),.chan (some cs),.int .u8 0,.int .i64 0,.bool false]::ob cs newChan::ob ct newChan::ob ce newChan::arr pb 0 [ss,.slice none 0 0,.slice none 0 0]::vec 1 ss (ptrs ids)::all (seatCs g ids qs)::all ((ts.drop (j+1)).map Thr.M)::arr rb 0 [.slice none 0 0,.slice none 0 0]::shpC wg 144 2::F) (.take (.there (.there (.there (.there .here)))) (.take (.there (.there (.there (.there (.there (.there (.there .here))))))) (.take .here (.take .here (.take .here (.take .here .refl)))))) (run_tr hTO (by have:=hS j hlt;rw [hst] at this;exact this) hfin (by rw [hsl];omega) (fun h st=>shp_of (.there (.there (.there (.there (.there .here))))) st))) ?_
   rintro v' L' x' ⟨rfl,rfl,rfl⟩
   refine wo_pure (of_has (.there (.there (.there (.there .here)))) (vec_shape (by omega))) ?_
   rintro ⟨sa,sn,sc,rfl,hsn,_⟩
   have hsn:sn=ids.length:=by simp [ptrs] at hsn;omega
   subst hsn
   repeat (first | (apply wo_mo;apply mo_buildSlice (sz:=1) (vs:=[.pointer (some ⟨sb,0,none⟩)]);exact rfl;exact .cons rfl .nil;exact rfl;(intro v hv;cases (List.mem_singleton.1 hv);exact rfl);omega;exact trivial) | (refine wR ?_;try simp only [oS]) | refine wo_nil ?_ | refine wM ?_ | refine wD ?_ | refine wL ?_)
   rintro v' L' ⟨nb,rfl,rfl⟩
   repeat (first | (apply wo_mo;apply mo_append (sz:=1) (new:=[.pointer (some ⟨sb,0,none⟩)]);exact rfl;exact rfl;exact rfl;exact rfl;exact (.there (.there (.there (.there (.there .here)))));exact rfl;exact .inr ⟨_,_,rfl,Rds.all .here⟩;(intro v hv;cases (List.mem_singleton.1 hv);exact rfl);(simp only [sliceLen];omega);exact trivial))
   rintro v' L' rfl
   refine wo_pure (of_has .here (vec_shape (by omega))) ?_
   rintro ⟨ua,un,uc,rfl,hun,_⟩
   repeat (first | refine wS ?_ | (refine wR ?_;try simp only [oS]) | refine wo_nil ?_ | refine wM ?_ | refine wD ?_ | refine wadd ?_)
   have hseats:seatCs g (ids++[⟨sb,cs,ct,ce⟩]) (qs++[(ts[j].ini s).2])=seatCs g ids qs++[seatC g ⟨sb,cs,ct,ce⟩ (ts[j].ini s).2]:=by
    unfold seatCs;rw [List.zipWith_append (by omega)];rfl
   have hseatS:seatSs (ids++[⟨sb,cs,ct,ce⟩]) (qs++[(ts[j].ini s).2])=seatSs ids qs++[seatS ⟨sb,cs,ct,ce⟩ (ts[j].ini s).2]:=by
    unfold seatSs;rw [List.zipWith_append (by omega)];rfl
   refine at_roundS (B:=mT) (I:=startInvP ts s0 wg pb rb (.slice oa order.length oc) (.slice (some ⟨tb,to,none⟩) ts.length tc) (shpC wg 144 2::F)) (R:=fun i'=>ts.length-i'.1<ts.length-j) (j+1,(ts[j].ini s).1,qs++[(ts[j].ini s).2],ids++[⟨sb,cs,ct,ce⟩],.slice ua un uc) (by show ts.length-(j+1)<ts.length-j;omega) ⟨by show j+1≤_;omega,by show (ids++[_]).length=j+1;simp;omega,?_⟩ ?_ (fun h st=>?_) ?_
   ·show startF (ts.take (j+1)) s0=_
    rw [List.take_succ_eq_append_getElem hlt,startF_snoc,hst]
   ·exact ⟨rfl,rfl,rfl,rfl,rfl,rfl,rfl,rfl,trivial⟩
   ·have s1:Star (seatR sb cs ct ce::arr sb 3 (lastC ((g.plan (ts[j].ini s).2).map (·.1)))::all (seatCs g ids qs)::g.U (ts[j].ini s).1::arr pb 0 [.slice ua un uc,.slice none 0 0,.slice none 0 0]::vec 1 (.slice ua un uc) (ptrs ids++[.pointer (some ⟨sb,0,none⟩)])::all ((ts.drop (j+1)).map Thr.M)::arr rb 0 [.slice none 0 0,.slice none 0 0]::shpC wg 144 2::F) h:=Ent.star (.take (.there (.there (.there .here))) (.take (.there (.there (.there .here))) (.take (.there (.there (.there (.there .here)))) (.take (.there (.there .here)) (.take (.there (.there .here)) (.take .here (.drop .refl))))))) st
    have s2:=star_push (c:=seatC g ⟨sb,cs,ct,ce⟩ (ts[j].ini s).2) (star_shut (M:=[_,_]) s1)
    rw [← hseats] at s2
    have e3:ptrs ids++[.pointer (some ⟨sb,0,none⟩)]=ptrs (ids++[⟨sb,cs,ct,ce⟩]):=by simp [ptrs]
    rw [e3] at s2
    exact Ent.star (.take (.there .here) (.take (.there .here) (.take (.there .here) (.take .here .refl)))) s2
   ·show gx g wg (seatSs (ids++[_]) (qs++[_])) _ _ _=_
    rw [hseatS]
    simp only [List.length_append,List.length_singleton]
    rfl
 ·obtain rfl:j=ts.length:=by omega
  rw [List.take_length] at hst
  rw [hsl]
  repeat (first | refine wlssF ?_ | refine we_seq ?_ | (refine wR ?_;try simp only [oS]) | refine wo_nil ?_ | refine wM ?_ | refine wE ?_ | refine wF ?_ | refine we_block ?_ | refine we_exit ?_)
  refine we_star (playL g pb ss (.slice none 0 0) (.slice none 0 0) ids (⟨s,qs,[]⟩:PS g) (arr rb 0 [.slice none 0 0,.slice none 0 0]::shpC wg 144 2::F)) (fun h st=>Ent.star (M:=playL g pb ss (.slice none 0 0) (.slice none 0 0) ids (⟨s,qs,[]⟩:PS g) (arr rb 0 [.slice none 0 0,.slice none 0 0]::shpC wg 144 2::F)) (.take (.there .here) (.take (.there .here) (.take (.there .here) (.take .here (.take .here (.drop .refl)))))) (vec_nil (sz:=3) st)) ?_
  refine we_loopN (ordInv (⟨s,qs,[]⟩:PS g) order ids wg pb rb (.slice oa order.length oc) ss (arr rb 0 [.slice none 0 0,.slice none 0 0]::shpC wg 144 2::F)) (fun i=>order.length-i.1) (0,.slice none 0 0) (Nat.zero_le _) ⟨rfl,rfl,rfl,rfl,rfl,rfl,trivial⟩ .refl rfl ?_
  have hI1:I (⟨s,qs,[]⟩:PS g):=by rw [hst] at hI0;exact hI0
  rintro ⟨i,tsv⟩ hi
  replace hi:i≤order.length:=hi
  have hpl:ids.length=(ordF (⟨s,qs,[]⟩:PS g) (order.take i)).qs.length:=by rw [ordF_len];show ids.length=qs.length;omega
  have hple:=ordF_le (order.take i) (⟨s,qs,[]⟩:PS g) (Nat.zero_le _)
  simp only [ordInv]
  by_cases hlt2:i<order.length
  ·obtain ⟨ob,oo,rfl,hrd⟩:=hro.rds (by omega)
   have hri:=hrd i (.int .i64 order[i]) (by rw [List.getElem?_map,List.getElem?_eq_getElem hlt2];rfl)
   repeat (first | (apply wo_po;apply mo_index1;exact rfl;exact rfl;omega;exact gY) | (apply wo_po;apply mo_load;exact rfl;exact .there (.there (.there (.there (.there (.there (.there hri))))));exact trivial) | refine wlssT ?_ | refine we_seq ?_ | (refine wR ?_;try simp only [oS]) | refine wo_nil ?_ | refine wM ?_ | refine wA ?_ | refine wT ?_ | refine we_skip ?_ | refine we_block ?_)
   refine wo_call (.cons rfl (.cons rfl .nil)) trivial (takes_tr hpl hple (hIo _ (hIord _ _ hI1))) ?_
   rintro v' L' x' ⟨ts',rfl,rfl,rfl⟩
   repeat (first | (refine wR ?_;try simp only [oS]) | refine wo_nil ?_ | refine wM ?_ | refine wadd ?_)
   have htk:(takeF (ordF (⟨s,qs,[]⟩:PS g) (order.take i)) order[i]).1=ordF (⟨s,qs,[]⟩:PS g) (order.take (i+1)):=by
    rw [List.take_succ_eq_append_getElem hlt2,ordF_snoc]
   rw [htk]
   refine at_round (B:=mT) (I:=ordInv (⟨s,qs,[]⟩:PS g) order ids wg pb rb (.slice (some ⟨ob,oo,none⟩) order.length oc) ss (arr rb 0 [.slice none 0 0,.slice none 0 0]::shpC wg 144 2::F)) (R:=fun i'=>order.length-i'.1<order.length-i) (i+1,ts') (by show order.length-(i+1)<order.length-i;omega) (show i+1≤order.length by omega) ?_ .refl rfl
   exact ⟨rfl,rfl,rfl,rfl,rfl,rfl,trivial⟩
  ·obtain rfl:i=order.length:=by omega
   rw [List.take_length] at hpl hple ⊢
   obtain ⟨p1,hp1⟩:∃ p1,ordF (⟨s,qs,[]⟩:PS g) order=p1:=⟨_,rfl⟩
   rw [hp1] at hpl hple ⊢
   repeat (first | refine wlssF ?_ | refine we_seq ?_ | (refine wR ?_;try simp only [oS]) | refine wo_nil ?_ | refine wA ?_ | refine wF ?_ | refine we_block ?_ | refine we_exit ?_)
   refine we_loopN (restInv I p1 ids wg pb rb ss (arr rb 0 [.slice none 0 0,.slice none 0 0]::shpC wg 144 2::F)) (fun i=>if i.2.2.2=true then i.1+1 else 0) (16385,p1,tsv,true) ⟨by rw [← hp1];exact hIord _ _ hI1,rfl,hple,by simp only [if_true];exact ⟨trivial,by omega⟩⟩ ⟨rfl,rfl,rfl,rfl,trivial⟩ .refl rfl ?_
   rintro ⟨n,p,tv2,more⟩ ⟨hIp,hq1,hq2,hq3⟩
   simp only at hIp hq1 hq2 hq3
   simp only [restInv]
   cases more with
   | true =>
    simp only [if_true] at hq3
    obtain ⟨n,rfl⟩:∃ m,n=m+1:=⟨n-1,by omega⟩
    have hpq:p.qs.length=ids.length:=by omega
    refine we_pure (of_has (.there (.there .here)) (vec_shape (by omega))) ?_
    rintro ⟨sa,sn,sc,rfl,hsn,_⟩
    have hsn:sn=ids.length:=by simp [ptrs] at hsn;omega
    subst hsn
    repeat (first | refine we_seq ?_ | (refine wR ?_;try simp only [oS]) | refine wo_nil ?_ | refine wM ?_ | refine wA ?_ | refine wD ?_ | refine wL ?_ | refine wE ?_ | refine wT ?_ | refine we_skip ?_ | refine we_block ?_)
    refine we_loopN (rndInvP p ids wg pb rb (.slice sa ids.length sc) (arr rb 0 [.slice none 0 0,.slice none 0 0]::shpC wg 144 2::F)) (fun i=>ids.length-i.1) (0,tv2) (Nat.zero_le _) ⟨rfl,rfl,rfl,rfl,rfl,rfl,trivial⟩ .refl rfl ?_
    rintro ⟨k,tv3⟩ hk
    replace hk:k≤ids.length:=hk
    simp only [rndInvP]
    by_cases hlt3:k<ids.length
    ·repeat (first | refine wlssT ?_ | refine we_seq ?_ | (refine wR ?_;try simp only [oS]) | refine wo_nil ?_ | refine wM ?_ | refine wA ?_ | refine wT ?_ | refine we_skip ?_ | refine we_block ?_)
     refine wo_call (.cons rfl (.cons rfl .nil)) trivial (takes_tr (by rw [roundF_len];omega) (roundF_le hq2 k) (hIo _ (hIrnd _ _ hIp))) ?_
     rintro v' L' x' ⟨ts',rfl,rfl,rfl⟩
     have hnx:roundF p (k+1)=((takeF (roundF p k).1 k).1,(takeF (roundF p k).1 k).2||(roundF p k).2):=rfl
     have hr1:(roundF p (k+1)).1=(takeF (roundF p k).1 k).1:=rfl
     obtain ⟨b,hb⟩:∃ b,(takeF (roundF p k).1 k).2=b:=⟨_,rfl⟩
     rw [hb,← hr1]
     cases b with
     | true =>
      repeat (first | (refine wR ?_;try simp only [oS]) | refine wo_nil ?_ | refine wM ?_ | refine wA ?_ | (apply wo_no;exact rfl) | refine wK ?_ | refine wadd ?_)
      refine at_round (B:=mT) (I:=rndInvP p ids wg pb rb (.slice sa ids.length sc) (arr rb 0 [.slice none 0 0,.slice none 0 0]::shpC wg 144 2::F)) (R:=fun i'=>ids.length-i'.1<ids.length-k) (k+1,ts') (by show ids.length-(k+1)<ids.length-k;omega) (show k+1≤ids.length by omega) ?_ .refl rfl
      exact ⟨rfl,rfl,rfl,by rw [hnx,hb];rfl,rfl,rfl,trivial⟩
     | false =>
      repeat (first | (refine wR ?_;try simp only [oS]) | refine wo_nil ?_ | refine wM ?_ | refine wA ?_ | refine wJ ?_ | refine wadd ?_)
      refine at_round (B:=mT) (I:=rndInvP p ids wg pb rb (.slice sa ids.length sc) (arr rb 0 [.slice none 0 0,.slice none 0 0]::shpC wg 144 2::F)) (R:=fun i'=>ids.length-i'.1<ids.length-k) (k+1,ts') (by show ids.length-(k+1)<ids.length-k;omega) (show k+1≤ids.length by omega) ?_ .refl rfl
      exact ⟨rfl,rfl,rfl,by rw [hnx,hb];rfl,rfl,rfl,trivial⟩
    ·obtain rfl:k=ids.length:=by omega
     repeat (first | refine wlssF ?_ | refine we_seq ?_ | (refine wR ?_;try simp only [oS]) | refine wo_nil ?_ | refine wF ?_ | refine we_exit ?_)
     have hg:=roundF_grow p ids.length
     have hle3:=roundF_le hq2 ids.length
     have hrest:restF (n+1) p=if (roundF p ids.length).2=true then restF n (roundF p ids.length).1 else (roundF p ids.length).1:=by
      show (if (roundF p p.qs.length).2=true then restF n (roundF p p.qs.length).1 else (roundF p p.qs.length).1)=_
      rw [hpq]
     refine at_round (B:=mT) (I:=restInv I p1 ids wg pb rb (.slice sa ids.length sc) (arr rb 0 [.slice none 0 0,.slice none 0 0]::shpC wg 144 2::F)) (R:=fun i'=>(if i'.2.2.2=true then i'.1+1 else 0)<(if true=true then (n+1)+1 else 0)) (n,(roundF p ids.length).1,tv3,(roundF p ids.length).2) ?_ ⟨hIrnd _ _ hIp,by show (roundF p ids.length).1.qs.length=_;rw [roundF_len];exact hq1,hle3,?_⟩ ?_ .refl rfl
     ·show (if (roundF p ids.length).2=true then n+1 else 0)<(if true=true then (n+1)+1 else 0)
      simp only [if_true]
      split <;> omega
     ·simp only
      rw [hrest] at hq3
      cases hb:(roundF p ids.length).2 with
      | true=>rw [hb] at hq3 hg;simp only [if_true] at hq3 hg ⊢;exact ⟨hq3.1,by omega⟩
      | false=>rw [hb] at hq3;simpa using hq3.1
     ·exact ⟨rfl,rfl,rfl,rfl,trivial⟩
   | false =>
    simp only [Bool.false_eq_true,if_false] at hq3
    have hplay:playF ts s0 order=p:=by rw [hq3,← hp1];unfold playF;rw [hst]
    rw [hplay] at hQ
    have hpq:p.qs.length=ids.length:=by omega
    refine we_pure (of_has (.there (.there .here)) (vec_shape (by omega))) ?_
    rintro ⟨sa,sn,sc,rfl,hsn,_,hnz,hy⟩
    have hsn:sn=ids.length:=by simp [ptrs] at hsn;omega
    subst hsn
    cases sa with
    | none=>have:=hnz rfl;omega
    | some ad =>
    obtain ⟨sb,so,sp⟩:=ad
    have:=hy _ rfl
    simp only [Addr.mk.injEq,true_and] at this
    subst this
    repeat (first | refine we_seq ?_ | (refine wR ?_;try simp only [oS]) | refine wo_nil ?_ | refine wM ?_ | refine wD ?_ | refine wL ?_ | refine wE ?_ | refine wF ?_ | refine we_block ?_ | refine we_exit ?_)
    refine we_star (vec 1 (.slice none 0 0) (cutC (cutN g p.qs 0))::arr pb 0 [.slice (some ⟨sb,so,none⟩) ids.length sc,tv2,.slice none 0 0]::vec 1 (.slice (some ⟨sb,so,none⟩) ids.length sc) (ptrs ids)::vec 3 tv2 (trCP p.tr)::all (seatCs g ids p.qs)::g.U p.s::arr rb 0 [.slice none 0 0,.slice none 0 0]::shpC wg 144 2::F) (fun h st=>vec_nil (Ent.star (.take (.there .here) (.take (.there .here) (.take (.there .here) (.take (.there .here) (.take .here .refl))))) st)) ?_
    refine we_loopN (cutInv p ids wg pb rb (.slice (some ⟨sb,so,none⟩) ids.length sc) tv2 (arr rb 0 [.slice none 0 0,.slice none 0 0]::shpC wg 144 2::F)) (fun i=>ids.length-i.1) (0,.slice none 0 0) (Nat.zero_le _) ⟨rfl,rfl,rfl,rfl,rfl,rfl,trivial⟩ .refl (by simp only [cutInv];rw [shutS_zero]) ?_
    rintro ⟨k,cv⟩ hk
    replace hk:k≤ids.length:=hk
    simp only [cutInv]
    by_cases hlt3:k<ids.length
    ·have hi:ids[k]?=some ids[k]:=List.getElem?_eq_getElem hlt3
     have hq:p.qs[k]?=some (p.qs[k]'(by omega)):=List.getElem?_eq_getElem _
     obtain ⟨i,hie⟩:∃ i,ids[k]=i:=⟨_,rfl⟩
     obtain ⟨q,hqe⟩:∃ q,(p.qs[k]'(by omega))=q:=⟨_,rfl⟩
     rw [hie] at hi
     rw [hqe] at hq
     let er:=all ((seatCs g ids p.qs).eraseIdx k)
     refine we_star (seatR i.sb i.says i.turn i.fin::arr i.sb 3 (lastQ g q)::er::vec 1 cv (cutC (cutN g p.qs k))::arr pb 0 [.slice (some ⟨sb,so,none⟩) ids.length sc,tv2,cv]::vec 1 (.slice (some ⟨sb,so,none⟩) ids.length sc) (ptrs ids)::vec 3 tv2 (trCP p.tr)::g.U p.s::arr rb 0 [.slice none 0 0,.slice none 0 0]::shpC wg 144 2::F) (fun h st=>seat_pick hi hq (((.there (.there (.there (.there .here)))):Has (_::_::_::_::all (seatCs g ids p.qs)::_) _ _).star st)) ?_
     have hback:∀ {cv':Value} {cl:List Value} h,Star (seatR i.sb i.says i.turn i.fin::arr i.sb 3 (lastQ g q)::er::vec 1 cv' cl::arr pb 0 [.slice (some ⟨sb,so,none⟩) ids.length sc,tv2,cv']::vec 1 (.slice (some ⟨sb,so,none⟩) ids.length sc) (ptrs ids)::vec 3 tv2 (trCP p.tr)::g.U p.s::arr rb 0 [.slice none 0 0,.slice none 0 0]::shpC wg 144 2::F) h →
       Star (vec 1 cv' cl::arr pb 0 [.slice (some ⟨sb,so,none⟩) ids.length sc,tv2,cv']::vec 1 (.slice (some ⟨sb,so,none⟩) ids.length sc) (ptrs ids)::vec 3 tv2 (trCP p.tr)::all (seatCs g ids p.qs)::g.U p.s::arr rb 0 [.slice none 0 0,.slice none 0 0]::shpC wg 144 2::F) h:=fun h st=>by
      have s1:=seat_put (q':=q) hi hq st
      rw [set_same hq] at s1
      exact Ent.star (.take (.there .here) (.take (.there .here) (.take (.there .here) (.take (.there .here) (.take .here .refl))))) s1
     have hcl:(cutN g p.qs k).length≤k:=by have:=List.length_filter_le (fun k=>((p.qs[k]?).bind g.plan).isSome) (List.range k);rw [List.length_range] at this;exact this
     have hget:(shutS ids p.qs k)[k]?=some (⟨i.says,i.turn,i.fin,.said q⟩:Seat g.σ g.θ):=by rw [shutS_get hi hq,if_neg (by omega)];rfl
     have hsl2:ids.length=(shutS ids p.qs k).length:=(shutS_len hpq.symm).symm
     have rs:∀ {a b c d e:HProp} {M:List HProp},Rd (a::b::c::d::e::vec 1 (.slice (some ⟨sb,so,none⟩) ids.length sc) (ptrs ids)::M) sb (so+k) (.pointer (some ⟨i.sb,0,none⟩)):=rd_vec (cs:=ptrs ids) (.there (.there (.there (.there (.there .here))))) (by simp [ptrs,hi])
     refine we_pure (of_has (.there (.there (.there .here))) (vec_shape (by omega))) ?_
     rintro ⟨ca,cn,cc,rfl,hcn,_⟩
     have hcn:cn=(cutN g p.qs k).length:=by simp [cutC] at hcn;omega
     subst hcn
     cases hpl2:g.plan q with
     | none =>
      have hlq:lastQ g q=[.int .u8 0,.int .i64 0,.bool true]:=by unfold lastQ;rw [hpl2];rfl
      have hcut:cutN g p.qs (k+1)=cutN g p.qs k:=by rw [cutN_succ,hq];simp [hpl2]
      rw [hlq] at hback ⊢
      have rl:∀ {a:HProp} {M:List HProp},Rd (a::arr i.sb 3 [.int .u8 0,.int .i64 0,.bool true]::M) i.sb 5 (.bool true):=.there (Rd.row (k:=2) rfl rfl)
      have re:∀ {M:List HProp},Rd (seatR i.sb i.says i.turn i.fin::M) i.sb 1 (.chan (some i.fin)):=Rd.fro (k:=1) rfl rfl
      repeat (first | (apply wo_po;apply mo_index1;exact rfl;exact rfl;omega;exact gY) | (apply wo_po;apply mo_load;exact rfl;(first | exact rs | exact rl | exact re);exact trivial) | refine wlssT ?_ | refine we_seq ?_ | (refine wR ?_;try simp only [oS]) | refine wo_nil ?_ | refine wM ?_ | refine wA ?_ | refine wN ?_ | refine wD ?_ | (apply wo_po;apply mo_not;exact rfl;exact gY) | refine wT ?_ | refine wF ?_ | refine we_skip ?_ | refine we_block ?_)
      refine wo_shut (X:=⟨g,wg,shutS ids p.qs k,some p.s,16384-p.tr.length,ids.length,false,.play⟩) (j:=k) (c:=⟨i.says,i.turn,i.fin,.said q⟩) (q0:=q) rfl rfl rfl hsl2 rfl hget rfl trivial (by decide) ?_
      repeat (first | (refine wR ?_;try simp only [oS]) | refine wo_nil ?_ | refine wM ?_ | refine wadd ?_)
      refine at_roundS (B:=mT) (I:=cutInv p ids wg pb rb (.slice (some ⟨sb,so,none⟩) ids.length sc) tv2 (arr rb 0 [.slice none 0 0,.slice none 0 0]::shpC wg 144 2::F)) (R:=fun i'=>ids.length-i'.1<ids.length-k) (k+1,.slice ca (cutN g p.qs k).length cc) (by show ids.length-(k+1)<ids.length-k;omega) (show k+1≤ids.length by omega) ?_ (fun h st=>?_) ?_
      ·exact ⟨rfl,rfl,rfl,rfl,rfl,rfl,trivial⟩
      ·show Star (vec 1 _ (cutC (cutN g p.qs (k+1)))::_) h
       rw [hcut]
       exact hback h st
      ·simp only [cutInv]
       rw [← shutS_succ hi hq]
     | some mf =>
      obtain ⟨m,f⟩:=mf
      have hlq:lastQ g q=[.int .u8 m.1,.int .i64 m.2,.bool false]:=by unfold lastQ;rw [hpl2];rfl
      have hcut:cutN g p.qs (k+1)=cutN g p.qs k++[k]:=by rw [cutN_succ,hq];simp [hpl2]
      rw [hlq] at hback ⊢
      have rl:∀ {a:HProp} {M:List HProp},Rd (a::arr i.sb 3 [.int .u8 m.1,.int .i64 m.2,.bool false]::M) i.sb 5 (.bool false):=.there (Rd.row (k:=2) rfl rfl)
      have re:∀ {a b:HProp} {M:List HProp},Rd (a::b::seatR i.sb i.says i.turn i.fin::M) i.sb 1 (.chan (some i.fin)):=.there (.there (Rd.fro (k:=1) rfl rfl))
      repeat (first | (apply wo_po;apply mo_index1;exact rfl;exact rfl;omega;exact gY) | (apply wo_po;apply mo_load;exact rfl;(first | exact rs | exact rl);exact trivial) | (apply wo_mo;apply mo_buildSlice (sz:=1) (vs:=[.int .i64 (k:Nat)]);exact rfl;exact .cons rfl .nil;exact rfl;(intro v hv;cases (List.mem_singleton.1 hv);exact rfl);omega;exact trivial) | refine wlssT ?_ | refine we_seq ?_ | (refine wR ?_;try simp only [oS]) | refine wo_nil ?_ | refine wM ?_ | refine wA ?_ | refine wN ?_ | refine wD ?_ | (apply wo_po;apply mo_not;exact rfl;exact gY) | refine wL ?_ | refine wT ?_ | refine we_skip ?_ | refine we_block ?_)
      rintro v' L' ⟨nb,rfl,rfl⟩
      repeat (first | (apply wo_mo;apply mo_append (sz:=1) (new:=[.int .i64 (k:Nat)]);exact rfl;exact rfl;exact rfl;exact rfl;exact (.there (.there (.there (.there .here))));exact rfl;exact .inr ⟨_,_,rfl,Rds.all .here⟩;(intro v hv;cases (List.mem_singleton.1 hv);exact rfl);(simp only [sliceLen];omega);exact trivial))
      rintro v' L' rfl
      refine wo_pure (of_has .here (vec_shape (by omega))) ?_
      rintro ⟨ua,un,uc,rfl,hun,_⟩
      repeat (first | refine wS ?_ | (apply wo_po;apply mo_load;exact rfl;exact re;exact trivial) | (refine wR ?_;try simp only [oS]) | refine wo_nil ?_ | refine wM ?_ | refine wN ?_ | refine wD ?_)
      refine wo_shut (X:=⟨g,wg,shutS ids p.qs k,some p.s,16384-p.tr.length,ids.length,false,.play⟩) (j:=k) (c:=⟨i.says,i.turn,i.fin,.said q⟩) (q0:=q) rfl rfl rfl hsl2 rfl hget rfl trivial (by decide) ?_
      repeat (first | (refine wR ?_;try simp only [oS]) | refine wo_nil ?_ | refine wM ?_ | refine wadd ?_)
      refine at_roundS (B:=mT) (I:=cutInv p ids wg pb rb (.slice (some ⟨sb,so,none⟩) ids.length sc) tv2 (arr rb 0 [.slice none 0 0,.slice none 0 0]::shpC wg 144 2::F)) (R:=fun i'=>ids.length-i'.1<ids.length-k) (k+1,.slice ua un uc) (by show ids.length-(k+1)<ids.length-k;omega) (show k+1≤ids.length by omega) ?_ (fun h st=>?_) ?_
      ·exact ⟨rfl,rfl,rfl,rfl,rfl,rfl,trivial⟩
      ·show Star (vec 1 _ (cutC (cutN g p.qs (k+1)))::_) h
       have e4:cutC (cutN g p.qs (k+1))=cutC (cutN g p.qs k)++[.int .i64 (k:Nat)]:=by rw [hcut];simp [cutC]
       rw [e4]
       exact hback h (Ent.star (.take (.there (.there .here)) (.take (.there (.there .here)) (.take (.there (.there .here)) (.take .here (.drop .refl))))) st)
      ·simp only [cutInv]
       rw [← shutS_succ hi hq]
    ·obtain rfl:k=ids.length:=by omega
     repeat (first | refine wlssF ?_ | refine we_seq ?_ | (refine wR ?_;try simp only [oS]) | refine wo_nil ?_ | refine wF ?_ | refine we_exit ?_)
     refine wo_call (.cons rfl .nil) trivial (wgWait_tr (X:=⟨g,wg,shutS ids p.qs ids.length,some p.s,16384-p.tr.length,ids.length,false,.play⟩) rfl (by show ids.length<1000;omega) (shutS_len hpq.symm).symm (shutS_closed hpq.symm) rfl (fun h st=>shp_of (.there (.there (.there (.there (.there (.there (.there .here))))))) st)) ?_
     rintro v' L' x' ⟨rfl,rfl,rfl⟩
     rw [show (GX.seats ⟨g,wg,shutS ids p.qs ids.length,some p.s,16384-p.tr.length,ids.length,false,.play⟩).map Seat.fins=p.qs.map g.Fin from shutS_all hpq.symm]
     repeat (first | (apply wo_po;apply mo_loadA (vs:=[tv2,cv]);exact rfl;exact rfl;exact Rds.row (k:=1) (.there (.there .here)) (by intro i v hv;match i,hv with | 0,hv=>exact hv | 1,hv=>exact hv);exact trivial) | refine we_seq ?_ | (refine wR ?_;try simp only [oS]) | refine wo_nil ?_ | refine wD ?_)
     refine wo_pure (of_has (.there .here) (vec_shape (by omega))) ?_
     rintro ⟨ca,cn,cc,rfl,_⟩
     refine wo_pure (of_has (.there (.there (.there (.there .here)))) (vec_shape (by omega))) ?_
     rintro ⟨ta2,tn2,tc2,rfl,_⟩
     repeat (first | (apply wo_pm;apply mo_storeA (c:=0) (k:=0) (a:=0) (vs:=[.slice none 0 0,.slice none 0 0]);exact rfl;exact rfl;exact rfl;(intro w hw;simp [Value.cells] at hw;rcases hw with rfl | rfl <;> rfl);exact rfl;exact Nat.le_refl 2;exact (.there (.there (.there (.there (.there (.there (.there .here)))))));exact trivial) | refine wo_nil ?_ | refine wA ?_ | refine we_ret ?_)
     refine at_leaveM (rs:=[.cell 4 87,.tmp 5]) Try.func30 Try.results30 hQ (.inl rfl) (.cons (.cell (vs:=[.slice ta2 tn2 tc2,.slice ca cn cc]) rfl rfl (Rds.all (.there (.there (.there (.there (.there (.there (.there .here))))))))) (.cons (.tmp rfl) .nil)) ?_
     refine ⟨_,_,rfl,rfl,fun h st=>?_⟩
     rw [← hids]
     exact Ent.star (.take (.there (.there (.there (.there .here)))) (.take (.there .here) (.take (.there (.there (.there (.there .here)))) (.take .here (.drop (.drop (.drop (.drop (.drop .refl))))))))) st
end
end
end Go.Proofs.Ytnnpdmhmpgmpnaa
namespace Go.Proofs.Ytnnpdmhmpgmpnaa
open Go Go.PB
section
section
variable {g:Game}
theorem ordF_inv {I:PS g→Prop} (hs:∀ p k,I p→I (takeF p k).1):∀ (l:List Int) (p:PS g),I p→I (ordF p l)
 | [],p,h=>h
 | k::l,p,h=>ordF_inv hs l _ (hs p k h)
theorem roundF_inv {I:PS g→Prop} (hs:∀ p k,I p→I (takeF p k).1) {p:PS g} (h:I p):∀ n,I (roundF p n).1
 | 0=>h
 | n+1=>hs _ _ (roundF_inv hs h n)
theorem restF_inv {I:PS g→Prop} (hs:∀ p k,I p→I (takeF p k).1):∀ (n:Nat) (p:PS g),I p→I (restF n p)
 | 0,p,h=>h
 | n+1,p,h=>by
  unfold restF
  split
  ·exact restF_inv hs n _ (roundF_inv hs h _)
  ·exact roundF_inv hs h _
theorem playF_inv {I:PS g→Prop} (hs:∀ p k,I p→I (takeF p k).1) {ts:List (Thr g)} {s:g.σ} {o:List Int} (h0:I ⟨(startF ts s).1,(startF ts s).2,[]⟩):I (playF ts s o) :=
 restF_inv hs _ _ (ordF_inv hs _ _ h0)
theorem roundF_no {p:PS g}:∀ {n:Nat},(roundF p n).2=false→(roundF p n).1=p∧∀ k:Nat,k<n→takeF p k=(p,false)
 | 0,_=>⟨rfl,fun k h=>by omega⟩
 | n+1,h=>by
  have h':((takeF (roundF p n).1 n).2||(roundF p n).2)=false:=h
  rw [Bool.or_eq_false_iff] at h'
  obtain ⟨h1,h2⟩:=roundF_no h'.2
  rw [h1] at h'
  have h3:takeF p n=(p,false):=by
   rcases takeF_cases p n with e | ⟨_,_,_,_,_,_,_,_,e⟩
   ·exact e
   ·rw [e] at h';cases h'.1
  refine ⟨?_,fun k hk=>?_⟩
  ·show (takeF (roundF p n).1 n).1=p
   rw [h1,h3]
  ·by_cases e:k=n
   ·subst e;exact h3
   ·exact h2 k (by omega)
theorem take_stuck {p:PS g} {k:Nat} {q:g.θ} (hq:p.qs[k]?=some q) (h:takeF p k=(p,false)):g.plan q=none∨p.tr.length=16384:=by
 cases hp:g.plan q with
 | none=>exact .inl rfl
 | some mf =>
  obtain ⟨m,f⟩:=mf
  right
  by_cases htr:p.tr.length=16384
  ·exact htr
  ·unfold takeF at h
   rw [if_neg (by omega),Int.toNat_natCast,hq] at h
   simp only [hp,if_neg htr] at h
   have:=congrArg Prod.snd h
   cases this
theorem restF_done:∀ (n:Nat) (p:PS g),p.tr.length≤16384→16384<p.tr.length+n→∀ (k:Nat) q,(restF n p).qs[k]?=some q→g.plan q=none∨(restF n p).tr.length=16384
 | 0,p,h1,h2=>by omega
 | n+1,p,h1,h2=>by
  intro k q hq
  unfold restF at hq ⊢
  have hg:=roundF_grow p p.qs.length
  have hle:=roundF_le h1 p.qs.length
  split at hq
  ·rename_i hm
   rw [if_pos hm]
   rw [if_pos hm] at hg
   exact restF_done n _ hle (by omega) k q hq
  ·rename_i hm
   rw [if_neg hm]
   obtain ⟨e,hk⟩:=roundF_no (Bool.not_eq_true _▸hm:(roundF p p.qs.length).2=false)
   rw [e] at hq ⊢
   exact take_stuck hq (hk k (List.getElem?_eq_some_iff.1 hq).1)
theorem playF_done {ts:List (Thr g)} {s:g.σ} {o:List Int} {k:Nat} {q:g.θ} (hq:(playF ts s o).qs[k]?=some q):g.plan q=none∨(playF ts s o).tr.length=16384 :=
 restF_done 16385 _ (ordF_le _ _ (Nat.zero_le _)) (by omega) k q hq
theorem cutN_nil {qs:List g.θ} {n:Nat} (h:∀ (k:Nat) q,qs[k]?=some q→g.plan q=none):cutN g qs n=[]:=by
 unfold cutN
 rw [List.filter_eq_nil_iff]
 intro k _
 cases hq:qs[k]? with
 | none=>simp
 | some q=>simp [h k q hq]
end
def sumN (l:List Nat):Nat:=l.foldr (·+·) 0
theorem sumN_set:∀ {l:List Nat} {k a b:Nat},l[k]?=some a→sumN (l.set k b)+a=sumN l+b
 | [],_,_,_,h=>by simp at h
 | x::l,0,a,b,h=>by simp at h;subst h;simp only [List.set_cons_zero,sumN,List.foldr_cons];omega
 | x::l,k+1,a,b,h=>by
  have:=sumN_set (l:=l) (k:=k) (a:=a) (b:=b) (by simpa using h)
  simp only [List.set_cons_succ,sumN,List.foldr_cons] at this ⊢
  omega
end
end Go.Proofs.Ytnnpdmhmpgmpnaa
namespace Go.PB.Mach
section
structure In where
 op:Nat
 on:Nat:=0
 a:Nat:=0
 b:Nat:=0
 c:Nat:=0
 d:Nat:=0
 n:Nat:=0
structure Cl where
 code:List In
 data:List Nat:=[]
structure Wd where
 words:List (List Nat)
 nl:Nat
structure Th where
 calls:List Cl
 call:Nat:=0
 pc:Nat:=0
 r:Nat→Nat:=fun _=>0
 ans:List (Bool × List Nat):=[]
 over:Bool:=false
def fin:In:={ op:=23 }
def Th.cl (t:Th):Cl:=t.calls.getD t.call { code:=[] }
def Th.next (t:Th):In:=t.cl.code.getD t.pc fin
def Th.put (t:Th) (i v:Nat):Th:={ t with r:=upd t.r i (v%18446744073709551616) }
def Th.tell (t:Th) (v:Nat):Th:={ t with ans:=t.ans.modify t.call fun y=>(y.1,y.2++[v]) }
structure Wd.ok (w:Wd):Prop where
 n:w.words.length<1000000
 nl:w.nl<1000000
 len:∀ l∈w.words,l.length<1000000
 lt:∀ l∈w.words,∀ v∈l,v<18446744073709551616
def own (t0:Th) (x:In):Th :=
 let t:={ t0 with pc:=t0.pc+1 }
 match x.op with
 | 6=>t.put x.a x.n
 | 7=>t.put x.a (t.r x.b)
 | 8=>t.put x.a (t.r x.b+t.r x.c+x.n)
 | 9=>t.put x.a (t.r x.b+18446744073709551616-t.r x.c)
 | 10=>t.put x.a (t.r x.b*t.r x.c)
 | 11=>t.put x.a (if t.r x.c=0 then 0 else t.r x.b/t.r x.c)
 | 12=>t.put x.a (t.r x.b &&& t.r x.c)
 | 13=>t.put x.a (t.r x.b ||| t.r x.c)
 | 14=>t.put x.a (t.r x.b*2^x.n)
 | 15=>t.put x.a (t.r x.b/2^x.n)
 | 16=>t.put x.a (max (t.r x.b) (t.r x.c))
 | 17=>t.put x.a (t.cl.data.getD ((t.r x.b+x.n)%18446744073709551616) 0)
 | 18=>{ t with pc:=x.n }
 | 19=>if t.r x.a=t.r x.b then { t with pc:=x.n } else t
 | 20=>if t.r x.a<t.r x.b then { t with pc:=x.n } else t
 | 21=>if 9223372036854775808≤t.r x.a then { t with pc:=x.n } else t
 | 22=>t.tell (t.r x.a)
 | _=>t
def told (op:Nat):Bool:=1≤op&&op≤5
def Th.begun (t:Th):Th:=if t.ans.length=t.call then { t with ans:=t.ans++[(false,[])] } else t
def Th.done (t:Th):Th:={ t with ans:=t.ans.modify t.call fun y=>(true,y.2),call:=t.call+1,pc:=0,r:=fun _=>0 }
def onF:Nat→Th→Option Th
 | 0,_=>none
 | f+1,t =>
  if t.over=true then some t
  else if t.calls.length≤t.call then some { t with over:=true }
  else if told t.begun.next.op=true then some t.begun
  else if t.begun.next.op=23 then onF f t.begun.done
  else onF f (own t.begun t.begun.next)
def Th.place (t:Th):Nat:=(t.r t.next.b+t.next.n)%18446744073709551616
def op1 (x:In) (l:List Nat) (p:Nat) (r:Nat→Nat):List Nat × (Nat→Nat) :=
 let v:=l.getD p 0
 match x.op with
 | 1=>(l,upd r x.a v)
 | 2=>(l.set p (r x.a),r)
 | 3=>(l.set p ((v+r x.c)%18446744073709551616),upd r x.a ((v+r x.c)%18446744073709551616))
 | 4=>(l.set p (r x.c),upd r x.a v)
 | _=>if v=r x.c then (l.set p (r x.d),upd r x.a 1) else (l,upd r x.a 0)
def Wd.row (w:Wd) (on:Nat):List Nat:=w.words.getD on []
def opF (f:Nat) (w:Wd) (t:Th):Option (Wd × Th) :=
 if t.place<(w.row t.next.on).length then
  let y:=op1 t.next (w.row t.next.on) t.place t.r
  (onF f { t with pc:=t.pc+1,r:=y.2 }).map fun t'=>({ w with words:=w.words.set t.next.on y.1 },t')
 else none
def Th.mark (t:Th):Nat × Nat:=(t.next.op,t.place)
structure St where
 w:Wd
 l:List Th
 tr:List (Nat × Nat × Nat):=[]
def turn (f:Nat) (s:St) (k:Nat):Option St :=
 match s.l[k]? with
 | some t=>(opF f s.w t).map fun y=>⟨y.1,s.l.set k y.2,s.tr++[(k,t.mark)]⟩
 | none=>some s
def may (s:St) (k:Nat):Bool:=s.tr.length<16384&&(match s.l[k]? with | some t=>!t.over | none=>false)
def byOrder (f:Nat):St→List (Option Nat)→Option St
 | s,[]=>some s
 | s,none::o=>byOrder f s o
 | s,some k::o=>if may s k=true then (turn f s k).bind fun s=>byOrder f s o else byOrder f s o
def round (f:Nat):Nat→Nat→St→Bool→Option (St × Bool)
 | 0,_,s,q=>some (s,q)
 | m+1,k,s,q=>if may s k=true then (turn f s k).bind fun s=>round f m (k+1) s true else round f m (k+1) s q
def rounds (f:Nat):Nat→St→Option St
 | 0,_=>none
 | g+1,s=>(round f s.l.length 0 s false).bind fun y=>if y.2=true then rounds f g y.1 else some y.1
def begin_ (f:Nat):List Th→Option (List Th)
 | []=>some []
 | t::l=>(onF f t).bind fun t=>(begin_ f l).map fun l=>t::l
def play (f g:Nat) (w:Wd) (o:List (Option Nat)) (l:List (List Cl)):Option St :=
 (begin_ f (l.map fun c=>{ calls:=c })).bind fun l=>(byOrder f ⟨w,l,[]⟩ o).bind fun s=>rounds f g s
def In.ok (x:In):Bool:=1≤x.op&&x.op≤23&&x.a<24&&x.b<24&&x.c<24&&x.d<24&&x.on<1000&&x.n<18446744073709551616&&(!(18≤x.op&&x.op≤21)||x.n<1000000)&&(!(x.op=17)||!(x.a=x.b))&&(!(x.op=14||x.op=15)||x.n<64)
def Cl.ok (c:Cl):Bool:=c.code.all In.ok&&c.data.all (fun v=>v<18446744073709551616)&&c.code.length<1000000&&c.data.length<1000000
end
end Go.PB.Mach
namespace Go.Proofs.Ytnnpdmhmpgmpnaa
open Go Go.PB
section
structure Wds where
 W:(Nat→Nat)→Mach.Wd
 un:Mach.Wd→(Nat→Nat)
 ok:(Nat→Nat)→Prop
 fu:Nat
 back:∀ f,W (un (W f))=W f
 okun:∀ f,ok f→ok (un (W f))
def mF (D:Wds) (q:Nat × Mach.Th) (f:Nat→Nat):(Nat→Nat) × (Nat × Mach.Th) :=
 match Mach.opF D.fu (D.W f) q.2 with
 | some y=>(D.un y.1,(q.1,y.2))
 | none=>(f,(q.1,{ q.2 with over:=true }))
def mkII (m:Nat × Nat):Int × Int:=(((m.1:Nat):Int),((m.2:Nat):Int))
def mPlan (D:Wds) (q:Nat × Mach.Th):Option ((Int × Int) × ((Nat→Nat)→(Nat→Nat) × (Nat × Mach.Th))) :=
 if q.2.over=true then none else some (mkII q.2.mark,mF D q)
def mG (D:Wds) (U:(Nat→Nat)→HProp) (Pv:Nat × Mach.Th→HProp):Game where
 σ:=Nat→Nat
 θ:=Nat × Mach.Th
 U:=U
 plan:=mPlan D
 ok:=D.ok
 Pv:=Pv
 Fin:=Pv
def GoodN (D:Wds):Nat→Mach.Th→Prop
 | 0,_=>True
 | n+1,t=>t.over=true∨t.over=false∧∀ f,D.ok f→∃ f' t',Mach.opF D.fu (D.W f) t=some (D.W f',t')∧D.ok f'∧GoodN D n t'
def GoodT (D:Wds) (t:Mach.Th):Prop:=∀ n,GoodN D n t
theorem GoodT.over {D:Wds} {t:Mach.Th} (h:t.over=true):GoodT D t
 | 0=>trivial
 | _+1=>.inl h
theorem GoodT.mk {D:Wds} {t:Mach.Th} (ho:t.over=false) (h:∀ f,D.ok f→∃ f' t',Mach.opF D.fu (D.W f) t=some (D.W f',t')∧D.ok f'∧GoodT D t'):GoodT D t
 | 0=>trivial
 | n+1=>.inr ⟨ho,fun f hf=>by
  obtain ⟨f',t',h1,h2,h3⟩:=h f hf
  exact ⟨f',t',h1,h2,h3 n⟩⟩
theorem GoodT.on {D:Wds} {t:Mach.Th} (g:GoodT D t) (ho:t.over=false):∀ f,D.ok f→∃ f' t',Mach.opF D.fu (D.W f) t=some (D.W f',t')∧D.ok f'∧GoodT D t':=by
 have at_:∀ n f,D.ok f→∃ f' t',Mach.opF D.fu (D.W f) t=some (D.W f',t')∧D.ok f'∧GoodN D n t':=fun n f hf=>by
  rcases g (n+1) with h | ⟨_,h⟩
  ·rw [h] at ho;cases ho
  ·exact h f hf
 intro f hf
 obtain ⟨f',t',h1,h2,_⟩:=at_ 0 f hf
 refine ⟨f',t',h1,h2,fun n=>?_⟩
 obtain ⟨g',u',e1,_,e3⟩:=at_ n f hf
 rw [h1] at e1
 simp only [Option.some.injEq,Prod.mk.injEq] at e1
 rw [e1.2]
 exact e3
section
variable {D:Wds} {U:(Nat→Nat)→HProp} {Pv:Nat × Mach.Th→HProp}
structure Rel (p:PS (mG D U Pv)) (st:Mach.St):Prop where
 w:st.w=D.W p.s
 len:p.qs.length=st.l.length
 qs:∀ k:Nat,p.qs[k]?=(st.l[k]?).map fun t=>(k,t)
 tr:p.tr=st.tr.map fun e=>(e.1,mkII e.2)
 le:st.tr.length≤16384
 good:∀ t∈st.l,GoodT D t
 ok:D.ok p.s
structure Begins (D:Wds) (U:(Nat→Nat)→HProp) (Pv:Nat × Mach.Th→HProp) (k0:Nat) (ts:List (Thr (mG D U Pv))) (cc:List (List Mach.Cl)):Prop where
 len:ts.length=cc.length
 ini:∀ (k:Nat) t c,ts[k]?=some t→cc[k]?=some c→∃ u,Mach.onF D.fu { calls:=c }=some u∧GoodT D u∧∀ s:(mG D U Pv).σ,t.ini s=(s,((k0+k,u):Nat × Mach.Th))
end
end
end Go.Proofs.Ytnnpdmhmpgmpnaa
namespace Go.Proofs.Ytnnpdmhmpgmpnaa
open Go Go.PB
attribute [local irreducible] Mo Bin Eql Tr Wo
section
structure Acc (B:Hand) (gv:Value) where
 S:Type
 C:S→HProp
 x:S→B.X
 step:Int→Nat→S→(S→Prop)→Prop
 addr:Nat→Nat × Nat
 load:Nat→S→(Nat→S→Prop)→Prop
 store:Nat→Nat→S→(S→Prop)→Prop
 cas:Nat→Nat→Nat→S→(Bool→S→Prop)→Prop
 add:Nat→Nat→S→(Nat→S→Prop)→Prop
 swap:Nat→Nat→S→(Nat→S→Prop)→Prop
 gate:(gv=.nilIface∧∀ op w s R,step op w s R→R s) ∨
  ∃ t p f,gv=.iface t p∧Met Try.prog t "Step" f∧Ent' Try.prog f∧∀ op w s R L F,step op w s R→Has L (C s) F →
   Tr Try.prog B f [p,.agg #[.int .u8 op,.int .i64 (w:Nat)]] L (x s) fun v L' x'=>∃ s',R s'∧v=.tuple #[]∧L'=C s'::F∧x'=x s'
 load_ok:∀ w s R L F b o,addr w=(b,o)→load w s R→Has L (C s) F→Tr Try.prog B 50 [.pointer (some ⟨b,o,none⟩)] L (x s) fun v L' x'=>∃ n s',n<18446744073709551616∧R n s'∧v=.int .u64 (n:Nat)∧L'=C s'::F∧x'=x s'
 store_ok:∀ w n s R L F b o,addr w=(b,o)→n<18446744073709551616→store w n s R→Has L (C s) F→Tr Try.prog B 87 [.pointer (some ⟨b,o,none⟩),.int .u64 (n:Nat)] L (x s) fun v L' x'=>∃ s',R s'∧v=.tuple #[]∧L'=C s'::F∧x'=x s'
 cas_ok:∀ w m n s R L F b o,addr w=(b,o)→n<18446744073709551616→cas w m n s R→Has L (C s) F→Tr Try.prog B 73 [.pointer (some ⟨b,o,none⟩),.int .u64 (m:Nat),.int .u64 (n:Nat)] L (x s) fun v L' x'=>∃ q s',R q s'∧v=.bool q∧L'=C s'::F∧x'=x s'
 add_ok:∀ w n s R L F b o,addr w=(b,o)→n<18446744073709551616→add w n s R→Has L (C s) F→Tr Try.prog B 85 [.pointer (some ⟨b,o,none⟩),.int .u64 (n:Nat)] L (x s) fun v L' x'=>∃ m s',m<18446744073709551616∧R m s'∧v=.int .u64 (m:Nat)∧L'=C s'::F∧x'=x s'
section
variable {B:Hand} [Lets B] {L F L1:List HProp}
theorem load_lone {b o:Nat} {n:Int} {x:B.X} (hr:Rd L b o (.int .u64 n)):Tr Try.prog B 50 [.pointer (some ⟨b,o,none⟩)] L x fun v L' x'=>v=.int .u64 n∧L'=L∧x'=x:=by
 refine tr_of_body Try.func50 rfl Try.ntmps50 (by simp) fun um Q _ hQ=>?_
 simp only [argE,Nat.zero_add,Nat.reduceAdd]
 repeat (first | (apply wo_po;apply mo_ext (args:=[_]);exact .cons rfl .nil;exact at_loadI hr;exact trivial) | refine we_seq ?_ | (refine wR ?_;try simp only [oS]) | refine wo_nil ?_ | refine wM ?_ | refine wA ?_ | refine wN ?_ | refine wD ?_ | refine we_ret ?_)
 (first | refine or1 Try.func50 Try.results50 hQ rfl ?_ | refine on1 Try.func50 Try.results50 hQ rfl ?_)
 exact ⟨rfl,rfl,rfl⟩
theorem store_lone {b o:Nat} {n:Int} {x:B.X} (hw:Wt L b o (.int .u64 n) L1):Tr Try.prog B 87 [.pointer (some ⟨b,o,none⟩),.int .u64 n] L x fun v L' x'=>v=.tuple #[]∧L'=L1∧x'=x:=by
 refine tr_of_body Try.func87 rfl Try.ntmps87 (by simp) fun um Q _ hQ=>?_
 simp only [argE,Nat.zero_add,Nat.reduceAdd]
 repeat (first | (apply wo_pm;apply mo_ext (args:=[_,_]);exact .cons rfl (.cons rfl .nil);exact at_storeI rfl hw;exact trivial) | (refine wR ?_;try simp only [oS]) | refine wo_nil ?_ | refine wM ?_ | refine wN ?_ | refine wD ?_)
 (first | refine or0 Try.func87 Try.results87 hQ ?_ | refine on0 Try.func87 Try.results87 hQ ?_)
 exact ⟨rfl,rfl,rfl⟩
theorem cas_lone {b o:Nat} {n m y:Int} {x:B.X} (hr:Rd L b o (.int .u64 n)) (hw:Wt L b o (.int .u64 y) L1):Tr Try.prog B 73 [.pointer (some ⟨b,o,none⟩),.int .u64 m,.int .u64 y] L x fun v L' x'=>v=.bool (decide (n=m))∧L'=(if n=m then L1 else L)∧x'=x:=by
 refine tr_of_body Try.func73 rfl Try.ntmps73 (by simp) fun um Q _ hQ=>?_
 simp only [argE,Nat.zero_add,Nat.reduceAdd]
 repeat (first | (apply wo_pm;apply mo_ext (args:=[_,_,_]);exact .cons rfl (.cons rfl (.cons rfl .nil));exact at_casI hr hw;exact trivial) | refine we_seq ?_ | (refine wR ?_;try simp only [oS]) | refine wo_nil ?_ | refine wM ?_ | refine wA ?_ | refine wN ?_ | refine wD ?_ | refine we_ret ?_)
 (first | refine or1 Try.func73 Try.results73 hQ rfl ?_ | refine on1 Try.func73 Try.results73 hQ rfl ?_)
 exact ⟨rfl,rfl,rfl⟩
theorem add_lone {b o:Nat} {n y r:Int} {x:B.X} (hr:Rd L b o (.int .u64 n)) (hn:IntKind.u64.wrap (n+y)=r) (hw:Wt L b o (.int .u64 r) L1):Tr Try.prog B 85 [.pointer (some ⟨b,o,none⟩),.int .u64 y] L x fun v L' x'=>v=.int .u64 r∧L'=L1∧x'=x:=by
 refine tr_of_body Try.func85 rfl Try.ntmps85 (by simp) fun um Q _ hQ=>?_
 simp only [argE,Nat.zero_add,Nat.reduceAdd]
 repeat (first | (apply wo_pm;apply mo_ext (args:=[_,_]);exact .cons rfl (.cons rfl .nil);exact at_addI hr hn hw;exact trivial) | refine we_seq ?_ | (refine wR ?_;try simp only [oS]) | refine wo_nil ?_ | refine wM ?_ | refine wA ?_ | refine wN ?_ | refine wD ?_ | refine we_ret ?_)
 (first | refine or1 Try.func85 Try.results85 hQ rfl ?_ | refine on1 Try.func85 Try.results85 hQ rfl ?_)
 exact ⟨rfl,rfl,rfl⟩
end
end
section
variable {B:Hand} [Lets B]
def loneAcc (x:B.X) (addr:Nat→Nat × Nat) (N:Nat) (K:List (Nat × Nat × Value)) (A:Apart addr N K):Acc B .nilIface where
 S:=Nat→Nat
 C:=wds addr N K
 x:=fun _=>x
 step:=fun _ _ s R=>R s
 addr:=addr
 load:=fun w s R=>w<N∧R (s w) s
 store:=fun w n s R=>w<N∧R (upd s w n)
 cas:=fun w a n s R=>w<N∧if s w=a then R true (upd s w n) else R false s
 add:=fun w n s R=>w<N∧R ((s w+n)%18446744073709551616) (upd s w ((s w+n)%18446744073709551616))
 swap:=fun w n s R=>w<N∧R (s w) (upd s w n)
 gate:=.inl ⟨rfl,fun _ _ _ _ h=>h⟩
 load_ok:=fun w s R L F b o ha hl hh=>tr_pure (of_has hh fun h hc=>(hc.1 w hl.1).1) fun hs =>
  (load_lone (rd_wds hh hl.1 ha)).post fun v L' x' ⟨h1,h2,h3⟩=>⟨_,⟨s w,s,hs,hl.2,h1,rfl,h3⟩,fun h st=>hh.star (h2▸st)⟩
 store_ok:=fun w n s R L F b o ha hn hl hh =>
  (store_lone (wt_wds A hh hl.1 ha hn)).mono fun v L' x' ⟨h1,h2,h3⟩=>⟨upd s w n,hl.2,h1,h2,h3⟩
 cas_ok:=fun w m n s R L F b o ha hn hl hh =>
  (cas_lone (rd_wds hh hl.1 ha) (wt_wds A hh hl.1 ha hn)).post fun v L' x' ⟨h1,h2,h3⟩=>by
   obtain ⟨h4,h5⟩:=hl
   by_cases e:s w=m
   ·rw [if_pos e] at h5;rw [if_pos (by omega)] at h2;exact ⟨_,⟨true,_,h5,by rw [h1];simp [e],rfl,h3⟩,fun h st=>h2▸st⟩
   ·rw [if_neg e] at h5;rw [if_neg (by omega)] at h2;exact ⟨_,⟨false,_,h5,by rw [h1];simp;omega,rfl,h3⟩,fun h st=>hh.star (h2▸st)⟩
 add_ok:=fun w n s R L F b o ha hn hl hh =>
  (add_lone (r:=((s w+n)%18446744073709551616:Nat)) (rd_wds hh hl.1 ha) (by rw [wrap_u64_mod];omega) (wt_wds A hh hl.1 ha (Nat.mod_lt _ (by decide)))).mono fun v L' x' ⟨h1,h2,h3⟩=>⟨_,_,Nat.mod_lt _ (by decide),hl.2,h1,h2,h3⟩
end
end Go.Proofs.Ytnnpdmhmpgmpnaa
namespace Go.Proofs.Ytnnpdmhmpgmpnaa
open Go Go.PB
attribute [local irreducible] Mo Bin Eql Tr Wo Ap Wle
section
theorem wds_congr {addr:Nat→Nat × Nat} {N:Nat} {K:List (Nat × Nat × Value)} {f f':Nat→Nat} (e:∀ i,i<N→f i=f' i):∀ h,wds addr N K f h→wds addr N K f' h:=fun h s =>
 ⟨fun w hw=>by rw [← e w hw];exact s.1 w hw,s.2⟩
structure PlS where
 f:Nat→Nat
 g:Nat→Nat
 t:Mach.Th
 n:Nat
section
variable {D:Wds} {addr:Nat→Nat × Nat} {N:Nat} {K:List (Nat × Nat × Value)} {Z:HProp} {Pv:Nat × Mach.Th→HProp} {sb says turn fin wg:Nat}
end
end
section
structure WGm where
 σ:Type
 θ:Type
 ζ:Type
 wf:σ→Nat→Nat
 zf:σ→ζ
 Z:ζ→HProp
 plan:θ→Option ((Int × Int) × (σ→σ × θ))
 ok:σ→Prop
 Pv:θ→HProp
 up:∀ q h,Star [Pv q] h→Pv q h
def WGm.g (G:WGm) (addr:Nat→Nat × Nat) (N:Nat) (K:List (Nat × Nat × Value)):Game where
 σ:=G.σ
 θ:=G.θ
 U:=fun s=>all [wds addr N K (G.wf s),G.Z (G.zf s)]
 plan:=G.plan
 ok:=G.ok
 Pv:=G.Pv
 Fin:=G.Pv
structure GaS (G:WGm) where
 f:Nat→Nat
 c:G.ζ
 s:G.σ
 q:G.θ
 n:Nat
section
variable {G:WGm} {addr:Nat→Nat × Nat} {N:Nat} {K:List (Nat × Nat × Value)} {sb says turn fin wg:Nat}
def gaC (G:WGm) (addr:Nat→Nat × Nat) (N:Nat) (K:List (Nat × Nat × Value)) (sb says turn fin:Nat) (Pm:HProp) (f:Nat→Nat) (c:G.ζ):HProp:=all [wds addr N K f,G.Z c,seatR sb says turn fin,Pm]
def GaStep (G:WGm) (N:Nat) (Pm:HProp) (op:Int) (w:Nat) (s:GaS G) (R:GaS G→Prop):Prop :=
 ∃ F,G.plan s.q=some ((op,((w:Nat):Int)),F)∧(∀ i,i<N→s.f i=G.wf s.s i)∧s.c=G.zf s.s∧(∀ h,Pm h→G.Pv s.q h)∧∀ s' n,n<s.n→G.ok s'→R ⟨G.wf s',G.zf s',(F s').1,(F s').2,n⟩
theorem ga_step {Pm:HProp} {op:Int} {w:Nat} {s:GaS G} {R:GaS G→Prop} {L F:List HProp} (hs:GaStep G N Pm op w s R) (hh:Has L (gaC G addr N K sb says turn fin Pm s.f s.c) F) :
  Tr Try.prog tH 128 [.pointer (some ⟨sb,0,none⟩),.agg #[.int .u8 op,.int .i64 (w:Nat)]] L (tx (G.g addr N K) says turn fin wg (.busy s.s s.q s.n)) fun v L' x' =>
   ∃ s',R s'∧v=.tuple #[]∧L'=gaC G addr N K sb says turn fin Pm s'.f s'.c::F∧x'=tx (G.g addr N K) says turn fin wg (.busy s'.s s'.q s'.n):=by
 obtain ⟨FF,hp,hfg,hc,hpm,hR⟩:=hs
 refine tr_star ((G.g addr N K).U s.s::seatR sb says turn fin::Pm::F) (fun h st=>?_) ?_
 ·have s1:Star (wds addr N K s.f::G.Z s.c::seatR sb says turn fin::Pm::F) h:=star_open (M:=[_,_,_,_]) (hh.star st)
  rw [hc] at s1
  exact star_shut (M:=[_,_]) (star_map s1 (wds_congr hfg) fun _ z=>z)
 ·refine (seat_tr (g:=G.g addr N K) (mk:=(op,((w:Nat):Int))) (f:=FF) hp .here .here fun h st=>G.up _ _ ?_).post ?_
  ·exact star_map (star_drop st) hpm fun _ z=>trivial
  ·rintro v L' x' ⟨m',s',hm,hok,rfl,rfl,rfl⟩
   refine ⟨_,⟨⟨G.wf s',G.zf s',(FF s').1,(FF s').2,m'⟩,hR s' m' (by omega) hok,rfl,rfl,rfl⟩,fun h st=>?_⟩
   exact star_shut (M:=[_,_,_,_]) (star_open (M:=[_,_]) st)
def gamAcc (G:WGm) (addr:Nat→Nat × Nat) (N:Nat) (K:List (Nat × Nat × Value)) (A:Apart addr N K) (sb says turn fin wg:Nat) (Pm:HProp):Acc tH (gateV sb) where
 S:=GaS G
 C:=fun s=>gaC G addr N K sb says turn fin Pm s.f s.c
 x:=fun s=>tx (G.g addr N K) says turn fin wg (.busy s.s s.q s.n)
 step:=GaStep G N Pm
 addr:=addr
 load:=fun w s R=>w<N∧R (s.f w) s
 store:=fun w n s R=>w<N∧R { s with f:=upd s.f w n }
 cas:=fun w a n s R=>w<N∧if s.f w=a then R true { s with f:=upd s.f w n } else R false s
 add:=fun w n s R=>w<N∧R ((s.f w+n)%18446744073709551616) { s with f:=upd s.f w ((s.f w+n)%18446744073709551616) }
 swap:=fun w n s R=>w<N∧R (s.f w) { s with f:=upd s.f w n }
 gate:=.inr ⟨_,_,128,rfl,inferInstance,inferInstance,fun op w s R L F hs hh=>ga_step hs hh⟩
 load_ok:=fun w s R L F b o ha hl hh=>tr_star _ (fun h st=>star_open (hh.star st)) (tr_pure (of_has .here fun h hc=>(hc.1 w hl.1).1) fun hs =>
  (load_lone (rd_wds .here hl.1 ha)).post fun v L' x' ⟨h1,h2,h3⟩=>⟨_,⟨s.f w,s,hs,hl.2,h1,rfl,h3⟩,fun h st=>star_shut (M:=[_,_,_,_]) (by rw [h2] at st;exact st)⟩)
 store_ok:=fun w n s R L F b o ha hn hl hh=>tr_star _ (fun h st=>star_open (hh.star st))
  ((store_lone (wt_wds A .here hl.1 ha hn)).post fun v L' x' ⟨h1,h2,h3⟩=>⟨_,⟨{ s with f:=upd s.f w n },hl.2,h1,rfl,h3⟩,fun h st=>star_shut (M:=[_,_,_,_]) (by rw [h2] at st;exact st)⟩)
 cas_ok:=fun w m n s R L F b o ha hn hl hh=>tr_star _ (fun h st=>star_open (hh.star st))
  ((cas_lone (rd_wds .here hl.1 ha) (wt_wds A .here hl.1 ha hn)).post fun v L' x' ⟨h1,h2,h3⟩=>by
   obtain ⟨h4,h5⟩:=hl
   by_cases e:s.f w=m
   ·rw [if_pos e] at h5;rw [if_pos (by omega)] at h2;exact ⟨_,⟨true,_,h5,by rw [h1];simp [e],rfl,h3⟩,fun h st=>star_shut (M:=[_,_,_,_]) (by rw [h2] at st;exact st)⟩
   ·rw [if_neg e] at h5;rw [if_neg (by omega)] at h2;exact ⟨_,⟨false,_,h5,by rw [h1];simp;omega,rfl,h3⟩,fun h st=>star_shut (M:=[_,_,_,_]) (by rw [h2] at st;exact st)⟩)
 add_ok:=fun w n s R L F b o ha hn hl hh=>tr_star _ (fun h st=>star_open (hh.star st))
  ((add_lone (r:=((s.f w+n)%18446744073709551616:Nat)) (rd_wds .here hl.1 ha) (by rw [wrap_u64_mod];omega) (wt_wds A .here hl.1 ha (Nat.mod_lt _ (by decide)))).post fun v L' x' ⟨h1,h2,h3⟩=>⟨_,⟨_,{ s with f:=_ },Nat.mod_lt _ (by decide),hl.2,h1,rfl,h3⟩,fun h st=>star_shut (M:=[_,_,_,_]) (by rw [h2] at st;exact st)⟩)
theorem ga_go {A:Apart addr N K} {Pm:HProp} {op w:Nat} {o:Int} {s:GaS G} {R:GaS G→Prop} {F:G.σ→G.σ × G.θ} (ho:((op:Nat):Int)=o) (hp:G.plan s.q=some ((((op:Nat):Int),((w:Nat):Int)),F)) (hf:∀ i,i<N→s.f i=G.wf s.s i) (hc:s.c=G.zf s.s) (hpm:∀ h,Pm h→G.Pv s.q h)
  (hR:∀ s' n,n<s.n→G.ok s'→R ⟨G.wf s',G.zf s',(F s').1,(F s').2,n⟩):(gamAcc G addr N K A sb says turn fin wg Pm).step o w s R:=by
 subst ho
 exact ⟨F,hp,hf,hc,hpm,hR⟩
end
section
variable {g:Game}
theorem play_ends {I:PS g→Prop} {Φ:PS g→Nat} {ts:List (Thr g)} {s:g.σ} {o:List Int} {n:Nat} (hs:∀ p k,I p→I (takeF p k).1) (hΦ:∀ p k,I p→(takeF p k).2=true→Φ (takeF p k).1+1≤Φ p) (h0:I ⟨(startF ts s).1,(startF ts s).2,[]⟩) (hn:Φ ⟨(startF ts s).1,(startF ts s).2,[]⟩≤n) (hlt:n<16384) :
  I (playF ts s o)∧(playF ts s o).tr.length≤n∧∀ (k:Nat) q,(playF ts s o).qs[k]?=some q→g.plan q=none:=by
 have hJ:I (playF ts s o)∧(playF ts s o).tr.length+Φ (playF ts s o)≤n:=playF_inv (I:=fun p=>I p∧p.tr.length+Φ p≤n) (fun p k h=>⟨hs p k h.1,by
  have h2:=h.2
  rcases takeF_cases p k with e | ⟨m,q,mk,f,hk,hq,hp,htr,e⟩
  ·rw [e];exact h2
  ·have h3:=hΦ p k h.1 (by rw [e])
   have h4:(takeF p k).1.tr.length=p.tr.length+1:=by rw [e];simp
   omega⟩) ⟨h0,by simpa using hn⟩
 refine ⟨hJ.1,by omega,fun k q hq=>(playF_done hq).resolve_right (by omega)⟩
end
theorem sum_step {α:Type} {φ0 φ1:α→Nat} (h:∀ a,φ1 a≤φ0 a):∀ {l:List α} {k:Nat} {q q':α},l[k]?=some q→φ1 q'+1≤φ0 q→sumN ((l.set k q').map φ1)+1≤sumN (l.map φ0)
 | [],_,_,_,hq,_=>by simp at hq
 | a::l,0,q,q',hq,hl=>by
  simp at hq;subst hq
  have hle:∀ l:List α,sumN (l.map φ1)≤sumN (l.map φ0):=by
   intro l
   induction l with
   | nil=>simp [sumN]
   | cons b l ih=>have:=h b;simp only [List.map_cons,sumN,List.foldr_cons] at ih ⊢;omega
  have:=hle l
  simp only [List.set_cons_zero,List.map_cons,sumN,List.foldr_cons] at this ⊢;omega
 | a::l,k+1,q,q',hq,hl=>by
  have h1:=sum_step h (l:=l) (k:=k) (q:=q) (q':=q') (by simpa using hq) hl
  have h2:=h a
  simp only [List.set_cons_succ,List.map_cons,sumN,List.foldr_cons] at h1 ⊢;omega
theorem sum_le2 {α:Type} {φ0 φ1:α→Nat} {d:Nat} (h:∀ a,φ1 a≤φ0 a+d):∀ (l:List α),sumN (l.map φ1)≤sumN (l.map φ0)+d*l.length
 | []=>by simp [sumN]
 | a::l=>by
  have h1:=sum_le2 h l
  have h2:=h a
  simp only [List.map_cons,sumN,List.foldr_cons,List.length_cons,Nat.mul_add] at h1 ⊢;omega
theorem sum_set {α:Type} {φ:α→Nat} {l:List α} {k:Nat} {q q':α} (hq:l[k]?=some q):sumN ((l.set k q').map φ)+φ q=sumN (l.map φ)+φ q':=by
 rw [List.map_set]
 exact sumN_set (by rw [List.getElem?_map,hq];rfl)
theorem sum_step2 {α:Type} {φ0 φ1:α→Nat} {d:Nat} (h:∀ a,φ1 a≤φ0 a+d) {l:List α} {k:Nat} {q q':α} (hq:l[k]?=some q) (hl:φ1 q'+d*l.length+1≤φ1 q):sumN ((l.set k q').map φ1)+1≤sumN (l.map φ0):=by
 have h1:=sum_set (φ:=φ1) (q':=q') hq
 have h2:=sum_le2 h l
 omega
end
end Go.Proofs.Ytnnpdmhmpgmpnaa
namespace Go.Proofs.Ytnnpdmhmpgmpnaa
open Go Go.PB
section
inductive NvSt where
 | eL
 | eC (n:Nat)
 | pL (m:Nat)
 | pC (m p:Nat)
 | lL
 | lC (n:Nat)
 | g0
 | g1 (a:Nat)
structure NvQ where
 rl:List Bool
 bin:Nat
 bad:Bool
 st:NvSt
 bk:Nat
structure NvS where
 w:Nat
 pk:Nat
 now:Int
 most:Int
 E:List Nat
def nvNext (s:NvS) (rl:List Bool) (bin:Nat) (bad:Bool) (bk:Nat):NvS × NvQ :=
 match rl with
 | []=>(s,⟨[],bin,bad,.g0,bk⟩)
 | true::r=>(s,⟨true::r,bin,bad,.eL,bk⟩)
 | false::r=>if 0<bin then ({ s with now:=s.now-1,E:=s.E.tail },⟨false::r,bin-1,bad,if bad=true then .g0 else .lL,bk⟩) else (s,⟨false::r,bin,bad,.g0,bk⟩)
def nvIn (s:NvS) (m:Nat):NvS:={ s with now:=s.now+1,most:=max s.most (s.now+1),E:=s.E++[m] }
def nvPlan (limit:Nat) (q:NvQ):Option ((Int × Int) × (NvS→NvS × NvQ)) :=
 match q.rl with
 | []=>none
 | _::rest=>some (match q.st with
  | .eL=>((((1:Nat):Int),((0:Nat):Int)),fun s=>if limit≤s.w then (s,{ q with st:=.g0 }) else (s,{ q with st:=.eC s.w }))
  | .eC n=>((((5:Nat):Int),((0:Nat):Int)),fun s=>if s.w=n then ({ s with w:=n+1 },{ q with st:=.pL (n+1) }) else (s,{ q with st:=.eL }))
  | .pL m=>((((1:Nat):Int),((1:Nat):Int)),fun s=>if m≤s.pk then (nvIn s m,{ q with st:=.g0,bin:=q.bin+1 }) else (s,{ q with st:=.pC m s.pk }))
  | .pC m p=>((((5:Nat):Int),((1:Nat):Int)),fun s=>if s.pk=p then (nvIn { s with pk:=m } m,{ q with st:=.g0,bin:=q.bin+1 }) else (s,{ q with st:=.pL m }))
  | .lL=>((((1:Nat):Int),((0:Nat):Int)),fun s=>if s.w=0 then (s,{ q with st:=.g0,bad:=true }) else (s,{ q with st:=.lC s.w }))
  | .lC n=>((((5:Nat):Int),((0:Nat):Int)),fun s=>if s.w=n then ({ s with w:=n-1 },{ q with st:=.g0 }) else (s,{ q with st:=.lL }))
  | .g0=>((((1:Nat):Int),((0:Nat):Int)),fun s=>(s,{ q with st:=.g1 s.w }))
  | .g1 a=>((((1:Nat):Int),((1:Nat):Int)),fun s=>nvNext s rest q.bin (q.bad||decide (limit<a)||decide (limit<s.pk)) q.bk))
def nvPm (q:NvQ):Option Nat:=match q.st with | .pL m=>some m | .pC m _=>some m | _=>none
def nvPn (q:NvQ):Nat:=match q.st with | .pL _=>1 | .pC _ _=>1 | _=>0
def nvLv (q:NvQ):Nat:=match q.st with | .lL=>1 | .lC _=>1 | _=>0
def nvCn (v:Nat) (q:NvQ):Nat:=match q.st with | .pL m=>if m≤v then 1 else 0 | .pC m _=>if m≤v then 1 else 0 | _=>0
def le1 (l:List Nat) (v:Nat):Nat:=(l.filter fun e=>decide (e≤v)).length
structure NvT (limit:Nat) (q:NvQ):Prop where
 bad:q.bad=false
 ec:∀ n,q.st=.eC n→n<limit
 pc:∀ m p,q.st=.pC m p→p<m
 pm:∀ m,nvPm q=some m→m≤limit
 ga:∀ a,q.st=.g1 a→a≤limit
 ov:q.rl=[]→q.st=.g0
structure NvI (limit:Nat) (s:NvS) (qs:List NvQ):Prop where
 len:qs.length≤4
 now:s.now=s.E.length
 ws:s.w=s.E.length+sumN (qs.map nvPn)+sumN (qs.map nvLv)
 K:∀ v,le1 s.E v+sumN (qs.map (nvCn v))≤v
 el:∀ e∈s.E,e≤s.pk
 most:0≤s.most∧s.most≤s.pk
 pk:s.pk≤limit
 w:s.w≤limit
 bins:sumN (qs.map NvQ.bin)=s.E.length
 th:∀ (k:Nat) q,qs[k]?=some q→NvT limit q
theorem le1_le {l:List Nat} {v:Nat}:le1 l v≤l.length:=List.length_filter_le _ _
theorem le1_snoc {l:List Nat} {m v:Nat}:le1 (l++[m]) v=le1 l v+if m≤v then 1 else 0:=by
 unfold le1
 rw [List.filter_append,List.length_append]
 by_cases h:m≤v <;> simp [h]
theorem le1_tail {l:List Nat} {v:Nat}:le1 l.tail v≤le1 l v:=by
 cases l with
 | nil=>exact Nat.le_refl _
 | cons a l=>unfold le1;rw [List.tail_cons,List.filter_cons];split <;> simp
theorem le1_all {l:List Nat} {v:Nat} (h:∀ e∈l,e≤v):le1 l v=l.length:=by
 unfold le1
 rw [List.filter_eq_self.2 (by simpa using h)]
theorem sumN_cn {qs:List NvQ} {v:Nat}:sumN (qs.map (nvCn v))≤sumN (qs.map nvPn):=by
 have h:=sum_le2 (φ0:=nvPn) (φ1:=nvCn v) (d:=0) (fun q=>by unfold nvCn nvPn;split <;> (try split) <;> simp_all) qs
 simpa using h
theorem nv_mk {limit:Nat} {s s':NvS} {qs:List NvQ} {k:Nat} {q q':NvQ} (I:NvI limit s qs) (hq:qs[k]?=some q) (hnow:s'.now=s'.E.length) (hw:s'.w+s.E.length+nvPn q+nvLv q=s.w+s'.E.length+nvPn q'+nvLv q')
  (hK:∀ v,le1 s'.E v+nvCn v q'≤le1 s.E v+nvCn v q∨s'.w≤v) (hel:∀ e∈s'.E,e≤s'.pk) (hmost:0≤s'.most∧s'.most≤s'.pk) (hpk:s'.pk≤limit) (hwl:s'.w≤limit) (hbin:s'.E.length+q.bin=s.E.length+q'.bin) (hth:NvT limit q'):NvI limit s' (qs.set k q'):=by
 have h1:=sum_set (φ:=nvPn) (q':=q') hq
 have h2:=sum_set (φ:=nvLv) (q':=q') hq
 have h3:=sum_set (φ:=NvQ.bin) (q':=q') hq
 have hws:s'.w=s'.E.length+sumN ((qs.set k q').map nvPn)+sumN ((qs.set k q').map nvLv):=by have:=I.ws;omega
 refine ⟨by rw [List.length_set];exact I.len,hnow,hws,fun v=>?_,hel,hmost,hpk,hwl,?_,fun j z hj=>?_⟩
 ·rcases hK v with h | h
  ·have h4:=sum_set (φ:=nvCn v) (q':=q') hq
   have h5:=I.K v
   omega
  ·have h4:=sumN_cn (qs:=qs.set k q') (v:=v)
   have h5:=le1_le (l:=s'.E) (v:=v)
   omega
 ·have:=I.bins;omega
 ·rw [List.getElem?_set] at hj
  split at hj
  ·split at hj
   ·cases hj;exact hth
   ·cases hj
  ·exact I.th j z hj
theorem sumN_mem {α:Type} {φ:α→Nat}:∀ {l:List α} {k:Nat} {q:α},l[k]?=some q→φ q≤sumN (l.map φ)
 | [],_,_,h=>by simp at h
 | a::l,0,q,h=>by simp at h;subst h;simp only [List.map_cons,sumN,List.foldr_cons];omega
 | a::l,k+1,q,h=>by
  have:=sumN_mem (φ:=φ) (l:=l) (k:=k) (q:=q) (by simpa using h)
  simp only [List.map_cons,sumN,List.foldr_cons] at this ⊢;omega
def nvφ (s:NvS) (q:NvQ):Nat:=24*q.rl.tail.length+if q.rl=[] then 0 else match q.st with
 | .eL=>22
 | .eC n=>21+if s.w=n then 0 else 2
 | .pL _=>13
 | .pC _ p=>12+if s.pk=p then 0 else 2
 | .lL=>13
 | .lC n=>12+if s.w=n then 0 else 2
 | .g0=>2
 | .g1 _=>1
theorem nvφ_le (s s':NvS) (q:NvQ):nvφ s' q≤nvφ s q+2:=by
 unfold nvφ
 split
 ·omega
 ·split <;> (try split) <;> (try split) <;> omega
theorem nvφ_eq {s s':NvS} (h1:s'.w=s.w) (h2:s'.pk=s.pk) (q:NvQ):nvφ s' q≤nvφ s q:=by
 unfold nvφ;rw [h1,h2];exact Nat.le_refl _
set_option maxHeartbeats 2000000 in
theorem nv_step {limit:Nat} {s:NvS} {qs:List NvQ} (I:NvI limit s qs) {k:Nat} {q:NvQ} (hq:qs[k]?=some q) {m:Int × Int} {f:NvS→NvS × NvQ} (hp:nvPlan limit q=some (m,f)) :
  NvI limit (f s).1 (qs.set k (f s).2)∧sumN ((qs.set k (f s).2).map (nvφ (f s).1))+1≤sumN (qs.map (nvφ s)):=by
 have T:=I.th k q hq
 have hlen:=I.len
 have hws:=I.ws
 have hb:=sumN_mem (φ:=NvQ.bin) hq
 have hl:=sumN_mem (φ:=nvLv) hq
 have hbins:=I.bins
 obtain ⟨rl,bin,bad,st,bk⟩:=q
 cases rl with
 | nil=>cases hp
 | cons a rest =>
  obtain ⟨tb,te,tpc,tp,tg,_⟩:=T
  simp only at tb
  subst tb
  simp only [nvPlan,Option.some.injEq,Prod.mk.injEq] at hp
  cases st with
  | eL =>
   obtain ⟨_,rfl⟩:=hp
   by_cases c:limit≤s.w
   ·simp only [if_pos c]
    exact ⟨nv_mk I hq I.now (by simp [nvPn,nvLv]) (fun v=>.inl (by simp [nvCn])) I.el I.most I.pk I.w rfl ⟨rfl,fun n h=>(by cases h),fun n p h=>(by cases h),fun m h=>(by cases h),fun a h=>(by cases h),fun h=>(by cases h)⟩,sum_step (fun _=>Nat.le_refl _) hq (by simp [nvφ])⟩
   ·simp only [if_neg c]
    exact ⟨nv_mk I hq I.now (by simp [nvPn,nvLv]) (fun v=>.inl (by simp [nvCn])) I.el I.most I.pk I.w rfl ⟨rfl,fun n h=>(by cases h;omega),fun n p h=>(by cases h),fun m h=>(by cases h),fun a h=>(by cases h),fun h=>(by cases h)⟩,sum_step (fun _=>Nat.le_refl _) hq (by simp [nvφ])⟩
  | eC n =>
   obtain ⟨_,rfl⟩:=hp
   have hn:=te n rfl
   by_cases c:s.w=n
   ·simp only [if_pos c]
    refine ⟨nv_mk I hq I.now (by simp [nvPn,nvLv];omega) (fun v=>?_) I.el I.most I.pk (by show n+1≤limit;omega) rfl ⟨rfl,fun n h=>(by cases h),fun n p h=>(by cases h),fun m h=>(by cases h;omega),fun a h=>(by cases h),fun h=>(by cases h)⟩,sum_step2 (d:=2) (nvφ_le _ _) hq (by simp [nvφ];omega)⟩
    by_cases hv:n+1≤v
    ·exact .inr hv
    ·exact .inl (by simp [nvCn,hv])
   ·simp only [if_neg c]
    exact ⟨nv_mk I hq I.now (by simp [nvPn,nvLv]) (fun v=>.inl (by simp [nvCn])) I.el I.most I.pk I.w rfl ⟨rfl,fun n h=>(by cases h),fun n p h=>(by cases h),fun m h=>(by cases h),fun a h=>(by cases h),fun h=>(by cases h)⟩,sum_step (fun _=>Nat.le_refl _) hq (by simp [nvφ,c])⟩
  | pL m =>
   obtain ⟨_,rfl⟩:=hp
   have hm:=tp m rfl
   by_cases c:m≤s.pk
   ·simp only [if_pos c]
    have hel:∀ e∈s.E++[m],e≤s.pk:=fun e he=>by
     rcases List.mem_append.1 he with he | he
     ·exact I.el e he
     ·cases List.mem_singleton.1 he;exact c
    have hK:=I.K s.pk
    have hc:=sumN_mem (φ:=nvCn s.pk) hq
    have ha:=le1_all I.el
    have hn:=I.now
    have hmo:=I.most
    refine ⟨nv_mk (s':=nvIn s m) I hq (by simp [nvIn,hn]) (by simp [nvPn,nvLv,nvIn];omega) (fun v=>.inl (by simp [nvCn,nvIn,le1_snoc])) hel ?_ I.pk I.w (by simp [nvIn];omega) ⟨rfl,fun n h=>(by cases h),fun n p h=>(by cases h),fun m h=>(by cases h),fun a h=>(by cases h),fun h=>(by cases h)⟩,sum_step (nvφ_eq rfl rfl) hq (by simp [nvφ])⟩
    have:nvCn s.pk ⟨a::rest,bin,false,.pL m,bk⟩=1:=by simp [nvCn,c]
    constructor
    ·show 0≤max s.most (s.now+1);omega
    ·show max s.most (s.now+1)≤s.pk;omega
   ·simp only [if_neg c]
    exact ⟨nv_mk I hq I.now (by simp [nvPn,nvLv]) (fun v=>.inl (by simp [nvCn])) I.el I.most I.pk I.w rfl ⟨rfl,fun n h=>(by cases h),fun n p h=>(by cases h;omega),fun m h=>(by cases h;exact hm),fun a h=>(by cases h),fun h=>(by cases h)⟩,sum_step (fun _=>Nat.le_refl _) hq (by simp [nvφ])⟩
  | pC m p =>
   obtain ⟨_,rfl⟩:=hp
   have hm:=tp m rfl
   have hpm:=tpc m p rfl
   by_cases c:s.pk=p
   ·simp only [if_pos c]
    have hel:∀ e∈s.E++[m],e≤m:=fun e he=>by
     rcases List.mem_append.1 he with he | he
     ·have:=I.el e he;omega
     ·cases List.mem_singleton.1 he;exact Nat.le_refl _
    have hK:=I.K m
    have hc:=sumN_mem (φ:=nvCn m) hq
    have ha:=le1_all (l:=s.E) (v:=m) fun e he=>hel e (List.mem_append_left _ he)
    have hn:=I.now
    have hmo:=I.most
    refine ⟨nv_mk (s':=nvIn { s with pk:=m } m) I hq (by simp [nvIn,hn]) (by simp [nvPn,nvLv,nvIn];omega) (fun v=>.inl (by simp [nvCn,nvIn,le1_snoc])) hel ?_ hm I.w (by simp [nvIn];omega) ⟨rfl,fun n h=>(by cases h),fun n p h=>(by cases h),fun m h=>(by cases h),fun a h=>(by cases h),fun h=>(by cases h)⟩,sum_step2 (d:=2) (nvφ_le _ _) hq (by simp [nvφ];omega)⟩
    have:nvCn m ⟨a::rest,bin,false,.pC m p,bk⟩=1:=by simp [nvCn]
    constructor
    ·show 0≤max s.most (s.now+1);omega
    ·show max s.most (s.now+1)≤m;omega
   ·simp only [if_neg c]
    exact ⟨nv_mk I hq I.now (by simp [nvPn,nvLv]) (fun v=>.inl (by simp [nvCn])) I.el I.most I.pk I.w rfl ⟨rfl,fun n h=>(by cases h),fun n p h=>(by cases h),fun m h=>(by cases h;exact hm),fun a h=>(by cases h),fun h=>(by cases h)⟩,sum_step (fun _=>Nat.le_refl _) hq (by simp [nvφ,c])⟩
  | lL =>
   obtain ⟨_,rfl⟩:=hp
   have h1:nvLv ⟨a::rest,bin,false,.lL,bk⟩=1:=rfl
   have hw:s.w≠0:=by omega
   simp only [if_neg hw]
   exact ⟨nv_mk I hq I.now (by simp [nvPn,nvLv]) (fun v=>.inl (by simp [nvCn])) I.el I.most I.pk I.w rfl ⟨rfl,fun n h=>(by cases h),fun n p h=>(by cases h),fun m h=>(by cases h),fun a h=>(by cases h),fun h=>(by cases h)⟩,sum_step (fun _=>Nat.le_refl _) hq (by simp [nvφ])⟩
  | lC n =>
   obtain ⟨_,rfl⟩:=hp
   have h1:nvLv ⟨a::rest,bin,false,.lC n,bk⟩=1:=rfl
   have hw:=I.w
   by_cases c:s.w=n
   ·simp only [if_pos c]
    exact ⟨nv_mk I hq I.now (by simp [nvPn,nvLv];omega) (fun v=>.inl (by simp [nvCn])) I.el I.most I.pk (by show n-1≤limit;omega) rfl ⟨rfl,fun n h=>(by cases h),fun n p h=>(by cases h),fun m h=>(by cases h),fun a h=>(by cases h),fun h=>(by cases h)⟩,sum_step2 (d:=2) (nvφ_le _ _) hq (by simp [nvφ];split <;> omega)⟩
   ·simp only [if_neg c]
    exact ⟨nv_mk I hq I.now (by simp [nvPn,nvLv]) (fun v=>.inl (by simp [nvCn])) I.el I.most I.pk I.w rfl ⟨rfl,fun n h=>(by cases h),fun n p h=>(by cases h),fun m h=>(by cases h),fun a h=>(by cases h),fun h=>(by cases h)⟩,sum_step (fun _=>Nat.le_refl _) hq (by simp [nvφ,c])⟩
  | g0 =>
   obtain ⟨_,rfl⟩:=hp
   exact ⟨nv_mk I hq I.now (by simp [nvPn,nvLv]) (fun v=>.inl (by simp [nvCn])) I.el I.most I.pk I.w rfl ⟨rfl,fun n h=>(by cases h),fun n p h=>(by cases h),fun m h=>(by cases h),fun a h=>(by cases h;exact I.w),fun h=>(by cases h)⟩,sum_step (fun _=>Nat.le_refl _) hq (by simp [nvφ])⟩
  | g1 b =>
   obtain ⟨_,rfl⟩:=hp
   have hb1:=tg b rfl
   have hpk:=I.pk
   have hbad:(false||decide (limit<b)||decide (limit<s.pk))=false:=by simp;omega
   simp only [hbad]
   cases rest with
   | nil =>
    simp only [nvNext]
    exact ⟨nv_mk I hq I.now (by simp [nvPn,nvLv]) (fun v=>.inl (by simp [nvCn])) I.el I.most I.pk I.w rfl ⟨rfl,fun n h=>(by cases h),fun n p h=>(by cases h),fun m h=>(by cases h),fun a h=>(by cases h),fun h=>rfl⟩,sum_step (fun _=>Nat.le_refl _) hq (by simp [nvφ])⟩
   | cons c r =>
    cases c with
    | true =>
     simp only [nvNext]
     exact ⟨nv_mk I hq I.now (by simp [nvPn,nvLv]) (fun v=>.inl (by simp [nvCn])) I.el I.most I.pk I.w rfl ⟨rfl,fun n h=>(by cases h),fun n p h=>(by cases h),fun m h=>(by cases h),fun a h=>(by cases h),fun h=>(by cases h)⟩,sum_step (fun _=>Nat.le_refl _) hq (by simp [nvφ];omega)⟩
    | false =>
     simp only [nvNext]
     by_cases hb0:0<bin
     ·simp only [if_pos hb0,Bool.false_eq_true,if_false]
      have hEl:s.E.tail.length+1=s.E.length:=by rw [List.length_tail];simp only at hb;omega
      have hn:=I.now
      refine ⟨nv_mk (s':={ s with now:=s.now-1,E:=s.E.tail }) I hq (by show s.now-1=(s.E.tail.length:Int);omega) (by simp only [nvPn,nvLv];omega) (fun v=>.inl (by have:=le1_tail (l:=s.E) (v:=v);simp only [nvCn];omega)) (fun e he=>I.el e (List.mem_of_mem_tail he)) I.most I.pk I.w (by show s.E.tail.length+bin=s.E.length+(bin-1);omega) ⟨rfl,fun n h=>(by cases h),fun n p h=>(by cases h),fun m h=>(by cases h),fun a h=>(by cases h),fun h=>(by cases h)⟩,sum_step (nvφ_eq rfl rfl) hq (by simp [nvφ];omega)⟩
     ·simp only [if_neg hb0]
      exact ⟨nv_mk I hq I.now (by simp [nvPn,nvLv]) (fun v=>.inl (by simp [nvCn])) I.el I.most I.pk I.w rfl ⟨rfl,fun n h=>(by cases h),fun n p h=>(by cases h),fun m h=>(by cases h),fun a h=>(by cases h),fun h=>(by cases h)⟩,sum_step (fun _=>Nat.le_refl _) hq (by simp [nvφ];omega)⟩
end
end Go.Proofs.Ytnnpdmhmpgmpnaa
namespace Go.Proofs.Ytnnpdmhmpgmpnaa
open Go Go.PB
attribute [local irreducible] Mo Bin Eql Tr Wo Ap Wle
section
def w3 (a b c:Nat):Value:=.agg #[.int .u64 (a:Nat),.int .u64 (b:Nat),.int .u64 (c:Nat)]
def packN (a b c:Nat):Nat:=((((c*2^23)%18446744073709551616) ||| ((b*2^2)%18446744073709551616))%18446744073709551616 ||| a)%18446744073709551616
theorem packN_lt {a b c:Nat}:packN a b c<18446744073709551616:=Nat.mod_lt _ (by decide)
theorem packN_eq {a b c:Nat} (ha:a<4) (hb:b<2097152) (hc:c<2199023255552):packN a b c=c*8388608+b*4+a:=by
 unfold packN
 have h1:(c*2^23)%18446744073709551616=2^23*c:=by omega
 have h2:(b*2^2)%18446744073709551616=b*4:=by omega
 rw [h1,h2,← Nat.two_pow_add_eq_or_of_lt (i:=23) (b:=b*4) (by omega)]
 have h3:(2^23*c+b*4)%18446744073709551616=2^2*(c*2097152+b):=by omega
 rw [h3,← Nat.two_pow_add_eq_or_of_lt (i:=2) (b:=a) (by omega)]
 omega
section
variable {B:Hand} [Lets B] {L F:List HProp} {x:B.X} {w:Nat}
theorem apart_tr (hw:w<18446744073709551616):Tr Try.prog B 49 [.int .u64 (w:Nat)] L x fun v L' x'=>v=w3 (w%4) (w/4%2097152) (w/8388608)∧L'=L∧x'=x:=by
 refine Tr.post (R:=fun v L' x'=>v=w3 (w%4) (w/4%2097152) (w/8388608)∧x'=x∧∀ h,Star L' h→Star L h) ?_ (by rintro v L' x' ⟨rfl,rfl,hs⟩;exact ⟨L,⟨rfl,rfl,rfl⟩,hs⟩)
 have a1:IntKind.u64.wrap (BitVec.ofInt IntKind.u64.bits (w:Int) &&& BitVec.ofInt IntKind.u64.bits (3:Int)).toNat=((w%4:Nat):Int):=by
  rw [show (3:Int)=((3:Nat):Int) from rfl,and_u64' hw (by omega),show w &&& 3=w%4 from Nat.and_two_pow_sub_one_eq_mod w 2];omega
 have s1:(w:Int).fdiv (2^(min (2:Int).toNat IntKind.u64.bits))=((w/4:Nat):Int):=by
  have:=u64_shr (a:=w) (n:=2) (by omega) hw
  rw [show ((2:Nat):Int)=2 from rfl] at this
  rw [this];omega
 have s2:(w:Int).fdiv (2^(min (23:Int).toNat IntKind.u64.bits))=((w/8388608:Nat):Int):=by
  have:=u64_shr (a:=w) (n:=23) (by omega) hw
  rw [show ((23:Nat):Int)=23 from rfl] at this
  rw [this];omega
 have a2:IntKind.u64.wrap (BitVec.ofInt IntKind.u64.bits ((w/4:Nat):Int) &&& BitVec.ofInt IntKind.u64.bits (2097151:Int)).toNat=((w/4%2097152:Nat):Int):=by
  rw [show (2097151:Int)=((2097151:Nat):Int) from rfl,and_u64' (by omega) (by omega),show w/4 &&& 2097151=w/4%2097152 from Nat.and_two_pow_sub_one_eq_mod (w/4) 21];omega
 refine tr_of_body Try.func49 rfl Try.ntmps49 (by simp) fun um Q _ hQ=>?_
 simp only [argE,Nat.zero_add,Nat.reduceAdd]
 repeat (first | (apply wo_mo;apply mo_alloc;exact trivial) | refine we_seq ?_ | (refine wR ?_;try simp only [oS]))
 rintro v' L' ⟨cb,rfl,rfl⟩
 repeat (first | (apply wo_po;apply mo_bin;exact rfl;exact rfl;apply bin_and;(first | exact a1 | exact a2);exact trivial) | (apply wo_po;apply mo_bin;exact rfl;exact rfl;apply bin_shr;omega;(first | exact s1 | exact s2);exact trivial) | (apply wo_po;apply mo_buildV;(repeat (first | exact EvL.nil | apply EvL.cons rfl));exact rfl;exact trivial) | (apply wo_pm;apply mo_storeA (c:=0) (k:=0) (a:=0) (vs:=[.int .u64 0,.int .u64 0,.int .u64 0]);exact rfl;exact rfl;exact rfl;(intro w hw;simp [Value.cells] at hw;rcases hw with rfl | rfl | rfl <;> rfl);exact rfl;exact Nat.le_refl 3;exact .here;exact trivial) | refine we_seq ?_ | (refine wR ?_;try simp only [oS]) | refine wo_nil ?_ | refine wM ?_ | refine we_ret ?_)
 refine at_leaveM (rs:=[.cell 2 128]) Try.func49 Try.results49 hQ (.inl rfl) (.cons (.cell (vs:=[.int .u64 ((w%4:Nat):Int),.int .u64 ((w/4%2097152:Nat):Int),.int .u64 ((w/8388608:Nat):Int)]) rfl rfl (Rds.all .here)) .nil) ?_
 exact ⟨rfl,rfl,fun h st=>star_drop st⟩
theorem packed_tr {a b c:Nat} (ha:a<18446744073709551616) (hb:b<18446744073709551616) (hc:c<18446744073709551616):Tr Try.prog B 74 [w3 a b c] L x fun v L' x'=>v=.int .u64 (packN a b c:Nat)∧L'=L∧x'=x:=by
 refine Tr.post (R:=fun v L' x'=>v=.int .u64 (packN a b c:Nat)∧x'=x∧∀ h,Star L' h→Star L h) ?_ (by rintro v L' x' ⟨rfl,rfl,hs⟩;exact ⟨L,⟨rfl,rfl,rfl⟩,hs⟩)
 have s1:IntKind.u64.wrap ((c:Int)*2^(min (23:Int).toNat IntKind.u64.bits))=(((c*2^23)%18446744073709551616:Nat):Int):=u64_shl (n:=23) (by omega)
 have s2:IntKind.u64.wrap ((b:Int)*2^(min (2:Int).toNat IntKind.u64.bits))=(((b*2^2)%18446744073709551616:Nat):Int):=u64_shl (n:=2) (by omega)
 have o1:=or_u64 (a:=(c*2^23)%18446744073709551616) (b:=(b*2^2)%18446744073709551616) (Nat.mod_lt _ (by decide)) (Nat.mod_lt _ (by decide))
 have o2:=or_u64 (a:=(((c*2^23)%18446744073709551616) ||| ((b*2^2)%18446744073709551616))%18446744073709551616) (b:=a) (Nat.mod_lt _ (by decide)) ha
 refine tr_of_body Try.func74 rfl Try.ntmps74 (by simp) fun um Q _ hQ=>?_
 simp only [argE,Nat.zero_add,Nat.reduceAdd]
 repeat (first | (apply wo_mo;apply mo_box;exact rfl;exact trivial) | refine we_seq ?_ | (refine wR ?_;try simp only [oS]))
 rintro v' L' ⟨cb,rfl,rfl⟩
 refine wo_ent (arr cb 0 [.int .u64 (a:Nat),.int .u64 (b:Nat),.int .u64 (c:Nat)]::L) .refl ?_
 repeat (first | (apply wo_po;apply mo_bin;exact rfl;exact rfl;apply bin_or;(first | exact o1 | exact o2);exact trivial) | (apply wo_po;apply mo_bin;exact rfl;exact rfl;apply bin_shl;omega;(first | exact s1 | exact s2);exact trivial) | refine we_seq ?_ | (refine wR ?_;try simp only [oS]) | refine wo_nil ?_ | refine wA ?_ | refine wD ?_ | refine wL ?_ | refine we_ret ?_)
 (first | refine or1 Try.func74 Try.results74 hQ rfl ?_ | refine on1 Try.func74 Try.results74 hQ rfl ?_)
 exact ⟨rfl,rfl,fun h st=>star_drop st⟩
end
end
section
structure GaugeAt {B:Hand} {gv:Value} (A:Acc B gv) (r limit:Nat):Prop where
 lo:1≤limit
 hi:limit≤1048576
 hdr:∀ s,Rd [A.C s] r 0 (.int .u64 (limit:Nat))
 a:∀ w,w<2→A.addr w=(r,1+w)
structure BreakerAt {B:Hand} {gv:Value} (A:Acc B gv) (r fails wait:Nat):Prop where
 lo:1≤fails
 hi:fails≤1048576
 whi:wait≤1099511627776
 hdr:∀ s,Rd [A.C s] r 0 (.int .u64 (fails:Nat))
 hdw:∀ s,Rd [A.C s] r 1 (.int .u64 (wait:Nat))
 a:A.addr 0=(r,2)
section
variable {B:Hand} [Lets B] {gv:Value} {A:Acc B gv} {r limit fails wait:Nat} {L F:List HProp}
theorem step_tr {op:Int} {w:Nat} {s:A.S} {T:A.S→Prop} (hs:A.step op w s T) (hh:Has L (A.C s) F) :
  Tr Try.prog B 48 [gv,.int .u8 op,.int .i64 w] L (A.x s) fun v L' x'=>∃ s',T s'∧v=.tuple #[]∧L'=A.C s'::F∧x'=A.x s':=by
 rcases A.gate with ⟨rfl,hg⟩ | ⟨t,p,f,rfl,hm,he,hg⟩
 ·refine tr_of_body Try.func48 rfl Try.ntmps48 (by simp) fun um Q _ hQ=>?_
  simp only [argE,Nat.zero_add,Nat.reduceAdd]
  repeat (first | refine we_seq ?_ | (refine wR ?_;try simp only [oS]) | refine wo_nil ?_ | refine wM ?_ | (apply wo_po;apply mo_bin;exact rfl;exact rfl;apply bin_ne;apply eql_nil_nil;exact gY) | refine wF ?_ | refine we_skip ?_)
  refine at_ent _ (Ent.take hh .refl) ?_
  (first | refine or0 Try.func48 Try.results48 hQ ?_ | refine on0 Try.func48 Try.results48 hQ ?_)
  exact ⟨s,hg _ _ _ _ hs,rfl,rfl,rfl⟩
 ·refine tr_of_body Try.func48 rfl Try.ntmps48 (by simp) fun um Q _ hQ=>?_
  simp only [argE,Nat.zero_add,Nat.reduceAdd]
  repeat (first | (apply wo_po;apply mo_build (pv:=[(0,_),(1,_)]);exact rfl;exact .cons rfl (.cons rfl .nil);exact rfl;exact trivial) | refine we_seq ?_ | (refine wR ?_;try simp only [oS]) | refine wo_nil ?_ | refine wM ?_ | (apply wo_po;apply mo_bin;exact rfl;exact rfl;apply bin_ne;apply eql_iface_nil;exact gY) | refine wT ?_)
  refine wo_invoke (args:=[_]) rfl (.cons rfl .nil) trivial (hg op w s T L F hs hh) ?_
  rintro v L' x' ⟨s',h1,rfl,rfl,rfl⟩
  repeat (first | refine wo_nil ?_)
  (first | refine or0 Try.func48 Try.results48 hQ ?_ | refine on0 Try.func48 Try.results48 hQ ?_)
  exact ⟨s',h1,rfl,rfl,rfl⟩
theorem none_tr (R:GaugeAt A r limit) {s:A.S} (hh:Has L (A.C s) F) :
  Tr Try.prog B 52 [.pointer (some ⟨r,0,none⟩)] L (A.x s) fun v L' x'=>v=.bool false∧L'=L∧x'=A.x s:=by
 have hr:=Rd.of hh (R.hdr s)
 have h1:=R.lo
 refine tr_of_body Try.func52 rfl Try.ntmps52 (by simp) fun um Q _ hQ=>?_
 simp only [argE,Nat.zero_add,Nat.reduceAdd]
 repeat (first | (apply wo_po;apply mo_load;exact rfl;exact hr;exact rfl) | refine weqlF ?_ | refine we_seq ?_ | (refine wR ?_;try simp only [oS]) | refine wo_nil ?_ | refine wM ?_ | refine wA ?_ | refine wJ ?_ | refine wN ?_ | refine wD ?_ | (apply wo_po;apply mo_bin;exact rfl;exact rfl;apply bin_eq;apply eql_ptr_nil;exact gY) | refine we_ret ?_)
 (first | refine or1 Try.func52 Try.results52 hQ rfl ?_ | refine on1 Try.func52 Try.results52 hQ rfl ?_)
 exact ⟨rfl,rfl,rfl⟩
theorem bnone_tr (R:BreakerAt A r fails wait) {s:A.S} (hh:Has L (A.C s) F) :
  Tr Try.prog B 44 [.pointer (some ⟨r,0,none⟩)] L (A.x s) fun v L' x'=>v=.bool false∧L'=L∧x'=A.x s:=by
 have hr:=Rd.of hh (R.hdr s)
 have h1:=R.lo
 refine tr_of_body Try.func44 rfl Try.ntmps44 (by simp) fun um Q _ hQ=>?_
 simp only [argE,Nat.zero_add,Nat.reduceAdd]
 repeat (first | (apply wo_po;apply mo_load;exact rfl;exact hr;exact rfl) | refine weqlF ?_ | refine we_seq ?_ | (refine wR ?_;try simp only [oS]) | refine wo_nil ?_ | refine wM ?_ | refine wA ?_ | refine wJ ?_ | refine wN ?_ | refine wD ?_ | (apply wo_po;apply mo_bin;exact rfl;exact rfl;apply bin_eq;apply eql_ptr_nil;exact gY) | refine we_ret ?_)
 (first | refine or1 Try.func44 Try.results44 hQ rfl ?_ | refine on1 Try.func44 Try.results44 hQ rfl ?_)
 exact ⟨rfl,rfl,rfl⟩
theorem load_tr (R:GaugeAt A r limit) {w:Nat} (hw:w<2) {s:A.S} {Q:Nat→A.S→Prop} (hs:A.step 1 w s fun s=>A.load w s Q) (hh:Has L (A.C s) F) :
  Tr Try.prog B 53 [.pointer (some ⟨r,0,none⟩),gv,.int .i64 (w:Nat)] L (A.x s) fun v L' x'=>∃ n s',n<18446744073709551616∧Q n s'∧v=.int .u64 (n:Nat)∧L'=A.C s'::F∧x'=A.x s':=by
 refine tr_of_body Try.func53 rfl Try.ntmps53 (by simp) fun um Q _ hQ=>?_
 simp only [argE,Nat.zero_add,Nat.reduceAdd]
 repeat (first | refine we_seq ?_ | (refine wR ?_;try simp only [oS]) | refine wo_nil ?_ | refine wM ?_ | refine wA ?_)
 refine wo_call (.cons rfl (.cons rfl (.cons rfl .nil))) trivial (step_tr hs hh) ?_
 rintro v1 L1 x1 ⟨s1,h1,rfl,rfl,rfl⟩
 repeat (first | (apply wo_po;apply mo_indexArr1 (j:=w);exact rfl;exact rfl;omega;exact trivial) | refine we_seq ?_ | (refine wR ?_;try simp only [oS]) | refine wo_nil ?_ | refine wM ?_ | refine wN ?_ | refine wD ?_)
 refine wo_call (.cons rfl .nil) trivial (A.load_ok _ _ _ _ _ _ _ (R.a w hw) h1 .here) ?_
 rintro v1 L1 x1 ⟨n,s2,hn,h2,rfl,rfl,rfl⟩
 repeat (first | refine wo_nil ?_ | refine wA ?_ | refine we_ret ?_)
 (first | refine or1 Try.func53 Try.results53 hQ rfl ?_ | refine on1 Try.func53 Try.results53 hQ rfl ?_)
 exact ⟨n,s2,hn,h2,rfl,rfl,rfl⟩
theorem swap_tr (R:GaugeAt A r limit) {w a b:Nat} (hw:w<2) (hb:b<18446744073709551616) {s:A.S} {Q:Bool→A.S→Prop} (hs:A.step 5 w s fun s=>A.cas w a b s Q) (hh:Has L (A.C s) F) :
  Tr Try.prog B 54 [.pointer (some ⟨r,0,none⟩),gv,.int .i64 (w:Nat),.int .u64 (a:Nat),.int .u64 (b:Nat)] L (A.x s) fun v L' x'=>∃ q s',Q q s'∧v=.bool q∧L'=A.C s'::F∧x'=A.x s':=by
 refine tr_of_body Try.func54 rfl Try.ntmps54 (by simp) fun um Q _ hQ=>?_
 simp only [argE,Nat.zero_add,Nat.reduceAdd]
 repeat (first | refine we_seq ?_ | (refine wR ?_;try simp only [oS]) | refine wo_nil ?_ | refine wM ?_ | refine wA ?_)
 refine wo_call (.cons rfl (.cons rfl (.cons rfl .nil))) trivial (step_tr hs hh) ?_
 rintro v1 L1 x1 ⟨s1,h1,rfl,rfl,rfl⟩
 repeat (first | (apply wo_po;apply mo_indexArr1 (j:=w);exact rfl;exact rfl;omega;exact trivial) | refine we_seq ?_ | (refine wR ?_;try simp only [oS]) | refine wo_nil ?_ | refine wM ?_ | refine wN ?_ | refine wD ?_)
 refine wo_call (.cons rfl (.cons rfl (.cons rfl .nil))) trivial (A.cas_ok _ _ _ _ _ _ _ _ _ (R.a w hw) hb h1 .here) ?_
 rintro v1 L1 x1 ⟨q,s2,h2,rfl,rfl,rfl⟩
 repeat (first | refine wo_nil ?_ | refine wA ?_ | refine we_ret ?_)
 (first | refine or1 Try.func54 Try.results54 hQ rfl ?_ | refine on1 Try.func54 Try.results54 hQ rfl ?_)
 exact ⟨q,s2,h2,rfl,rfl,rfl⟩
def Enter2F (A:Acc B gv) (n:Nat) (Q:Bool→A.S→Prop) (X:A.S→Prop) (s:A.S):Prop :=
 A.step 1 1 s fun s=>A.load 1 s fun p s=>if n<p then Q true s else A.step 5 1 s fun s=>A.cas 1 p ((n+1)%18446744073709551616) s fun c s=>if c then Q true s else X s
def Enter2T (A:Acc B gv) (n:Nat) (Q:Bool→A.S→Prop) (s:A.S):Prop:=∀ X:A.S→Prop,(∀ s,Enter2F A n Q X s→X s)→X s
def Enter1F (A:Acc B gv) (limit:Nat) (Q:Bool→A.S→Prop) (X:Nat × A.S→Prop) (y:Nat × A.S):Prop :=
 y.1<18446744073709551616∧if limit≤y.1 then Q false y.2 else A.step 5 0 y.2 fun s=>A.cas 0 y.1 ((y.1+1)%18446744073709551616) s fun c s=>if c then Enter2T A y.1 Q s else A.step 1 0 s fun s=>A.load 0 s fun n s=>n<18446744073709551616→X (n,s)
def EnterT (A:Acc B gv) (limit:Nat) (s:A.S) (Q:Bool→A.S→Prop):Prop :=
 A.step 1 0 s fun s=>A.load 0 s fun n s=>n<18446744073709551616→∀ X:Nat × A.S→Prop,(∀ y,Enter1F A limit Q X y→X y)→X (n,s)
theorem enter_tr (R:GaugeAt A r limit) {s:A.S} {G:Bool→A.S→Prop} (hs:EnterT A limit s G) (hh:Has L (A.C s) F) :
  Tr Try.prog B 19 [.pointer (some ⟨r,0,none⟩),gv] L (A.x s) fun v L' x'=>∃ q s',G q s'∧v=.tuple #[.bool q,.int .i64 0]∧L'=A.C s'::F∧x'=A.x s':=by
 have hlo:=R.lo
 have hhi:=R.hi
 refine tr_of_body Try.func19 rfl Try.ntmps19 (by simp) fun um Q _ hQ=>?_
 simp only [argE,Nat.zero_add,Nat.reduceAdd]
 repeat (first | refine we_seq ?_ | (refine wR ?_;try simp only [oS]) | refine wo_nil ?_ | refine wM ?_ | refine wA ?_)
 refine wo_call (.cons rfl .nil) trivial (none_tr R hh) ?_
 rintro v1 L1 x1 ⟨rfl,rfl,rfl⟩
 repeat (first | refine we_seq ?_ | (refine wR ?_;try simp only [oS]) | refine wo_nil ?_ | refine wM ?_ | refine wF ?_ | refine we_skip ?_)
 refine wo_call (.cons rfl (.cons rfl (.cons rfl .nil))) trivial (load_tr R (w:=0) (by omega) hs hh) ?_
 rintro v1 L1 x1 ⟨n,s1,hn,h1,rfl,rfl,rfl⟩
 repeat (first | refine we_seq ?_ | refine wo_nil ?_ | refine wA ?_)
 refine we_block ?_
 refine we_lfpE (Enter1F A limit G) (fun y=>A.C y.2::F) (fun y=>A.x y.2) (fun y=>[(0,.pointer (some ⟨r,0,none⟩)),(1,gv),(6,.int .u64 (y.1:Nat))]) (n,s1) (h1 hn) ⟨rfl,rfl,rfl,trivial⟩ .refl rfl ?_
 clear h1 hn hs
 rintro ⟨n,s1⟩ ⟨hn,h1⟩
 dsimp only at hn h1 ⊢
 have hr:Rd (A.C s1::F) r 0 (.int .u64 (limit:Nat)):=Rd.of .here (R.hdr s1)
 by_cases c1:limit≤n
 ·rw [if_pos c1] at h1
  repeat (first | (apply wo_po;apply mo_load;exact rfl;exact hr;exact trivial) | refine wgeqT ?_ | refine we_seq ?_ | (refine wR ?_;try simp only [oS]) | refine wo_nil ?_ | refine wM ?_ | refine wA ?_ | refine wN ?_ | refine wD ?_ | refine wT ?_ | refine we_ret ?_ | refine we_block ?_)
  (first | refine or2 Try.func19 Try.results19 hQ rfl rfl ?_ | refine on2 Try.func19 Try.results19 hQ rfl rfl ?_)
  exact ⟨false,s1,h1,rfl,rfl,rfl⟩
 ·rw [if_neg c1] at h1
  have hadd:IntKind.u64.wrap ((n:Int)+1)=(((n+1)%18446744073709551616:Nat):Int):=by rw [wrap_u64_mod];omega
  repeat (first | (apply wo_po;apply mo_load;exact rfl;exact hr;exact trivial) | (apply wo_po;apply mo_bin;exact rfl;exact rfl;apply bin_add;exact hadd;exact trivial) | refine wgeqF ?_ | refine we_seq ?_ | (refine wR ?_;try simp only [oS]) | refine wo_nil ?_ | refine wM ?_ | refine wN ?_ | refine wD ?_ | refine wF ?_ | refine we_skip ?_ | refine we_block ?_)
  refine wo_call (.cons rfl (.cons rfl (.cons rfl (.cons rfl (.cons rfl .nil))))) trivial (swap_tr R (w:=0) (by omega) (Nat.mod_lt _ (by decide)) h1 .here) ?_
  rintro v1 L1 x1 ⟨q,s2,h2,rfl,rfl,rfl⟩
  cases q
  ·simp only [Bool.false_eq_true,if_false] at h2
   repeat (first | (refine wR ?_;try simp only [oS]) | refine wo_nil ?_ | refine wM ?_ | refine wF ?_ | refine we_skip ?_)
   refine wo_call (.cons rfl (.cons rfl (.cons rfl .nil))) trivial (load_tr R (w:=0) (by omega) h2 .here) ?_
   rintro v1 L1 x1 ⟨m,s3,hm,h3,rfl,rfl,rfl⟩
   repeat (first | refine wo_nil ?_ | refine wA ?_)
   exact at_again (h3 hm) ⟨rfl,rfl,rfl,trivial⟩ .refl
  ·simp only [if_true] at h2
   repeat (first | refine wo_nil ?_ | refine wT ?_ | refine we_exit ?_)
   refine we_block ?_
   refine we_lfp (Enter2F A n G) (fun s=>A.C s::F) A.x s2 h2 [(0,.pointer (some ⟨r,0,none⟩)),(1,gv),(6,.int .u64 (n:Nat))] ⟨rfl,rfl,rfl,trivial⟩ .refl rfl ?_
   clear h2 h1
   intro s2 h2
   repeat (first | refine we_seq ?_ | (refine wR ?_;try simp only [oS]) | refine wM ?_ | refine we_block ?_)
   refine wo_call (.cons rfl (.cons rfl (.cons rfl .nil))) trivial (load_tr R (w:=1) (by omega) h2 .here) ?_
   rintro v1 L1 x1 ⟨p,s3,hp,h3,rfl,rfl,rfl⟩
   by_cases c2:n<p
   ·rw [if_pos c2] at h3
    repeat (first | refine wgtrT ?_ | refine we_seq ?_ | (refine wR ?_;try simp only [oS]) | refine wo_nil ?_ | refine wM ?_ | refine wA ?_ | (apply wo_no;exact rfl) | refine wK ?_ | refine wT ?_ | refine we_ret ?_)
    (first | refine or2 Try.func19 Try.results19 hQ rfl rfl ?_ | refine on2 Try.func19 Try.results19 hQ rfl rfl ?_)
    exact ⟨true,s3,h3,rfl,rfl,rfl⟩
   ·rw [if_neg c2] at h3
    repeat (first | (apply wo_po;apply mo_bin;exact rfl;exact rfl;apply bin_add;exact hadd;exact gY) | refine wgtrF ?_ | refine we_seq ?_ | (refine wR ?_;try simp only [oS]) | refine wo_nil ?_ | refine wM ?_ | refine wA ?_)
    refine wo_call (.cons rfl (.cons rfl (.cons rfl (.cons rfl (.cons rfl .nil))))) rfl (swap_tr R (w:=1) (by omega) (Nat.mod_lt _ (by decide)) h3 .here) ?_
    rintro v1 L1 x1 ⟨q,s4,h4,rfl,rfl,rfl⟩
    cases q
    ·simp only [Bool.false_eq_true,if_false] at h4
     repeat (first | refine wo_nil ?_ | refine wJ ?_ | refine wF ?_ | refine we_skip ?_)
     exact at_again h4 ⟨rfl,rfl,rfl,trivial⟩ .refl
    ·simp only [if_true] at h4
     repeat (first | refine we_seq ?_ | (refine wR ?_;try simp only [oS]) | refine wo_nil ?_ | refine wA ?_ | refine wJ ?_ | refine wT ?_ | refine we_ret ?_)
     (first | refine or2 Try.func19 Try.results19 hQ rfl rfl ?_ | refine on2 Try.func19 Try.results19 hQ rfl rfl ?_)
     exact ⟨true,s4,h4,rfl,rfl,rfl⟩
def LeaveF (A:Acc B gv) (Q:Nat→A.S→Prop) (X:A.S→Prop) (s:A.S):Prop :=
 A.step 1 0 s fun s=>A.load 0 s fun n s=>if n=0 then Q 3 s else A.step 5 0 s fun s=>A.cas 0 n ((n+18446744073709551616-1)%18446744073709551616) s fun c s=>if c then Q 0 s else X s
def LeaveT (A:Acc B gv) (s:A.S) (Q:Nat→A.S→Prop):Prop:=∀ X:A.S→Prop,(∀ s,LeaveF A Q X s→X s)→X s
theorem leave_tr (R:GaugeAt A r limit) {s:A.S} {G:Nat→A.S→Prop} (hs:LeaveT A s G) (hh:Has L (A.C s) F) :
  Tr Try.prog B 21 [.pointer (some ⟨r,0,none⟩),gv] L (A.x s) fun v L' x'=>∃ q s',G q s'∧v=.int .i64 (q:Nat)∧L'=A.C s'::F∧x'=A.x s':=by
 refine tr_of_body Try.func21 rfl Try.ntmps21 (by simp) fun um Q _ hQ=>?_
 simp only [argE,Nat.zero_add,Nat.reduceAdd]
 repeat (first | refine we_seq ?_ | (refine wR ?_;try simp only [oS]) | refine wo_nil ?_ | refine wM ?_ | refine wA ?_)
 refine wo_call (.cons rfl .nil) trivial (none_tr R hh) ?_
 rintro v1 L1 x1 ⟨rfl,rfl,rfl⟩
 repeat (first | refine wo_nil ?_ | refine wF ?_ | refine we_skip ?_ | refine we_block ?_)
 refine we_lfp (LeaveF A G) (fun s=>A.C s::F) A.x s hs [(0,.pointer (some ⟨r,0,none⟩)),(1,gv)] ⟨rfl,rfl,trivial⟩ (.take hh .refl) rfl ?_
 clear hs hh
 intro s hs
 repeat (first | refine we_seq ?_ | (refine wR ?_;try simp only [oS]) | refine wM ?_ | refine we_block ?_)
 refine wo_call (.cons rfl (.cons rfl (.cons rfl .nil))) trivial (load_tr R (w:=0) (by omega) hs .here) ?_
 rintro v1 L1 x1 ⟨n,s1,hn,h1,rfl,rfl,rfl⟩
 by_cases c1:n=0
 ·subst c1
  simp only [if_true] at h1
  repeat (first | refine weqlT ?_ | refine we_seq ?_ | (refine wR ?_;try simp only [oS]) | refine wo_nil ?_ | refine wM ?_ | refine wA ?_ | refine wT ?_ | refine we_ret ?_)
  (first | refine or1 Try.func21 Try.results21 hQ rfl ?_ | refine on1 Try.func21 Try.results21 hQ rfl ?_)
  exact ⟨3,s1,h1,rfl,rfl,rfl⟩
 ·rw [if_neg c1] at h1
  have hsub:IntKind.u64.wrap ((n:Int)-1)=(((n+18446744073709551616-1)%18446744073709551616:Nat):Int):=by rw [wrap_u64_mod];omega
  repeat (first | (apply wo_po;apply mo_bin;exact rfl;exact rfl;apply bin_sub;exact hsub;exact trivial) | refine weqlF ?_ | refine we_seq ?_ | (refine wR ?_;try simp only [oS]) | refine wo_nil ?_ | refine wM ?_ | refine wA ?_ | refine wF ?_ | refine we_skip ?_)
  refine wo_call (.cons rfl (.cons rfl (.cons rfl (.cons rfl (.cons rfl .nil))))) trivial (swap_tr R (w:=0) (by omega) (Nat.mod_lt _ (by decide)) h1 .here) ?_
  rintro v1 L1 x1 ⟨q,s2,h2,rfl,rfl,rfl⟩
  cases q
  ·simp only [Bool.false_eq_true,if_false] at h2
   repeat (first | refine wo_nil ?_ | refine wF ?_ | refine we_skip ?_)
   exact at_again h2 ⟨rfl,rfl,trivial⟩ .refl
  ·simp only [if_true] at h2
   repeat (first | refine we_seq ?_ | (refine wR ?_;try simp only [oS]) | refine wo_nil ?_ | refine wA ?_ | refine wT ?_ | refine we_ret ?_)
   (first | refine or1 Try.func21 Try.results21 hQ rfl ?_ | refine on1 Try.func21 Try.results21 hQ rfl ?_)
   exact ⟨0,s2,h2,rfl,rfl,rfl⟩
def GetT (A:Acc B gv) (s:A.S) (Q:Nat→Nat→A.S→Prop):Prop :=
 A.step 1 0 s fun s=>A.load 0 s fun a s=>A.step 1 1 s fun s=>A.load 1 s fun b s=>Q a b s
theorem get_tr (R:GaugeAt A r limit) {s:A.S} {Q:Nat→Nat→A.S→Prop} (hs:GetT A s Q) (hh:Has L (A.C s) F) :
  Tr Try.prog B 20 [.pointer (some ⟨r,0,none⟩),gv] L (A.x s) fun v L' x'=>∃ a b s',Q a b s'∧a<18446744073709551616∧b<18446744073709551616∧v=.tuple #[.int .u64 (a:Nat),.int .u64 (b:Nat),.int .i64 0]∧L'=A.C s'::F∧x'=A.x s':=by
 refine tr_of_body Try.func20 rfl Try.ntmps20 (by simp) fun um Q _ hQ=>?_
 simp only [argE,Nat.zero_add,Nat.reduceAdd]
 repeat (first | refine we_seq ?_ | (refine wR ?_;try simp only [oS]) | refine wo_nil ?_ | refine wM ?_ | refine wA ?_)
 refine wo_call (.cons rfl .nil) trivial (none_tr R hh) ?_
 rintro v1 L1 x1 ⟨rfl,rfl,rfl⟩
 repeat (first | refine we_seq ?_ | (refine wR ?_;try simp only [oS]) | refine wo_nil ?_ | refine wM ?_ | refine wF ?_ | refine we_skip ?_)
 refine wo_call (.cons rfl (.cons rfl (.cons rfl .nil))) trivial (load_tr R (w:=0) (by omega) hs hh) ?_
 rintro v1 L1 x1 ⟨a,s1,ha,h1,rfl,rfl,rfl⟩
 repeat (first | refine we_seq ?_ | (refine wR ?_;try simp only [oS]) | refine wo_nil ?_ | refine wM ?_ | refine wA ?_)
 refine wo_call (.cons rfl (.cons rfl (.cons rfl .nil))) trivial (load_tr R (w:=1) (by omega) h1 .here) ?_
 rintro v1 L1 x1 ⟨b,s2,hb,h2,rfl,rfl,rfl⟩
 repeat (first | refine wo_nil ?_ | refine wA ?_ | refine we_ret ?_)
 (first | refine or3 Try.func20 Try.results20 hQ rfl rfl rfl ?_ | refine on3 Try.func20 Try.results20 hQ rfl rfl rfl ?_)
 exact ⟨a,b,s2,h2,ha,hb,rfl,rfl,rfl⟩
theorem new_tr {x:B.X} (h1:1≤limit) (h2:limit≤1048576) :
  Tr Try.prog B 15 [.int .u64 (limit:Nat)] L x fun v L' x'=>∃ r,v=.tuple #[.pointer (some ⟨r,0,none⟩),.int .i64 0]∧L'=arr r 0 [.int .u64 (limit:Nat),.int .u64 0,.int .u64 0]::L∧x'=x:=by
 refine tr_of_body Try.func15 rfl Try.ntmps15 (by simp) fun um Q _ hQ=>?_
 simp only [argE,Nat.zero_add,Nat.reduceAdd]
 repeat (first | (apply wo_po;apply mo_build (pv:=[(0,_)]);exact rfl;exact .cons rfl .nil;exact rfl;exact trivial) | (apply wo_mo;apply mo_box;exact rfl;exact trivial) | refine wlssF ?_ | refine wgtrF ?_ | refine we_seq ?_ | (refine wR ?_;try simp only [oS]) | refine wo_nil ?_ | refine wM ?_ | refine wA ?_ | refine wJ ?_ | refine wF ?_ | refine we_skip ?_)
 rintro v' L' ⟨r,rfl,rfl⟩
 repeat (first | refine wo_nil ?_ | refine wA ?_ | refine we_ret ?_)
 (first | refine or2 Try.func15 Try.results15 hQ rfl rfl ?_ | refine on2 Try.func15 Try.results15 hQ rfl rfl ?_)
 exact ⟨r,rfl,rfl,rfl⟩
theorem newb_tr {x:B.X} (h1:1≤fails) (h2:fails≤1048576) (h3:1≤wait) (h4:wait≤1099511627776) :
  Tr Try.prog B 16 [.int .u64 (fails:Nat),.int .u64 (wait:Nat)] L x fun v L' x'=>∃ r,v=.tuple #[.pointer (some ⟨r,0,none⟩),.int .i64 0]∧L'=arr r 0 [.int .u64 (fails:Nat),.int .u64 (wait:Nat),.int .u64 0]::L∧x'=x:=by
 refine tr_of_body Try.func16 rfl Try.ntmps16 (by simp) fun um Q _ hQ=>?_
 simp only [argE,Nat.zero_add,Nat.reduceAdd]
 repeat (first | (apply wo_po;apply mo_build (pv:=[(0,_),(1,_)]);exact rfl;exact .cons rfl (.cons rfl .nil);exact rfl;exact trivial) | (apply wo_mo;apply mo_box;exact rfl;exact trivial) | refine wlssF ?_ | refine wgtrF ?_ | refine we_seq ?_ | (refine wR ?_;try simp only [oS]) | refine wo_nil ?_ | refine wM ?_ | refine wA ?_ | refine wJ ?_ | refine wF ?_ | refine we_skip ?_)
 rintro v' L' ⟨r,rfl,rfl⟩
 repeat (first | refine wo_nil ?_ | refine wA ?_ | refine we_ret ?_)
 (first | refine or2 Try.func16 Try.results16 hQ rfl rfl ?_ | refine on2 Try.func16 Try.results16 hQ rfl rfl ?_)
 exact ⟨r,rfl,rfl,rfl⟩
end
end
section
section
variable {B:Hand} [Lets B] {gv:Value} {A:Acc B gv} {r fails wait:Nat} {L F:List HProp}
def TurnF (A:Acc B gv) (G:Nat→Nat→Nat→Option (Nat × Nat × Nat)) (Q:Nat × Nat × Nat→Bool→A.S→Prop) (X:A.S→Prop) (s:A.S):Prop :=
 A.step 1 0 s fun s=>A.load 0 s fun o s=>match G (o%4) (o/4%2097152) (o/8388608) with
  | none=>Q (o%4,o/4%2097152,o/8388608) false s
  | some y=>A.step 5 0 s fun s=>A.cas 0 o (packN y.1 y.2.1 y.2.2) s fun c s=>if c then Q y true s else X s
def TurnT (A:Acc B gv) (G:Nat→Nat→Nat→Option (Nat × Nat × Nat)) (s:A.S) (Q:Nat × Nat × Nat→Bool→A.S→Prop):Prop:=∀ X:A.S→Prop,(∀ s,TurnF A G Q X s→X s)→X s
def NextTr (A:Acc B gv) (F:List HProp) (fn:FuncId) (caps:List Value) (G:Nat→Nat→Nat→Option (Nat × Nat × Nat)):Prop :=
 ∀ s (d:HProp) a b c,a<4→b<2097152→c<2199023255552→Tr Try.prog B fn ([w3 a b c]++caps) (A.C s::d::F) (A.x s) fun v L' x'=>L'=A.C s::d::F∧x'=A.x s ∧
  match G a b c with
  | none=>∃ y1 y2 y3:Nat,v=.tuple #[w3 y1 y2 y3,.bool false]
  | some y=>y.1<18446744073709551616∧y.2.1<18446744073709551616∧y.2.2<18446744073709551616∧v=.tuple #[w3 y.1 y.2.1 y.2.2,.bool true]
theorem turn_tr (R:BreakerAt A r fails wait) {fn:FuncId} {caps:List Value} {G:Nat→Nat→Nat→Option (Nat × Nat × Nat)} [Ent' Try.prog fn] (hfn:NextTr A F fn caps G) {s:A.S} {T:Nat × Nat × Nat→Bool→A.S→Prop} (hs:TurnT A G s T) (hh:Has L (A.C s) F) :
  Tr Try.prog B 45 [.pointer (some ⟨r,0,none⟩),gv,.func (.func fn) #[] caps.toArray] L (A.x s) fun v L' x'=>∃ y q s',T y q s'∧v=.tuple #[w3 y.1 y.2.1 y.2.2,.bool q]∧L'=A.C s'::F∧x'=A.x s':=by
 refine Tr.post (R:=fun v L' x'=>∃ y q s',T y q s'∧v=.tuple #[w3 y.1 y.2.1 y.2.2,.bool q]∧x'=A.x s'∧∀ h,Star L' h→Star (A.C s'::F) h) ?_ (by rintro v L' x' ⟨y,q,s',h1,rfl,rfl,hs⟩;exact ⟨_,⟨y,q,s',h1,rfl,rfl,rfl⟩,hs⟩)
 refine tr_of_body Try.func45 rfl Try.ntmps45 (by simp) fun um Q _ hQ=>?_
 simp only [argE,Nat.zero_add,Nat.reduceAdd]
 repeat (first | (apply wo_mo;apply mo_alloc;exact trivial) | refine we_seq ?_ | (refine wR ?_;try simp only [oS]))
 rintro v' L' ⟨rb,rfl,rfl⟩
 repeat (first | refine wo_nil ?_ | refine wA ?_ | refine we_block ?_)
 refine we_lfp (TurnF A G T) (fun s=>A.C s::arr rb 0 [.int .u64 0,.int .u64 0,.int .u64 0]::F) A.x s hs [(0,.pointer (some ⟨r,0,none⟩)),(1,gv),(2,.func (.func fn) #[] caps.toArray),(6,.pointer (some ⟨rb,0,none⟩))] ⟨rfl,rfl,rfl,rfl,trivial⟩ (.take (.there hh) (.take .here .refl)) rfl ?_
 clear hs hh
 intro s hs
 repeat (first | refine we_seq ?_ | (refine wR ?_;try simp only [oS]) | refine wM ?_ | refine we_block ?_)
 refine wo_call (.cons rfl (.cons rfl (.cons rfl .nil))) trivial (step_tr (w:=0) hs .here) ?_
 rintro v1 L1 x1 ⟨s1,h1,rfl,rfl,rfl⟩
 repeat (first | refine we_seq ?_ | (refine wR ?_;try simp only [oS]) | refine wo_nil ?_ | refine wM ?_ | refine wN ?_ | refine wD ?_)
 refine wo_call (.cons rfl .nil) trivial (A.load_ok _ _ _ _ _ _ _ R.a h1 .here) ?_
 rintro v1 L1 x1 ⟨o,s2,ho,h2,rfl,rfl,rfl⟩
 repeat (first | refine we_seq ?_ | (refine wR ?_;try simp only [oS]) | refine wo_nil ?_ | refine wM ?_ | refine wA ?_)
 refine wo_call (.cons rfl .nil) trivial (apart_tr ho) ?_
 rintro v1 L1 x1 ⟨rfl,rfl,rfl⟩
 skip
 refine wo_callv rfl (f:=fn) (first:=[]) (cap:=caps) rfl (.cons rfl .nil) trivial (hfn s2 _ _ _ _ (by omega) (by omega) (by omega)) ?_
 rintro v1 L1 x1 ⟨rfl,rfl,hv⟩
 cases hG:G (o%4) (o/4%2097152) (o/8388608) with
 | none =>
  rw [hG] at h2 hv
  obtain ⟨y1,y2,y3,rfl⟩:=hv
  repeat (first | (apply wo_mo;apply mo_alloc;exact trivial) | refine wM ?_ | (apply wo_po;apply mo_extract;exact rfl;exact rfl;exact gY))
  rintro v' L' ⟨cb,rfl,rfl⟩
  repeat (first | (apply wo_pm;apply mo_storeA (b:=cb) (c:=0) (k:=0) (a:=0) (vs:=[.int .u64 0,.int .u64 0,.int .u64 0]);exact rfl;exact rfl;exact rfl;(intro w hw;simp [Value.cells,w3] at hw;rcases hw with rfl | rfl | rfl <;> rfl);exact rfl;exact Nat.le_refl 3;exact .here;exact trivial) | refine we_seq ?_ | (refine wR ?_;try simp only [oS]) | refine wo_nil ?_ | refine wM ?_ | refine wA ?_ | (apply wo_po;apply mo_not;exact rfl;exact gY) | refine wT ?_)
  refine wo_call (.cons rfl .nil) trivial (apart_tr ho) ?_
  rintro v1 L1 x1 ⟨rfl,rfl,rfl⟩
  repeat (first | (apply wo_pm;apply mo_storeA (b:=rb) (c:=0) (k:=0) (a:=0) (vs:=[.int .u64 0,.int .u64 0,.int .u64 0]);exact rfl;exact rfl;exact rfl;(intro w hw;simp [Value.cells,w3] at hw;rcases hw with rfl | rfl | rfl <;> rfl);exact rfl;exact Nat.le_refl 3;exact (.there (.there .here));exact trivial) | refine wo_nil ?_ | refine wA ?_ | refine we_ret ?_)
  refine at_leaveM (rs:=[.cell 6 128,.tmp 7]) Try.func45 Try.results45 hQ (.inl rfl) (.cons (.cell (vs:=[.int .u64 ((o%4:Nat):Int),.int .u64 ((o/4%2097152:Nat):Int),.int .u64 ((o/8388608:Nat):Int)]) rfl rfl (Rds.all (.there (.there .here)))) (.cons (.tmp rfl) .nil)) ?_
  exact ⟨(o%4,o/4%2097152,o/8388608),false,s2,h2,rfl,rfl,fun h st=>Ent.star (.take (.there .here) (.drop (.drop .refl))) st⟩
 | some y =>
  rw [hG] at h2 hv
  obtain ⟨b1,b2,b3,rfl⟩:=hv
  repeat (first | (apply wo_mo;apply mo_alloc;exact trivial) | refine wM ?_ | (apply wo_po;apply mo_extract;exact rfl;exact rfl;exact gY))
  rintro v' L' ⟨cb,rfl,rfl⟩
  repeat (first | (apply wo_pm;apply mo_storeA (b:=cb) (c:=0) (k:=0) (a:=0) (vs:=[.int .u64 0,.int .u64 0,.int .u64 0]);exact rfl;exact rfl;exact rfl;(intro w hw;simp [Value.cells,w3] at hw;rcases hw with rfl | rfl | rfl <;> rfl);exact rfl;exact Nat.le_refl 3;exact .here;exact trivial) | refine we_seq ?_ | (refine wR ?_;try simp only [oS]) | refine wo_nil ?_ | refine wM ?_ | refine wA ?_ | (apply wo_po;apply mo_not;exact rfl;exact gY) | refine wF ?_ | refine we_skip ?_)
  refine wo_call (.cons rfl (.cons rfl (.cons rfl .nil))) trivial (step_tr (w:=0) h2 (.there .here)) ?_
  rintro v1 L1 x1 ⟨s3,h3,rfl,rfl,rfl⟩
  have hw:Rds (A.C s3::arr cb 0 [.int .u64 (y.1:Nat),.int .u64 (y.2.1:Nat),.int .u64 (y.2.2:Nat)]::arr rb 0 [.int .u64 0,.int .u64 0,.int .u64 0]::F) cb 0 [.int .u64 (y.1:Nat),.int .u64 (y.2.1:Nat),.int .u64 (y.2.2:Nat)]:=Rds.all (.there .here)
  refine wo_ent (A.C s3::arr cb 0 [.int .u64 (y.1:Nat),.int .u64 (y.2.1:Nat),.int .u64 (y.2.2:Nat)]::arr rb 0 [.int .u64 0,.int .u64 0,.int .u64 0]::F) .refl ?_
  repeat (first | refine we_seq ?_ | refine wo_nil ?_)
  refine we_draw (List.range' 0 7) (by kernel_rfl) ?_
  repeat (first | (apply ap_read;exact rfl;exact rfl;exact gY;apply mo_loadA (vs:=[.int .u64 (y.1:Nat),.int .u64 (y.2.1:Nat),.int .u64 (y.2.2:Nat)]);exact rfl;exact rfl;exact hw) | refine aM ?_ | refine aN ?_ | refine aD ?_)
  refine ap_callv rfl rfl rfl rfl trivial rfl rfl (.cons rfl .nil) (packed_tr b1 b2 b3) ?_
  rintro v1 L1 x1 ⟨rfl,rfl,rfl⟩
  refine ap_callv rfl rfl rfl rfl trivial rfl rfl (.cons rfl (.cons rfl (.cons rfl .nil))) (A.cas_ok _ _ _ _ _ _ _ _ _ R.a packN_lt h3 .here) ?_
  rintro v1 L1 x1 ⟨q,s4,h4,rfl,rfl,rfl⟩
  refine ap_end ?_
  cases q
  ·simp only [Bool.false_eq_true,if_false] at h4
   repeat (first | refine wF ?_ | refine we_skip ?_)
   exact at_again h4 ⟨rfl,rfl,rfl,rfl,trivial⟩ (.take .here (.drop .refl))
  ·simp only [if_true] at h4
   repeat (first | (apply wo_po;apply mo_loadA (vs:=[.int .u64 (y.1:Nat),.int .u64 (y.2.1:Nat),.int .u64 (y.2.2:Nat)]);exact rfl;exact rfl;exact Rds.all (.there .here);exact trivial) | (apply wo_pm;apply mo_storeA (b:=rb) (c:=0) (k:=0) (a:=0) (vs:=[.int .u64 0,.int .u64 0,.int .u64 0]);exact rfl;exact rfl;exact rfl;(intro w hw;simp [Value.cells,w3] at hw;rcases hw with rfl | rfl | rfl <;> rfl);exact rfl;exact Nat.le_refl 3;exact (.there (.there .here));exact trivial) | refine we_seq ?_ | (refine wR ?_;try simp only [oS]) | refine wo_nil ?_ | refine wA ?_ | refine wT ?_ | refine we_ret ?_)
   refine at_leaveM (rs:=[.cell 6 128,.tmp 7]) Try.func45 Try.results45 hQ (.inl rfl) (.cons (.cell (vs:=[.int .u64 (y.1:Nat),.int .u64 (y.2.1:Nat),.int .u64 (y.2.2:Nat)]) rfl rfl (Rds.all (.there (.there .here)))) (.cons (.tmp rfl) .nil)) ?_
   exact ⟨y,true,s4,h4,rfl,rfl,fun h st=>Ent.star (.take .here (.drop (.drop .refl))) st⟩
def askG (wait now:Nat) (a b c:Nat):Option (Nat × Nat × Nat):=if a≠0∧c+wait≤now then some (2,b,now) else none
def tellG (fails now:Nat) (good:Bool) (a b c:Nat):Option (Nat × Nat × Nat) :=
 if a=1∨(good=true∧a=0∧b=0) then none else if good=true then some (0,0,0) else if a=2 then some (1,b,now) else if b+1=fails then some (1,fails,now) else some (0,b+1,0)
end
section
variable {B:Hand} [Lets B] {gv:Value} {A:Acc B gv} {r fails wait:Nat} {L F:List HProp}
theorem ask1_tr (R:BreakerAt A r fails wait) {now nb bb:Nat} (hn:now≤1099511627776):NextTr A (arr nb 0 [.int .u64 (now:Nat)]::arr bb 0 [.pointer (some ⟨r,0,none⟩)]::F) 46 [.pointer (some ⟨nb,0,none⟩),.pointer (some ⟨bb,0,none⟩)] (askG wait now):=by
 intro s d a b c ha hb hc
 refine Tr.post (R:=fun v L' x'=>x'=A.x s∧(∀ h,Star L' h→Star (A.C s::d::arr nb 0 [.int .u64 (now:Nat)]::arr bb 0 [.pointer (some ⟨r,0,none⟩)]::F) h) ∧
  match askG wait now a b c with
  | none=>∃ y1 y2 y3:Nat,v=.tuple #[w3 y1 y2 y3,.bool false]
  | some y=>y.1<18446744073709551616∧y.2.1<18446744073709551616∧y.2.2<18446744073709551616∧v=.tuple #[w3 y.1 y.2.1 y.2.2,.bool true]) ?_ (by rintro v L' x' ⟨rfl,hs,h1⟩;exact ⟨_,⟨rfl,rfl,h1⟩,hs⟩)
 have hw:=R.whi
 have hadd:IntKind.u64.wrap ((c:Int)+(wait:Int))=((c+wait:Nat):Int):=(wrap_u64 (by omega) (by omega)).trans (by omega)
 simp only [List.cons_append,List.nil_append]
 refine tr_of_body Try.func46 rfl Try.ntmps46 (by simp) fun um Q _ hQ=>?_
 simp only [argE,Nat.zero_add,Nat.reduceAdd]
 repeat (first | (apply wo_mo;apply mo_box;exact rfl;exact trivial) | refine we_seq ?_ | (refine wR ?_;try simp only [oS]))
 rintro v' L' ⟨kb,rfl,rfl⟩
 refine wo_ent (arr kb 0 [.int .u64 (a:Nat),.int .u64 (b:Nat),.int .u64 (c:Nat)]::A.C s::d::arr nb 0 [.int .u64 (now:Nat)]::arr bb 0 [.pointer (some ⟨r,0,none⟩)]::F) .refl ?_
 repeat (first | (apply wo_mo;apply mo_alloc;exact trivial))
 rintro v' L' ⟨cb,rfl,rfl⟩
 have hwt:∀ {c1 c2:HProp},Rd (c1::c2::A.C s::d::arr nb 0 [.int .u64 (now:Nat)]::arr bb 0 [.pointer (some ⟨r,0,none⟩)]::F) r 1 (.int .u64 (wait:Nat)):=fun {c1 c2}=>Rd.there (Rd.there (Rd.of .here (R.hdw s)))
 repeat (first | refine we_seq ?_ | refine wo_nil ?_ | refine wA ?_)
 refine we_draw (List.range' 0 20) (by kernel_rfl) ?_
 by_cases c1:a=0
 ·subst c1
  repeat (first | (apply ap_pure;exact rfl;exact rfl;exact gY;intro L;apply mo_bin;exact rfl;exact rfl;apply bin_neqF;rfl) | (apply ap_pure;exact rfl;exact rfl;exact gY;intro L;apply mo_buildV;(repeat (first | exact EvL.nil | apply EvL.cons rfl));exact rfl) | refine aM ?_ | (apply ap_no;exact rfl;exact rfl;exact rfl;exact rfl) | refine aD ?_ | (apply ap_pure;exact rfl;exact rfl;exact gY;intro L;apply mo_pickF;exact rfl;exact rfl;exact rfl) | refine aL ?_)
  refine ap_loudR rfl rfl rfl rfl trivial (mo_storeA (b:=cb) (c:=0) (k:=0) (a:=0) (vs:=[.int .u64 0,.int .u64 0,.int .u64 0]) rfl rfl rfl (by intro w hw;simp [Value.cells,w3] at hw;rcases hw with rfl | rfl | rfl <;> rfl) rfl (Nat.le_refl 3) .here) ?_ ?_
  ·rintro v L' ⟨rfl,rfl⟩ p hp
   replace hp:=(List.mem_filter.1 hp).1
   simp only [List.mem_cons,List.not_mem_nil,or_false] at hp
   repeat (rcases hp with rfl | hp;· first | exact .inl rfl | exact .inr ⟨_,rfl,(by first | exact trivial | exact rfl),mo_load rfl (by repeat (first | exact hwt | exact Rd.row0 rfl | exact Rd.row rfl rfl | exact Rd.still | apply Rd.there))⟩)
  rintro v' L' ⟨rfl,rfl⟩
  repeat (first | refine aA ?_ | refine ap_end ?_)
  repeat (first | refine we_ret ?_)
  refine at_leaveM (rs:=[.cell 4 128,.tmp 5]) Try.func46 Try.results46 hQ (.inl rfl) (.cons (.cell (vs:=[.int .u64 2,.int .u64 (b:Nat),.int .u64 (now:Nat)]) rfl rfl (Rds.all .here)) (.cons (.tmp rfl) .nil)) ?_
  refine ⟨rfl,fun h st=>Ent.star (.drop (.drop .refl)) st,?_⟩
  rw [show askG wait now 0 b c=none from if_neg (fun h=>h.1 rfl)]
  exact ⟨2,b,now,rfl⟩
 ·by_cases c2:c+wait≤now
  ·repeat (first | (apply ap_pure;exact rfl;exact rfl;exact gY;intro L;apply mo_bin;exact rfl;exact rfl;apply bin_neqT;omega) | (apply ap_read;exact rfl;exact rfl;exact gY;apply mo_load;exact rfl;exact hwt) | (apply ap_pure;exact rfl;exact rfl;exact gY;intro L;apply mo_buildV;(repeat (first | exact EvL.nil | apply EvL.cons rfl));exact rfl) | (apply ap_pure;exact rfl;exact rfl;exact gY;intro L;apply mo_bin;exact rfl;exact rfl;apply bin_add;exact hadd) | (apply ap_pure;exact rfl;exact rfl;exact gY;intro L;apply mo_bin;exact rfl;exact rfl;apply bin_geqT;omega) | refine aM ?_ | refine aN ?_ | refine aD ?_ | (apply ap_pure;exact rfl;exact rfl;exact gY;intro L;apply mo_pickT;exact rfl;exact rfl;exact rfl) | refine aL ?_)
   refine ap_loudR rfl rfl rfl rfl trivial (mo_storeA (b:=cb) (c:=0) (k:=0) (a:=0) (vs:=[.int .u64 0,.int .u64 0,.int .u64 0]) rfl rfl rfl (by intro w hw;simp [Value.cells,w3] at hw;rcases hw with rfl | rfl | rfl <;> rfl) rfl (Nat.le_refl 3) .here) ?_ ?_
   ·rintro v L' ⟨rfl,rfl⟩ p hp
    replace hp:=(List.mem_filter.1 hp).1
    simp only [List.mem_cons,List.not_mem_nil,or_false] at hp
    repeat (rcases hp with rfl | hp;· first | exact .inl rfl | exact .inr ⟨_,rfl,(by first | exact trivial | exact rfl),mo_load rfl (by repeat (first | exact hwt | exact Rd.row0 rfl | exact Rd.row rfl rfl | exact Rd.still | apply Rd.there))⟩)
   rintro v' L' ⟨rfl,rfl⟩
   repeat (first | refine aA ?_ | refine ap_end ?_)
   repeat (first | refine we_ret ?_)
   refine at_leaveM (rs:=[.cell 4 128,.tmp 5]) Try.func46 Try.results46 hQ (.inl rfl) (.cons (.cell (vs:=[.int .u64 2,.int .u64 (b:Nat),.int .u64 (now:Nat)]) rfl rfl (Rds.all .here)) (.cons (.tmp rfl) .nil)) ?_
   refine ⟨rfl,fun h st=>Ent.star (.drop (.drop .refl)) st,?_⟩
   rw [show askG wait now a b c=some (2,b,now) from if_pos ⟨c1,c2⟩]
   exact ⟨by show 2<18446744073709551616;omega,by show b<_;omega,by show now<_;omega,rfl⟩
  ·repeat (first | (apply ap_pure;exact rfl;exact rfl;exact gY;intro L;apply mo_bin;exact rfl;exact rfl;apply bin_neqT;omega) | (apply ap_read;exact rfl;exact rfl;exact gY;apply mo_load;exact rfl;exact hwt) | (apply ap_pure;exact rfl;exact rfl;exact gY;intro L;apply mo_buildV;(repeat (first | exact EvL.nil | apply EvL.cons rfl));exact rfl) | (apply ap_pure;exact rfl;exact rfl;exact gY;intro L;apply mo_bin;exact rfl;exact rfl;apply bin_add;exact hadd) | (apply ap_pure;exact rfl;exact rfl;exact gY;intro L;apply mo_bin;exact rfl;exact rfl;apply bin_geqF;omega) | refine aM ?_ | refine aN ?_ | refine aD ?_ | (apply ap_pure;exact rfl;exact rfl;exact gY;intro L;apply mo_pickT;exact rfl;exact rfl;exact rfl) | refine aL ?_)
   refine ap_loudR rfl rfl rfl rfl trivial (mo_storeA (b:=cb) (c:=0) (k:=0) (a:=0) (vs:=[.int .u64 0,.int .u64 0,.int .u64 0]) rfl rfl rfl (by intro w hw;simp [Value.cells,w3] at hw;rcases hw with rfl | rfl | rfl <;> rfl) rfl (Nat.le_refl 3) .here) ?_ ?_
   ·rintro v L' ⟨rfl,rfl⟩ p hp
    replace hp:=(List.mem_filter.1 hp).1
    simp only [List.mem_cons,List.not_mem_nil,or_false] at hp
    repeat (rcases hp with rfl | hp;· first | exact .inl rfl | exact .inr ⟨_,rfl,(by first | exact trivial | exact rfl),mo_load rfl (by repeat (first | exact hwt | exact Rd.row0 rfl | exact Rd.row rfl rfl | exact Rd.still | apply Rd.there))⟩)
   rintro v' L' ⟨rfl,rfl⟩
   repeat (first | refine aA ?_ | refine ap_end ?_)
   repeat (first | refine we_ret ?_)
   refine at_leaveM (rs:=[.cell 4 128,.tmp 5]) Try.func46 Try.results46 hQ (.inl rfl) (.cons (.cell (vs:=[.int .u64 2,.int .u64 (b:Nat),.int .u64 (now:Nat)]) rfl rfl (Rds.all .here)) (.cons (.tmp rfl) .nil)) ?_
   refine ⟨rfl,fun h st=>Ent.star (.drop (.drop .refl)) st,?_⟩
   rw [show askG wait now a b c=none from if_neg (fun h=>c2 h.2)]
   exact ⟨2,b,now,rfl⟩
end
end
section
section
variable {B:Hand} [Lets B] {gv:Value} {A:Acc B gv} {r fails wait:Nat} {L F:List HProp}
theorem tell1_tr (R:BreakerAt A r fails wait) {now gb nb bb:Nat} {good:Bool} (hn:now≤1099511627776):NextTr A (arr gb 0 [.bool good]::arr nb 0 [.int .u64 (now:Nat)]::arr bb 0 [.pointer (some ⟨r,0,none⟩)]::F) 47 [.pointer (some ⟨gb,0,none⟩),.pointer (some ⟨nb,0,none⟩),.pointer (some ⟨bb,0,none⟩)] (tellG fails now good):=by
 intro s d a b c ha hb hc
 refine Tr.post (R:=fun v L' x'=>x'=A.x s∧(∀ h,Star L' h→Star (A.C s::d::arr gb 0 [.bool good]::arr nb 0 [.int .u64 (now:Nat)]::arr bb 0 [.pointer (some ⟨r,0,none⟩)]::F) h) ∧
  match tellG fails now good a b c with
  | none=>∃ y1 y2 y3:Nat,v=.tuple #[w3 y1 y2 y3,.bool false]
  | some y=>y.1<18446744073709551616∧y.2.1<18446744073709551616∧y.2.2<18446744073709551616∧v=.tuple #[w3 y.1 y.2.1 y.2.2,.bool true]) ?_ (by rintro v L' x' ⟨rfl,hs,h1⟩;exact ⟨_,⟨rfl,rfl,h1⟩,hs⟩)
 have hw:=R.whi
 have hfh:=R.hi
 have hadd:IntKind.u64.wrap ((b:Int)+1)=((b+1:Nat):Int):=(wrap_u64 (by omega) (by omega)).trans (by omega)
 simp only [List.cons_append,List.nil_append]
 refine tr_of_body Try.func47 rfl Try.ntmps47 (by simp) fun um Q _ hQ=>?_
 simp only [argE,Nat.zero_add,Nat.reduceAdd]
 repeat (first | (apply wo_mo;apply mo_box;exact rfl;exact trivial) | refine we_seq ?_ | (refine wR ?_;try simp only [oS]))
 rintro v' L' ⟨kb,rfl,rfl⟩
 refine wo_ent (arr kb 0 [.int .u64 (a:Nat),.int .u64 (b:Nat),.int .u64 (c:Nat)]::A.C s::d::arr gb 0 [.bool good]::arr nb 0 [.int .u64 (now:Nat)]::arr bb 0 [.pointer (some ⟨r,0,none⟩)]::F) .refl ?_
 repeat (first | (apply wo_mo;apply mo_alloc;exact trivial))
 rintro v' L' ⟨cb,rfl,rfl⟩
 have hft:∀ {c1 c2:HProp},Rd (c1::c2::A.C s::d::arr gb 0 [.bool good]::arr nb 0 [.int .u64 (now:Nat)]::arr bb 0 [.pointer (some ⟨r,0,none⟩)]::F) r 0 (.int .u64 (fails:Nat)):=fun {c1 c2}=>Rd.there (Rd.there (Rd.of .here (R.hdr s)))
 by_cases c1:a=1
 ·have hG:tellG fails now good a b c=none:=if_pos (.inl c1)
  repeat (first | (apply wo_po;apply mo_loadA (vs:=[.int .u64 (a:Nat),.int .u64 (b:Nat),.int .u64 (c:Nat)]);exact rfl;exact rfl;exact Rds.all (.there .here);exact trivial) | (apply wo_pm;apply mo_storeA (b:=cb) (c:=0) (k:=0) (a:=0) (vs:=[.int .u64 0,.int .u64 0,.int .u64 0]);exact rfl;exact rfl;exact rfl;(intro w hw;simp [Value.cells,w3] at hw;rcases hw with rfl | rfl | rfl <;> rfl);exact rfl;exact Nat.le_refl 3;exact .here;exact trivial) | refine weqlT ?_ | refine we_seq ?_ | (refine wR ?_;try simp only [oS]) | refine wo_nil ?_ | refine wA ?_ | refine wD ?_ | refine wL ?_ | refine wT ?_ | refine we_ret ?_ | refine we_skip ?_ | refine we_block ?_)
  refine at_leaveM (rs:=[.cell 5 128,.tmp 6]) Try.func47 Try.results47 hQ (.inl rfl) (.cons (.cell (vs:=[.int .u64 (a:Nat),.int .u64 (b:Nat),.int .u64 (c:Nat)]) rfl rfl (Rds.all .here)) (.cons (.tmp rfl) .nil)) ?_
  refine ⟨rfl,fun h st=>Ent.star (.drop (.drop .refl)) st,?_⟩
  rw [hG]
  exact ⟨a,b,c,rfl⟩
 cases good
 ·have hno:¬ (a=1∨(false=true∧a=0∧b=0)):=fun h=>h.elim c1 (fun h=>by cases h.1)
  by_cases c2:a=2
  ·have hG:tellG fails now false a b c=some (1,b,now):=by unfold tellG;rw [if_neg hno,if_neg (by simp),if_pos c2]
   repeat (first | (apply wo_po;apply mo_buildV;(repeat (first | exact EvL.nil | apply EvL.cons rfl));exact rfl;exact trivial) | (apply wo_pm;apply mo_storeA (b:=cb) (c:=0) (k:=0) (a:=0) (vs:=[.int .u64 0,.int .u64 0,.int .u64 0]);exact rfl;exact rfl;exact rfl;(intro w hw;simp [Value.cells,w3] at hw;rcases hw with rfl | rfl | rfl <;> rfl);exact rfl;exact Nat.le_refl 3;exact .here;exact trivial) | refine weqlT ?_ | refine weqlF ?_ | refine we_seq ?_ | (refine wR ?_;try simp only [oS]) | refine wo_nil ?_ | refine wM ?_ | refine wA ?_ | (apply wo_no;exact rfl) | refine wJ ?_ | refine wD ?_ | refine wL ?_ | refine wT ?_ | refine wF ?_ | refine we_ret ?_ | refine we_block ?_)
   refine at_leaveM (rs:=[.cell 5 128,.tmp 6]) Try.func47 Try.results47 hQ (.inl rfl) (.cons (.cell (vs:=[.int .u64 (1:Nat),.int .u64 (b:Nat),.int .u64 (now:Nat)]) rfl rfl (Rds.all .here)) (.cons (.tmp rfl) .nil)) ?_
   refine ⟨rfl,fun h st=>Ent.star (.drop (.drop .refl)) st,?_⟩
   rw [hG]
   exact ⟨by dsimp only;omega,by dsimp only;omega,by dsimp only;omega,rfl⟩
  ·by_cases c3:b+1=fails
   ·have hG:tellG fails now false a b c=some (1,fails,now):=by unfold tellG;rw [if_neg hno,if_neg (by simp),if_neg c2,if_pos c3]
    repeat (first | refine weqlF ?_ | refine we_seq ?_ | (refine wR ?_;try simp only [oS]) | refine wo_nil ?_ | refine wM ?_ | refine wA ?_ | (apply wo_no;exact rfl) | refine wJ ?_ | refine wD ?_ | refine wL ?_ | refine wF ?_ | refine we_block ?_)
    refine we_draw (List.range' 0 9) (by kernel_rfl) ?_
    repeat (first | (apply ap_read;exact rfl;exact rfl;exact gY;apply mo_load;exact rfl;exact hft) | (apply ap_pure;exact rfl;exact rfl;exact gY;intro L;apply mo_bin;exact rfl;exact rfl;apply bin_add;exact hadd) | (apply ap_pure;exact rfl;exact rfl;exact gY;intro L;apply mo_bin;exact rfl;exact rfl;apply bin_eqlT;omega) | refine aA ?_ | refine aN ?_ | refine aD ?_ | refine aL ?_ | refine ap_end ?_)
    repeat (first | refine we_seq ?_ | refine wT ?_)
    refine we_draw (List.range' 0 8) (by kernel_rfl) ?_
    repeat (first | (apply ap_read;exact rfl;exact rfl;exact gY;apply mo_load;exact rfl;exact hft) | (apply ap_pure;exact rfl;exact rfl;exact gY;intro L;apply mo_buildV;(repeat (first | exact EvL.nil | apply EvL.cons rfl));exact rfl) | refine aN ?_ | refine aD ?_ | refine aL ?_)
    refine ap_loud rfl rfl rfl rfl rfl trivial (mo_storeA (b:=cb) (c:=0) (k:=0) (a:=0) (vs:=[.int .u64 0,.int .u64 0,.int .u64 0]) rfl rfl rfl (by intro w hw;simp [Value.cells,w3] at hw;rcases hw with rfl | rfl | rfl <;> rfl) rfl (Nat.le_refl 3) .here) ?_
    rintro v' L' ⟨rfl,rfl⟩
    repeat (first | refine aA ?_ | refine ap_end ?_)
    repeat (first | refine we_ret ?_)
    refine at_leaveM (rs:=[.cell 5 128,.tmp 6]) Try.func47 Try.results47 hQ (.inl rfl) (.cons (.cell (vs:=[.int .u64 (1:Nat),.int .u64 (fails:Nat),.int .u64 (now:Nat)]) rfl rfl (Rds.all .here)) (.cons (.tmp rfl) .nil)) ?_
    refine ⟨rfl,fun h st=>Ent.star (.drop (.drop .refl)) st,?_⟩
    rw [hG]
    exact ⟨by show 1<_;omega,by show fails<_;omega,by show now<_;omega,rfl⟩
   ·have hG:tellG fails now false a b c=some (0,b+1,0):=by unfold tellG;rw [if_neg hno,if_neg (by simp),if_neg c2,if_neg c3]
    repeat (first | refine weqlF ?_ | refine we_seq ?_ | (refine wR ?_;try simp only [oS]) | refine wo_nil ?_ | refine wM ?_ | refine wA ?_ | (apply wo_no;exact rfl) | refine wJ ?_ | refine wD ?_ | refine wL ?_ | refine wF ?_ | refine we_block ?_)
    refine we_draw (List.range' 0 9) (by kernel_rfl) ?_
    repeat (first | (apply ap_read;exact rfl;exact rfl;exact gY;apply mo_load;exact rfl;exact hft) | (apply ap_pure;exact rfl;exact rfl;exact gY;intro L;apply mo_bin;exact rfl;exact rfl;apply bin_add;exact hadd) | (apply ap_pure;exact rfl;exact rfl;exact gY;intro L;apply mo_bin;exact rfl;exact rfl;apply bin_eqlF;omega) | refine aA ?_ | refine aN ?_ | refine aD ?_ | refine aL ?_ | refine ap_end ?_)
    repeat (first | (apply wo_po;apply mo_bin;exact rfl;exact rfl;apply bin_add;exact hadd;exact trivial) | (apply wo_po;apply mo_buildV;(repeat (first | exact EvL.nil | apply EvL.cons rfl));exact rfl;exact trivial) | (apply wo_pm;apply mo_storeA (b:=cb) (c:=0) (k:=0) (a:=0) (vs:=[.int .u64 0,.int .u64 0,.int .u64 0]);exact rfl;exact rfl;exact rfl;(intro w hw;simp [Value.cells,w3] at hw;rcases hw with rfl | rfl | rfl <;> rfl);exact rfl;exact Nat.le_refl 3;exact .here;exact trivial) | refine we_seq ?_ | (refine wR ?_;try simp only [oS]) | refine wo_nil ?_ | refine wA ?_ | refine wD ?_ | refine wL ?_ | refine wF ?_ | refine we_ret ?_ | refine we_skip ?_)
    refine at_leaveM (rs:=[.cell 5 128,.tmp 6]) Try.func47 Try.results47 hQ (.inl rfl) (.cons (.cell (vs:=[.int .u64 (0:Nat),.int .u64 (b+1:Nat),.int .u64 (0:Nat)]) rfl rfl (Rds.all .here)) (.cons (.tmp rfl) .nil)) ?_
    refine ⟨rfl,fun h st=>Ent.star (.drop (.drop .refl)) st,?_⟩
    rw [hG]
    exact ⟨by dsimp only;omega,by dsimp only;omega,by dsimp only;omega,rfl⟩
 ·by_cases c2:a=0
  ·by_cases c3:b=0
   ·have hG:tellG fails now true a b c=none:=if_pos (.inr ⟨rfl,c2,c3⟩)
    repeat (first | (apply wo_po;apply mo_loadA (vs:=[.int .u64 (a:Nat),.int .u64 (b:Nat),.int .u64 (c:Nat)]);exact rfl;exact rfl;exact Rds.all (.there .here);exact trivial) | (apply wo_pm;apply mo_storeA (b:=cb) (c:=0) (k:=0) (a:=0) (vs:=[.int .u64 0,.int .u64 0,.int .u64 0]);exact rfl;exact rfl;exact rfl;(intro w hw;simp [Value.cells,w3] at hw;rcases hw with rfl | rfl | rfl <;> rfl);exact rfl;exact Nat.le_refl 3;exact .here;exact trivial) | refine weqlT ?_ | refine weqlF ?_ | refine we_seq ?_ | (refine wR ?_;try simp only [oS]) | refine wo_nil ?_ | refine wM ?_ | refine wA ?_ | refine wK ?_ | refine wD ?_ | refine wL ?_ | refine wT ?_ | refine wF ?_ | refine we_ret ?_ | refine we_block ?_)
    refine at_leaveM (rs:=[.cell 5 128,.tmp 6]) Try.func47 Try.results47 hQ (.inl rfl) (.cons (.cell (vs:=[.int .u64 (a:Nat),.int .u64 (b:Nat),.int .u64 (c:Nat)]) rfl rfl (Rds.all .here)) (.cons (.tmp rfl) .nil)) ?_
    refine ⟨rfl,fun h st=>Ent.star (.drop (.drop .refl)) st,?_⟩
    rw [hG]
    exact ⟨a,b,c,rfl⟩
   ·have hG:tellG fails now true a b c=some (0,0,0):=by unfold tellG;rw [if_neg (fun h=>h.elim c1 (fun h=>c3 h.2.2)),if_pos rfl]
    repeat (first | (apply wo_po;apply mo_buildV;(repeat (first | exact EvL.nil | apply EvL.cons rfl));exact rfl;exact trivial) | (apply wo_pm;apply mo_storeA (b:=cb) (c:=0) (k:=0) (a:=0) (vs:=[.int .u64 0,.int .u64 0,.int .u64 0]);exact rfl;exact rfl;exact rfl;(intro w hw;simp [Value.cells,w3] at hw;rcases hw with rfl | rfl | rfl <;> rfl);exact rfl;exact Nat.le_refl 3;exact .here;exact trivial) | refine weqlT ?_ | refine weqlF ?_ | refine we_seq ?_ | (refine wR ?_;try simp only [oS]) | refine wo_nil ?_ | refine wM ?_ | refine wA ?_ | refine wK ?_ | refine wD ?_ | refine wL ?_ | refine wT ?_ | refine wF ?_ | refine we_ret ?_ | refine we_block ?_)
    refine at_leaveM (rs:=[.cell 5 128,.tmp 6]) Try.func47 Try.results47 hQ (.inl rfl) (.cons (.cell (vs:=[.int .u64 0,.int .u64 0,.int .u64 0]) rfl rfl (Rds.all .here)) (.cons (.tmp rfl) .nil)) ?_
    refine ⟨rfl,fun h st=>Ent.star (.drop (.drop .refl)) st,?_⟩
    rw [hG]
    exact ⟨by dsimp only;omega,by dsimp only;omega,by dsimp only;omega,rfl⟩
  ·have hG:tellG fails now true a b c=some (0,0,0):=by unfold tellG;rw [if_neg (fun h=>h.elim c1 (fun h=>c2 h.2.1)),if_pos rfl]
   repeat (first | (apply wo_po;apply mo_buildV;(repeat (first | exact EvL.nil | apply EvL.cons rfl));exact rfl;exact trivial) | (apply wo_pm;apply mo_storeA (b:=cb) (c:=0) (k:=0) (a:=0) (vs:=[.int .u64 0,.int .u64 0,.int .u64 0]);exact rfl;exact rfl;exact rfl;(intro w hw;simp [Value.cells,w3] at hw;rcases hw with rfl | rfl | rfl <;> rfl);exact rfl;exact Nat.le_refl 3;exact .here;exact trivial) | refine weqlF ?_ | refine we_seq ?_ | (refine wR ?_;try simp only [oS]) | refine wo_nil ?_ | refine wM ?_ | refine wA ?_ | (apply wo_no;exact rfl) | refine wK ?_ | refine wJ ?_ | refine wD ?_ | refine wL ?_ | refine wT ?_ | refine wF ?_ | refine we_ret ?_ | refine we_block ?_)
   refine at_leaveM (rs:=[.cell 5 128,.tmp 6]) Try.func47 Try.results47 hQ (.inl rfl) (.cons (.cell (vs:=[.int .u64 0,.int .u64 0,.int .u64 0]) rfl rfl (Rds.all .here)) (.cons (.tmp rfl) .nil)) ?_
   refine ⟨rfl,fun h st=>Ent.star (.drop (.drop .refl)) st,?_⟩
   rw [hG]
   exact ⟨by dsimp only;omega,by dsimp only;omega,by dsimp only;omega,rfl⟩
end
section
variable {B:Hand} [Lets B] {gv:Value} {A:Acc B gv} {r fails wait:Nat} {L F:List HProp}
def AskT (A:Acc B gv) (wait now:Nat) (s:A.S) (Q:Bool→A.S→Prop):Prop:=TurnT A (askG wait now) s fun y q s=>Q (q||y.1 == 0) s
theorem ask_tr (R:BreakerAt A r fails wait) {now:Nat} (hn:now≤1099511627776) {s:A.S} {Q:Bool→A.S→Prop} (hs:AskT A wait now s Q) (hh:Has L (A.C s) F) :
  Tr Try.prog B 12 [.pointer (some ⟨r,0,none⟩),gv,.int .u64 (now:Nat)] L (A.x s) fun v L' x'=>∃ q s',Q q s'∧v=.tuple #[.bool q,.int .i64 0]∧L'=A.C s'::F∧x'=A.x s':=by
 refine Tr.post (R:=fun v L' x'=>∃ q s',Q q s'∧v=.tuple #[.bool q,.int .i64 0]∧x'=A.x s'∧∀ h,Star L' h→Star (A.C s'::F) h) ?_ (by rintro v L' x' ⟨q,s',h1,rfl,rfl,hs⟩;exact ⟨_,⟨q,s',h1,rfl,rfl,rfl⟩,hs⟩)
 refine tr_of_body Try.func12 rfl Try.ntmps12 (by simp) fun um Q _ hQ=>?_
 simp only [argE,Nat.zero_add,Nat.reduceAdd]
 repeat (first | (apply wo_mo;apply mo_box;exact rfl;exact trivial) | refine we_seq ?_ | (refine wR ?_;try simp only [oS]))
 rintro v' L' ⟨bb,rfl,rfl⟩
 refine wo_ent (arr bb 0 [.pointer (some ⟨r,0,none⟩)]::L) .refl ?_
 repeat (first | (apply wo_mo;apply mo_box;exact rfl;exact trivial))
 rintro v' L' ⟨nb,rfl,rfl⟩
 refine wo_ent (arr nb 0 [.int .u64 (now:Nat)]::arr bb 0 [.pointer (some ⟨r,0,none⟩)]::L) .refl ?_
 repeat (first | refine we_seq ?_ | (refine wR ?_;try simp only [oS]) | refine wo_nil ?_ | refine wA ?_ | refine wL ?_ | refine we_block ?_)
 refine wo_call (.cons rfl .nil) trivial (bnone_tr R (.there (.there hh))) ?_
 rintro v1 L1 x1 ⟨rfl,rfl,rfl⟩
 refine wo_ent (A.C s::arr nb 0 [.int .u64 (now:Nat)]::arr bb 0 [.pointer (some ⟨r,0,none⟩)]::F) (.take (.there (.there hh)) .refl) ?_
 repeat (first | (apply wo_po;apply mo_makeFunc (first:=[]) (cap:=[_,_]);exact .nil;exact .cons rfl (.cons rfl .nil);exact trivial) | refine wgtrF ?_ | refine we_seq ?_ | (refine wR ?_;try simp only [oS]) | refine wo_nil ?_ | refine wM ?_ | refine wA ?_ | refine wL ?_ | refine wF ?_ | refine we_skip ?_)
 refine wo_call (.cons rfl (.cons rfl (.cons rfl .nil))) trivial (turn_tr R (caps:=[_,_]) (ask1_tr R hn) hs .here) ?_
 rintro v1 L1 x1 ⟨⟨a,b,c⟩,q,s',h1,rfl,rfl,rfl⟩
 repeat (first | (apply wo_mo;apply mo_alloc;exact trivial) | refine wM ?_ | (apply wo_po;apply mo_extract;exact rfl;exact rfl;exact gY))
 rintro v' L' ⟨cb,rfl,rfl⟩
 cases q
 ·by_cases c1:a=0
  ·subst c1
   repeat (first | (apply wo_pm;apply mo_storeA (b:=cb) (c:=0) (k:=0) (a:=0) (vs:=[.int .u64 0,.int .u64 0,.int .u64 0]);exact rfl;exact rfl;exact rfl;(intro w hw;simp [Value.cells,w3] at hw;rcases hw with rfl | rfl | rfl <;> rfl);exact rfl;exact Nat.le_refl 3;exact .here;exact trivial) | refine weqlT ?_ | refine we_seq ?_ | (refine wR ?_;try simp only [oS]) | refine wo_nil ?_ | refine wM ?_ | refine wA ?_ | refine wJ ?_ | refine wD ?_ | refine wL ?_ | refine we_ret ?_)
   (first | refine or2 Try.func12 Try.results12 hQ rfl rfl ?_ | refine on2 Try.func12 Try.results12 hQ rfl rfl ?_)
   exact ⟨true,s',h1,rfl,rfl,fun h st=>Ent.star (.take (.there .here) (.drop (.drop (.drop .refl)))) st⟩
  ·repeat (first | (apply wo_pm;apply mo_storeA (b:=cb) (c:=0) (k:=0) (a:=0) (vs:=[.int .u64 0,.int .u64 0,.int .u64 0]);exact rfl;exact rfl;exact rfl;(intro w hw;simp [Value.cells,w3] at hw;rcases hw with rfl | rfl | rfl <;> rfl);exact rfl;exact Nat.le_refl 3;exact .here;exact trivial) | refine weqlF ?_ | refine we_seq ?_ | (refine wR ?_;try simp only [oS]) | refine wo_nil ?_ | refine wM ?_ | refine wA ?_ | refine wJ ?_ | refine wD ?_ | refine wL ?_ | refine we_ret ?_)
   (first | refine or2 Try.func12 Try.results12 hQ rfl rfl ?_ | refine on2 Try.func12 Try.results12 hQ rfl rfl ?_)
   exact ⟨false,s',(by have e:(a == 0)=false:=beq_eq_false_iff_ne.2 c1;simp only [Bool.false_or,e] at h1;exact h1),rfl,rfl,fun h st=>Ent.star (.take (.there .here) (.drop (.drop (.drop .refl)))) st⟩
 ·repeat (first | (apply wo_pm;apply mo_storeA (b:=cb) (c:=0) (k:=0) (a:=0) (vs:=[.int .u64 0,.int .u64 0,.int .u64 0]);exact rfl;exact rfl;exact rfl;(intro w hw;simp [Value.cells,w3] at hw;rcases hw with rfl | rfl | rfl <;> rfl);exact rfl;exact Nat.le_refl 3;exact .here;exact trivial) | refine we_seq ?_ | (refine wR ?_;try simp only [oS]) | refine wo_nil ?_ | refine wM ?_ | refine wA ?_ | (apply wo_no;exact rfl) | refine wK ?_ | refine we_ret ?_)
  (first | refine or2 Try.func12 Try.results12 hQ rfl rfl ?_ | refine on2 Try.func12 Try.results12 hQ rfl rfl ?_)
  exact ⟨true,s',by simpa using h1,rfl,rfl,fun h st=>Ent.star (.take (.there .here) (.drop (.drop (.drop .refl)))) st⟩
def TellT (A:Acc B gv) (fails now:Nat) (good:Bool) (s:A.S) (Q:A.S→Prop):Prop:=TurnT A (tellG fails now good) s fun y q s=>Q s
theorem tell_tr (R:BreakerAt A r fails wait) {now:Nat} {good:Bool} (hn:now≤1099511627776) {s:A.S} {Q:A.S→Prop} (hs:TellT A fails now good s Q) (hh:Has L (A.C s) F) :
  Tr Try.prog B 13 [.pointer (some ⟨r,0,none⟩),gv,.int .u64 (now:Nat),.bool good] L (A.x s) fun v L' x'=>∃ s',Q s'∧v=.int .i64 0∧L'=A.C s'::F∧x'=A.x s':=by
 refine Tr.post (R:=fun v L' x'=>∃ s',Q s'∧v=.int .i64 0∧x'=A.x s'∧∀ h,Star L' h→Star (A.C s'::F) h) ?_ (by rintro v L' x' ⟨s',h1,rfl,rfl,hs⟩;exact ⟨_,⟨s',h1,rfl,rfl,rfl⟩,hs⟩)
 refine tr_of_body Try.func13 rfl Try.ntmps13 (by simp) fun um Q _ hQ=>?_
 simp only [argE,Nat.zero_add,Nat.reduceAdd]
 repeat (first | (apply wo_mo;apply mo_box;exact rfl;exact trivial) | refine we_seq ?_ | (refine wR ?_;try simp only [oS]))
 rintro v' L' ⟨bb,rfl,rfl⟩
 refine wo_ent (arr bb 0 [.pointer (some ⟨r,0,none⟩)]::L) .refl ?_
 repeat (first | (apply wo_mo;apply mo_box;exact rfl;exact trivial))
 rintro v' L' ⟨nb,rfl,rfl⟩
 refine wo_ent (arr nb 0 [.int .u64 (now:Nat)]::arr bb 0 [.pointer (some ⟨r,0,none⟩)]::L) .refl ?_
 repeat (first | (apply wo_mo;apply mo_box;exact rfl;exact trivial))
 rintro v' L' ⟨gb,rfl,rfl⟩
 refine wo_ent (arr gb 0 [.bool good]::arr nb 0 [.int .u64 (now:Nat)]::arr bb 0 [.pointer (some ⟨r,0,none⟩)]::L) .refl ?_
 repeat (first | refine we_seq ?_ | (refine wR ?_;try simp only [oS]) | refine wo_nil ?_ | refine wA ?_ | refine wL ?_ | refine we_block ?_)
 refine wo_call (.cons rfl .nil) trivial (bnone_tr R (.there (.there (.there hh)))) ?_
 rintro v1 L1 x1 ⟨rfl,rfl,rfl⟩
 refine wo_ent (A.C s::arr gb 0 [.bool good]::arr nb 0 [.int .u64 (now:Nat)]::arr bb 0 [.pointer (some ⟨r,0,none⟩)]::F) (.take (.there (.there (.there hh))) .refl) ?_
 repeat (first | (apply wo_po;apply mo_makeFunc (first:=[]) (cap:=[_,_,_]);exact .nil;exact .cons rfl (.cons rfl (.cons rfl .nil));exact trivial) | refine wgtrF ?_ | refine we_seq ?_ | (refine wR ?_;try simp only [oS]) | refine wo_nil ?_ | refine wM ?_ | refine wA ?_ | refine wL ?_ | refine wF ?_ | refine we_skip ?_)
 refine wo_call (.cons rfl (.cons rfl (.cons rfl .nil))) trivial (turn_tr R (caps:=[_,_,_]) (tell1_tr R hn) hs .here) ?_
 rintro v1 L1 x1 ⟨y,q,s',h1,rfl,rfl,rfl⟩
 repeat (first | refine we_seq ?_ | (refine wR ?_;try simp only [oS]) | refine wo_nil ?_ | refine wA ?_ | refine we_ret ?_)
 (first | refine or1 Try.func13 Try.results13 hQ rfl ?_ | refine on1 Try.func13 Try.results13 hQ rfl ?_)
 exact ⟨s',h1,rfl,rfl,fun h st=>Ent.star (.take .here (.drop (.drop (.drop .refl)))) st⟩
def BGetT (A:Acc B gv) (s:A.S) (Q:Nat→A.S→Prop):Prop:=A.step 1 0 s fun s=>A.load 0 s fun o s=>Q o s
theorem bget_tr (R:BreakerAt A r fails wait) {s:A.S} {Q:Nat→A.S→Prop} (hs:BGetT A s Q) (hh:Has L (A.C s) F) :
  Tr Try.prog B 14 [.pointer (some ⟨r,0,none⟩),gv] L (A.x s) fun v L' x'=>∃ o s',o<18446744073709551616∧Q o s'∧v=.tuple #[.int .i64 ((o%4:Nat):Int),.int .u64 ((o/4%2097152:Nat):Int),.int .u64 ((o/8388608:Nat):Int),.int .i64 0]∧L'=A.C s'::F∧x'=A.x s':=by
 refine Tr.post (R:=fun v L' x'=>∃ o s',o<18446744073709551616∧Q o s'∧v=.tuple #[.int .i64 ((o%4:Nat):Int),.int .u64 ((o/4%2097152:Nat):Int),.int .u64 ((o/8388608:Nat):Int),.int .i64 0]∧x'=A.x s'∧∀ h,Star L' h→Star (A.C s'::F) h) ?_ (by rintro v L' x' ⟨o,s',ho,h1,rfl,rfl,hs⟩;exact ⟨_,⟨o,s',ho,h1,rfl,rfl,rfl⟩,hs⟩)
 refine tr_of_body Try.func14 rfl Try.ntmps14 (by simp) fun um Q _ hQ=>?_
 simp only [argE,Nat.zero_add,Nat.reduceAdd]
 repeat (first | refine we_seq ?_ | (refine wR ?_;try simp only [oS]) | refine wo_nil ?_ | refine wM ?_ | refine wA ?_)
 refine wo_call (.cons rfl .nil) trivial (bnone_tr R hh) ?_
 rintro v1 L1 x1 ⟨rfl,rfl,rfl⟩
 repeat (first | refine we_seq ?_ | (refine wR ?_;try simp only [oS]) | refine wo_nil ?_ | refine wM ?_ | refine wF ?_ | refine we_skip ?_)
 refine wo_call (.cons rfl (.cons rfl (.cons rfl .nil))) trivial (step_tr (w:=0) hs hh) ?_
 rintro v1 L1 x1 ⟨s1,h1,rfl,rfl,rfl⟩
 repeat (first | refine we_seq ?_ | (refine wR ?_;try simp only [oS]) | refine wo_nil ?_ | refine wM ?_ | refine wN ?_ | refine wD ?_)
 refine wo_call (.cons rfl .nil) trivial (A.load_ok _ _ _ _ _ _ _ R.a h1 .here) ?_
 rintro v1 L1 x1 ⟨o,s2,ho,h2,rfl,rfl,rfl⟩
 skip
 refine wo_call (.cons rfl .nil) trivial (apart_tr ho) ?_
 rintro v1 L1 x1 ⟨rfl,rfl,rfl⟩
 repeat (first | (apply wo_mo;apply mo_alloc;exact trivial))
 rintro v' L' ⟨cb,rfl,rfl⟩
 have hcv:IntKind.i64.wrap ((o%4:Nat):Int)=((o%4:Nat):Int):=wrap_i64 (by omega) (by omega)
 repeat (first | (apply wo_pm;apply mo_storeA (b:=cb) (c:=0) (k:=0) (a:=0) (vs:=[.int .u64 0,.int .u64 0,.int .u64 0]);exact rfl;exact rfl;exact rfl;(intro w hw;simp [Value.cells,w3] at hw;rcases hw with rfl | rfl | rfl <;> rfl);exact rfl;exact Nat.le_refl 3;exact .here;exact trivial) | refine we_seq ?_ | refine wo_nil ?_)
 refine we_ent (arr cb 0 [.int .u64 ((o%4:Nat):Int),.int .u64 ((o/4%2097152:Nat):Int),.int .u64 ((o/8388608:Nat):Int)]::A.C s2::F) .refl ?_
 refine we_draw (List.range' 0 11) (by kernel_rfl) ?_
 repeat (first | (apply ap_pure;exact rfl;exact rfl;exact gY;intro L;apply mo_conv;exact rfl;exact hcv) | refine aA ?_ | refine aD ?_ | refine aL ?_ | refine ap_end ?_)
 repeat (first | refine we_ret ?_)
 (first | refine at_ret4 (ex:=.ret) Try.func14 Try.results14 hQ (.inl rfl) rfl rfl rfl rfl ?_ | refine at_ret4 (ex:=.normal) Try.func14 Try.results14 hQ (.inr rfl) rfl rfl rfl rfl ?_)
 exact ⟨o,s2,ho,h2,rfl,rfl,fun h st=>Ent.star (.drop .refl) st⟩
end
end
section
def gAddr (r:Nat) (w:Nat):Nat × Nat:=(r,1+w)
def bAddr (r:Nat) (_:Nat):Nat × Nat:=(r,2)
def gK (r limit:Nat):List (Nat × Nat × Value):=[(r,0,.int .u64 (limit:Nat))]
def bK (r fails wait:Nat):List (Nat × Nat × Value):=[(r,0,.int .u64 (fails:Nat)),(r,1,.int .u64 (wait:Nat))]
theorem g_apart (r limit:Nat):Apart (gAddr r) 2 (gK r limit) where
 inj:=fun i j _ _ h=>by have:=congrArg Prod.snd h;simp only [gAddr] at this;omega
 fix:=fun i _ k hk=>by simp only [gK,List.mem_singleton] at hk;subst hk;simp [gAddr]
theorem b_apart (r fails wait:Nat):Apart (bAddr r) 1 (bK r fails wait) where
 inj:=fun i j hi hj _=>by omega
 fix:=fun i _ k hk=>by simp only [bK,List.mem_cons,List.not_mem_nil,or_false] at hk;rcases hk with rfl | rfl <;> simp [bAddr]
section
variable {B:Hand} [Lets B] {x:B.X} {r limit fails wait:Nat} {L F:List HProp} {h:Hp}
def gC (r limit:Nat) (s:Nat→Nat):HProp:=wds (gAddr r) 2 (gK r limit) s
def bC (r fails wait:Nat) (s:Nat→Nat):HProp:=wds (bAddr r) 1 (bK r fails wait) s
theorem g_wds (st:Star (arr r 0 [.int .u64 (limit:Nat),.int .u64 0,.int .u64 0]::L) h):Star (gC r limit (fun _=>0)::L) h:=by
 refine star_map st (fun h a=>⟨fun w hw=>⟨by show 0<18446744073709551616;decide,?_⟩,fun k hk=>?_⟩) (fun _ y=>y)
 ·match w with
  | 0=>exact a 1 _ rfl
  | 1=>exact a 2 _ rfl
  | w+2=>omega
 ·simp only [gK,List.mem_singleton] at hk;subst hk;exact a 0 _ rfl
theorem b_wds (st:Star (arr r 0 [.int .u64 (fails:Nat),.int .u64 (wait:Nat),.int .u64 0]::L) h):Star (bC r fails wait (fun _=>0)::L) h:=by
 refine star_map st (fun h a=>⟨fun w hw=>⟨by show 0<18446744073709551616;decide,a 2 _ rfl⟩,fun k hk=>?_⟩) (fun _ y=>y)
 simp only [bK,List.mem_cons,List.not_mem_nil,or_false] at hk
 rcases hk with rfl | rfl
 ·exact a 0 _ rfl
 ·exact a 1 _ rfl
theorem gC_rd {s:Nat→Nat}:Rd [gC r limit s] r 0 (.int .u64 (limit:Nat)):=fun h hs=>by
 obtain ⟨h1,h2,s1,hc,_⟩:=hs
 exact ⟨rfl,.inl (s1.o1 _ _ _ (hc.2 (r,0,.int .u64 (limit:Nat)) (List.mem_singleton.2 rfl)))⟩
theorem bC_rd {s:Nat→Nat}:Rd [bC r fails wait s] r 0 (.int .u64 (fails:Nat)):=fun h hs=>by
 obtain ⟨h1,h2,s1,hc,_⟩:=hs
 exact ⟨rfl,.inl (s1.o1 _ _ _ (hc.2 (r,0,.int .u64 (fails:Nat)) (by simp [bK])))⟩
theorem bC_rw {s:Nat→Nat}:Rd [bC r fails wait s] r 1 (.int .u64 (wait:Nat)):=fun h hs=>by
 obtain ⟨h1,h2,s1,hc,_⟩:=hs
 exact ⟨rfl,.inl (s1.o1 _ _ _ (hc.2 (r,1,.int .u64 (wait:Nat)) (by simp [bK])))⟩
def gLone (x:B.X) (r limit:Nat):Acc B .nilIface:=loneAcc x (gAddr r) 2 (gK r limit) (g_apart r limit)
def bLone (x:B.X) (r fails wait:Nat):Acc B .nilIface:=loneAcc x (bAddr r) 1 (bK r fails wait) (b_apart r fails wait)
theorem g_at (h1:1≤limit) (h2:limit≤1048576):GaugeAt (gLone x r limit) r limit:=⟨h1,h2,fun s=>gC_rd,fun w _=>rfl⟩
theorem b_at (h1:1≤fails) (h2:fails≤1048576) (h3:wait≤1099511627776):BreakerAt (bLone x r fails wait) r fails wait:=⟨h1,h2,h3,fun s=>bC_rd,fun s=>bC_rw,rfl⟩
def enterS (s:Nat→Nat):Nat→Nat:=if s 0<s 1 then upd s 0 (s 0+1) else upd (upd s 0 (s 0+1)) 1 (s 0+1)
theorem enter_lone (h1:1≤limit) (h2:limit≤1048576) {s:Nat→Nat} (hh:Has L (gC r limit s) F) :
  Tr Try.prog B 19 [.pointer (some ⟨r,0,none⟩),.nilIface] L x fun v L' x'=>v=.tuple #[.bool (decide (s 0<limit)),.int .i64 0]∧L'=gC r limit (if s 0<limit then enterS s else s)::F∧x'=x:=by
 refine (enter_tr (A:=gLone x r limit) (g_at h1 h2) (s:=s) (G:=fun q s'=>q=decide (s 0<limit)∧s'=if s 0<limit then enterS s else s) ?_ hh).mono ?_
 ·refine ⟨by show 0<2;omega,fun h64 X hX=>hX _ ⟨h64,?_⟩⟩
  dsimp only
  by_cases c:limit≤s 0
  ·rw [if_pos c]
   exact ⟨by simp;omega,by rw [if_neg (by omega)]⟩
  ·rw [if_neg c]
   refine ⟨by show 0<2;omega,?_⟩
   rw [if_pos rfl]
   simp only [if_true]
   intro Y hY
   refine hY _ ⟨by show 1<2;omega,?_⟩
   have e:(s 0+1)%18446744073709551616=s 0+1:=Nat.mod_eq_of_lt (by omega)
   rw [e,upd_other (by omega)]
   dsimp only
   have hd:decide (s 0<limit)=true:=decide_eq_true (by omega)
   by_cases c2:s 0<s 1
   ·rw [if_pos c2]
    refine ⟨hd.symm,?_⟩
    rw [if_pos (by omega)]
    exact (if_pos c2).symm
   ·rw [if_neg c2]
    refine ⟨by show 1<2;omega,?_⟩
    rw [upd_other (by omega),if_pos rfl]
    simp only [if_true]
    refine ⟨hd.symm,?_⟩
    rw [if_pos (by omega)]
    exact (if_neg c2).symm
 ·rintro v L' x' ⟨q,s',⟨rfl,rfl⟩,rfl,rfl,rfl⟩
  exact ⟨rfl,rfl,rfl⟩
theorem get_lone (h1:1≤limit) (h2:limit≤1048576) {s:Nat→Nat} (hh:Has L (gC r limit s) F) :
  Tr Try.prog B 20 [.pointer (some ⟨r,0,none⟩),.nilIface] L x fun v L' x'=>v=.tuple #[.int .u64 (s 0:Nat),.int .u64 (s 1:Nat),.int .i64 0]∧L'=gC r limit s::F∧x'=x:=by
 refine (get_tr (A:=gLone x r limit) (g_at h1 h2) (s:=s) (Q:=fun a b s'=>a=s 0∧b=s 1∧s'=s) ⟨by show 0<2;omega,by show 1<2;omega,rfl,rfl,rfl⟩ hh).mono ?_
 rintro v L' x' ⟨a,b,s',⟨rfl,rfl,rfl⟩,_,_,rfl,rfl,rfl⟩
 exact ⟨rfl,rfl,rfl⟩
def BS (s:Nat→Nat) (a b c:Nat):Prop:=a<4∧b<2097152∧c<2199023255552∧s 0=c*8388608+b*4+a
theorem BS.parts {s:Nat→Nat} {a b c:Nat} (h:BS s a b c):s 0%4=a∧s 0/4%2097152=b∧s 0/8388608=c:=by
 obtain ⟨h1,h2,h3,h4⟩:=h
 rw [h4]
 omega
theorem BS.pack {s:Nat→Nat} {a b c:Nat} (ha:a<4) (hb:b<2097152) (hc:c<2199023255552):BS (upd s 0 (packN a b c)) a b c :=
 ⟨ha,hb,hc,by rw [upd_same,packN_eq ha hb hc]⟩
theorem turn_lone {G:Nat→Nat→Nat→Option (Nat × Nat × Nat)} {s:Nat→Nat} {Q:Nat × Nat × Nat→Bool→(Nat→Nat)→Prop}
  (g:match G (s 0%4) (s 0/4%2097152) (s 0/8388608) with
   | none=>Q (s 0%4,s 0/4%2097152,s 0/8388608) false s
   | some y=>Q y true (upd s 0 (packN y.1 y.2.1 y.2.2))):TurnT (bLone x r fails wait) G s Q:=by
 intro X hX
 refine hX _ ⟨by show 0<1;omega,?_⟩
 show match G (s 0%4) (s 0/4%2097152) (s 0/8388608) with | none=>_ | some y=>_
 cases hG:G (s 0%4) (s 0/4%2097152) (s 0/8388608) with
 | none=>rw [hG] at g;exact g
 | some y =>
  rw [hG] at g
  refine ⟨by show 0<1;omega,?_⟩
  rw [if_pos rfl]
  simp only [if_true]
  exact g
theorem ask_lone (h1:1≤fails) (h2:fails≤1048576) (h3:wait≤1099511627776) {now:Nat} (hn:now≤1099511627776) {s:Nat→Nat} {a b c:Nat} (S:BS s a b c) (hh:Has L (bC r fails wait s) F) :
  Tr Try.prog B 12 [.pointer (some ⟨r,0,none⟩),.nilIface,.int .u64 (now:Nat)] L x fun v L' x'=>∃ s',v=.tuple #[.bool (decide (a=0∨c+wait≤now)),.int .i64 0]∧BS s' (if a≠0∧c+wait≤now then 2 else a) b (if a≠0∧c+wait≤now then now else c)∧L'=bC r fails wait s'::F∧x'=x:=by
 obtain ⟨e1,e2,e3⟩:=S.parts
 refine (ask_tr (A:=bLone x r fails wait) (b_at h1 h2 h3) hn (s:=s) (Q:=fun q s'=>q=decide (a=0∨c+wait≤now)∧BS s' (if a≠0∧c+wait≤now then 2 else a) b (if a≠0∧c+wait≤now then now else c)) ?_ hh).mono ?_
 ·refine turn_lone ?_
  rw [e1,e2,e3]
  by_cases c1:a≠0∧c+wait≤now
  ·rw [show askG wait now a b c=some (2,b,now) from if_pos c1,if_pos c1,if_pos c1]
   refine ⟨?_,BS.pack (by show 2<4;omega) S.2.1 (by show now<_;omega)⟩
   rw [decide_eq_true (Or.inr c1.2)]
   rfl
  ·rw [show askG wait now a b c=none from if_neg c1,if_neg c1,if_neg c1]
   refine ⟨?_,S⟩
   by_cases c2:a=0
   ·simp [c2]
   ·have:¬ (c+wait≤now):=fun h=>c1 ⟨c2,h⟩
    simp [c2,this]
 ·rintro v L' x' ⟨q,s',⟨rfl,hS⟩,rfl,rfl,rfl⟩
  exact ⟨s',rfl,hS,rfl,rfl⟩
theorem tell_lone (h1:1≤fails) (h2:fails≤1048576) (h3:wait≤1099511627776) {now:Nat} (hn:now≤1099511627776) {good:Bool} {s:Nat→Nat} {a b c:Nat} (S:BS s a b c) (hb:b≤fails) (hh:Has L (bC r fails wait s) F) :
  Tr Try.prog B 13 [.pointer (some ⟨r,0,none⟩),.nilIface,.int .u64 (now:Nat),.bool good] L x fun v L' x'=>∃ s',v=.int .i64 0∧(match tellG fails now good a b c with
   | none=>BS s' a b c
   | some y=>BS s' y.1 y.2.1 y.2.2)∧L'=bC r fails wait s'::F∧x'=x:=by
 obtain ⟨e1,e2,e3⟩:=S.parts
 refine (tell_tr (A:=bLone x r fails wait) (b_at h1 h2 h3) hn (s:=s) (Q:=fun s'=>match tellG fails now good a b c with
   | none=>BS s' a b c
   | some y=>BS s' y.1 y.2.1 y.2.2) ?_ hh).mono ?_
 ·refine turn_lone ?_
  rw [e1,e2,e3]
  cases hG:tellG fails now good a b c with
  | none=>exact S
  | some y =>
   have hy:y.1<4∧y.2.1<2097152∧y.2.2<2199023255552:=by
    unfold tellG at hG
    split at hG
    ·cases hG
    split at hG
    ·cases hG;exact ⟨by show 0<4;omega,by show 0<2097152;omega,by show 0<2199023255552;omega⟩
    split at hG
    ·cases hG;exact ⟨by show 1<4;omega,S.2.1,by show now<_;omega⟩
    split at hG
    ·cases hG;exact ⟨by show 1<4;omega,by show fails<_;omega,by show now<_;omega⟩
    ·cases hG;exact ⟨by show 0<4;omega,by show b+1<_;omega,by show 0<2199023255552;omega⟩
   exact BS.pack hy.1 hy.2.1 hy.2.2
 ·rintro v L' x' ⟨s',hS,rfl,rfl,rfl⟩
  exact ⟨s',rfl,hS,rfl,rfl⟩
theorem bget_lone (h1:1≤fails) (h2:fails≤1048576) (h3:wait≤1099511627776) {s:Nat→Nat} {a b c:Nat} (S:BS s a b c) (hh:Has L (bC r fails wait s) F) :
  Tr Try.prog B 14 [.pointer (some ⟨r,0,none⟩),.nilIface] L x fun v L' x'=>v=.tuple #[.int .i64 (a:Nat),.int .u64 (b:Nat),.int .u64 (c:Nat),.int .i64 0]∧L'=bC r fails wait s::F∧x'=x:=by
 obtain ⟨e1,e2,e3⟩:=S.parts
 refine (bget_tr (A:=bLone x r fails wait) (b_at h1 h2 h3) (s:=s) (Q:=fun o s'=>o=s 0∧s'=s) ⟨by show 0<1;omega,rfl,rfl⟩ hh).mono ?_
 rintro v L' x' ⟨o,s',_,⟨rfl,rfl⟩,rfl,rfl,rfl⟩
 rw [e1,e2,e3]
 exact ⟨rfl,rfl,rfl⟩
end
end
end Go.Proofs.Ytnnpdmhmpgmpnaa
namespace Go.Proofs.Ytnnpdmhmpgmpnaa
open Go Go.PB
attribute [local irreducible] Mo Bin Eql Tr Wo
section
variable {B:Hand} [Lets B] {L:List HProp} {x:B.X}
theorem tmod_emod {n k:Int} (hk:0<k):(n.tmod k<0→n.tmod k+k=n%k)∧(¬ n.tmod k<0→n.tmod k=n%k):=by
 have h1:=Int.emod_nonneg n (by omega:k≠0)
 have h2:=Int.emod_lt_of_pos n hk
 have h3:n.tmod k=n%k-((if 0≤n∨k ∣ n then 0 else k.natAbs:Nat):Int):=Int.tmod_eq_emod
 have h4:=Int.tmod_lt_of_pos n hk
 split at h3
 ·constructor <;> intro h5 <;> omega
 ·rename_i hn
  have h6:n%k≠0:=fun h=>hn (.inr (Int.dvd_of_emod_eq_zero h))
  constructor <;> intro h5 <;> omega
theorem within_tr {n k:Int} (hn:-9223372036854775808≤n∧n≤9223372036854775807) (hk:0<k∧k≤1000000) :
  Tr Try.prog B 28 [.int .i64 n,.int .i64 k] L x fun v L' x'=>v=.int .i64 (n%k)∧L'=L∧x'=x:=by
 have ht:=tmod_emod (n:=n) hk.1
 have h1:=Int.emod_nonneg n (by omega:k≠0)
 have h2:=Int.emod_lt_of_pos n hk.1
 have hlt:=Int.tmod_lt_of_pos n hk.1
 obtain ⟨m,hm⟩:∃ m,n%k=m:=⟨_,rfl⟩
 obtain ⟨t,hte⟩:∃ t,n.tmod k=t:=⟨_,rfl⟩
 rw [hm] at ht h1 h2
 rw [hte] at ht hlt
 rw [hm]
 by_cases hneg:t<0
 ·have e:=ht.1 hneg
  refine tr_of_body Try.func28 rfl Try.ntmps28 (by simp) fun um Q _ hQ=>?_
  simp only [argE,Nat.zero_add,Nat.reduceAdd]
  repeat (first | (apply wo_po;apply mo_bin;exact rfl;exact rfl;apply bin_rem;omega;exact hte;exact trivial) | refine wlssT ?_ | refine we_seq ?_ | (refine wR ?_;try simp only [oS]) | refine wo_nil ?_ | refine wM ?_ | refine wA ?_ | refine wadd ?_ | refine wT ?_ | refine we_ret ?_)
  (first | refine or1 Try.func28 Try.results28 hQ rfl ?_ | refine on1 Try.func28 Try.results28 hQ rfl ?_)
  exact ⟨by rw [e],rfl,rfl⟩
 ·have e:=ht.2 hneg
  refine tr_of_body Try.func28 rfl Try.ntmps28 (by simp) fun um Q _ hQ=>?_
  simp only [argE,Nat.zero_add,Nat.reduceAdd]
  repeat (first | (apply wo_po;apply mo_bin;exact rfl;exact rfl;apply bin_rem;omega;exact hte;exact trivial) | refine wlssF ?_ | refine we_seq ?_ | (refine wR ?_;try simp only [oS]) | refine wo_nil ?_ | refine wM ?_ | refine wA ?_ | refine wF ?_ | refine we_ret ?_ | refine we_skip ?_)
  (first | refine or1 Try.func28 Try.results28 hQ rfl ?_ | refine on1 Try.func28 Try.results28 hQ rfl ?_)
  exact ⟨by rw [e],rfl,rfl⟩
end
end Go.Proofs.Ytnnpdmhmpgmpnaa
namespace Go.PB.Mach
section
def T (cs:List Cl) (c p:Nat) (r:Nat→Nat) (pre:List (Bool × List Nat)) (said:List Nat):Th:={ calls:=cs,call:=c,pc:=p,r:=r,ans:=pre++[(false,said)],over:=false }
def Goes (k:Nat) (t t':Th):Prop:=∀ f,onF (f+k) t=onF f t'
theorem Goes.trans {k k':Nat} {t t' t'':Th} (a:Goes k t t') (b:Goes k' t' t''):Goes (k'+k) t t'':=fun f=>by
 rw [← Nat.add_assoc,a,b]
theorem Goes.on {k f:Nat} {t t' t'':Th} (a:Goes k t t') (h:onF f t'=some t''):onF (f+k) t=some t'':=by rw [a,h]
theorem Goes.on1 {f:Nat} {t t' t'':Th} (a:Goes 1 t t') (h:onF f t'=some t''):onF (f+1) t=some t'':=a.on h
section
variable {cs:List Cl} {cl:Cl} {c p:Nat} {r:Nat→Nat} {pre:List (Bool × List Nat)} {said:List Nat} {x:In}
variable {on a b cc d n:Nat}
end
section
variable {cs:List Cl} {cl:Cl} {c p:Nat} {r:Nat→Nat} {pre:List (Bool × List Nat)} {said:List Nat} {x:In} {on a b cc d n vb vc v:Nat}
variable {f:Nat} {w:Wd} {l:List Nat} {q:Nat} {ws:List (List Nat)} {t':Th}
structure Op (f:Nat) (w:Wd) (t:Th) (m:Nat × Nat) (w':Wd) (t':Th):Prop where
 over:t.over=false
 on:opF f w t=some (w',t')
 mark:t.mark=m
end
inductive Runs (f:Nat):Wd→Th→List (Nat × Nat)→Wd→Th→Prop
 | nil {w:Wd} {t:Th}:Runs f w t [] w t
 | cons {w w1 w2:Wd} {t t1 t2:Th} {m:Nat × Nat} {ms:List (Nat × Nat)}:Op f w t m w1 t1→Runs f w1 t1 ms w2 t2→Runs f w t (m::ms) w2 t2
theorem Runs.trans {f:Nat} {w w1 w2:Wd} {t t1 t2:Th} {ms ms':List (Nat × Nat)} (a:Runs f w t ms w1 t1) (b:Runs f w1 t1 ms' w2 t2):Runs f w t (ms++ms') w2 t2:=by
 induction a with
 | nil=>exact b
 | cons h _ ih=>exact .cons h (ih b)
end
end Go.PB.Mach
namespace Go.Proofs.Ytnnpdmhmpgmpnaa
open Go Go.PB
attribute [local irreducible] Mo Bin Eql Tr Wo Ap
section
variable {B:Hand} [Lets B] {L F:List HProp} {x:B.X}
def inC (x:Mach.In):List Value:=[.int .i64 (x.op:Nat),.int .i64 (x.on:Nat),.int .i64 (x.a:Nat),.int .i64 (x.b:Nat),.int .i64 (x.c:Nat),.int .i64 (x.d:Nat),.int .u64 (x.n:Nat)]
end
section
variable {B:Hand} [Lets B] {L F G:List HProp} {x:B.X}
structure CW where
 a:Option Addr
 c:Nat
 k:Nat→Option Addr × Nat
 d:Nat→Option Addr × Nat
def CW.v (w:CW) (n:Nat):Value:=.slice w.a n w.c
def codeC (w:CW) (cs:List Mach.Cl):HProp:=fun h=>∀ i cl,cs[i]?=some cl→∃ cb co,w.a=some ⟨cb,co,none⟩ ∧
 h.can ⟨cb,co+2*i,none⟩ (.slice (w.k i).1 cl.code.length (w.k i).2)∧h.can ⟨cb,co+2*i+1,none⟩ (.slice (w.d i).1 cl.data.length (w.d i).2) ∧
 (∀ j y,cl.code[j]?=some y→∃ kb ko,(w.k i).1=some ⟨kb,ko,none⟩∧∀ m v,(inC y)[m]?=some v→h.can ⟨kb,ko+7*j+m,none⟩ v) ∧
 (∀ j v,cl.data[j]?=some v→∃ db dq,(w.d i).1=some ⟨db,dq,none⟩∧h.can ⟨db,dq+j,none⟩ (num v))
section
variable {w:CW} {cs:List Mach.Cl} {cl:Mach.Cl} {i:Nat}
theorem can_mono {h h1 h2:Hp} (s:Split h h1 h2) {a:Addr} {v:Value} (c:h1.can a v):h.can a v:=⟨c.1,c.2.elim (fun e=>.inl (s.o1 _ _ _ e)) (fun e=>.inr (s.r1 _ _ _ e))⟩
def Obs (L:List HProp) (c:HProp):Prop:=∀ h,Star L h→c h
theorem code_mono {h h1 h2:Hp} (s:Split h h1 h2) (c:codeC w cs h1):codeC w cs h:=by
 intro i cl hi
 obtain ⟨cb,co,q1,q2,q3,q4,q5⟩:=c i cl hi
 refine ⟨cb,co,q1,can_mono s q2,can_mono s q3,fun j y hj=>?_,fun j v hj=>?_⟩
 ·obtain ⟨kb,ko,q6,q7⟩:=q4 j y hj
  exact ⟨kb,ko,q6,fun m v hm=>can_mono s (q7 m v hm)⟩
 ·obtain ⟨db,dq,q6,q7⟩:=q5 j v hj
  exact ⟨db,dq,q6,can_mono s q7⟩
theorem Obs.there {d:HProp} (o:Obs L (codeC w cs)):Obs (d::L) (codeC w cs):=fun h s=>by
 obtain ⟨h1,h2,s1,_,hL⟩:=s
 exact code_mono s1.swap (o h2 hL)
end
theorem own_calls {t:Mach.Th} {i:Mach.In}:(Mach.own t i).calls=t.calls∧(Mach.own t i).call=t.call∧(Mach.own t i).over=t.over:=by
 unfold Mach.own Mach.Th.put Mach.Th.tell
 dsimp only
 split <;> (try split) <;> exact ⟨rfl,rfl,rfl⟩
theorem own_ans {t:Mach.Th} {i:Mach.In} (h:i.op≠22):(Mach.own t i).ans=t.ans:=by
 unfold Mach.own Mach.Th.put Mach.Th.tell
 dsimp only
 split <;> (try split) <;> first | rfl | exact absurd (by assumption) h
end
end Go.Proofs.Ytnnpdmhmpgmpnaa
