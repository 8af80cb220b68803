/- Texts merged: DkI DkJ DkK. -/
import Derived.Test.YtgbmjoenbocfcaaGreatG6
import Derived.Test.YtgbmjoenbocfcaaGreatG0
set_option linter.unusedSimpArgs false
set_option linter.unusedVariables false
set_option maxRecDepth 100000
namespace Go.Proofs.YtgbmjoenbocfcaaGreat
open Go Go.Fx Go.Proofs Go.Pl
theorem strRow0{L:List HProp}{h:Frag}(s:SatL L h):SatL (row 9 1 (.slice none 0 0) []::L) h:=satL_emp (A:=row 9 1 (.slice none 0 0) []) ⟨fun _ hx=>by simp at hx,.inl ⟨rfl,rfl⟩⟩ s
theorem clRow0{L:List HProp}{h:Frag}(s:SatL L h):SatL (row 117 2 (.slice none 0 0) []::(fun h=>SatL (clsP [] []) h)::L) h:=
 satL_emp (A:=row 117 2 (.slice none 0 0) []) ⟨fun _ hx=>by simp at hx,.inl ⟨rfl,rfl⟩⟩ (satL_emp (A:=fun h=>SatL (clsP [] []) h) trivial s)
theorem new_spec(room:Int)(h0:0≤room)(h1:room≤16777216):FSpec Tryz.prog 13 [.int .i64 room] [] Nat (fun _=>True) (fun b=>.tuple #[.pointer (some ⟨b,0,none⟩),.int .i64 0]) (fun b=>[diskP b (newD room)]):=by
 have t1:decide (room<0)=false:=by simp;omega
 have t2:decide (16777216<room)=false:=by simp;omega
 refine spec_intro [] _ Tryz.func13 rfl Tryz.ntmps13 (by rfl) (fun w0 R=>?_)
 repeat'(first|(refine gY ?_;intros)|(refine hY ?_ ?_<;>intro hgd)|(refine jY ?_ ?_<;>intro _)|fail)
 rename_i m1 m2 b
 refine cont_map (fun _ h=>clRow0 h) ?_
 refine cont_map (fun _ h=>disk_in (b:=b) (m1:=m1) (m2:=m2) (d:=newD room) (v:=.slice none 0 0) (vs:=[]) rfl rfl (Take.out takeD h)) ?_
 (refine rt_Y (y:=b) (hrs:=Tryz.results13) (hv:=?_) (hφ:=?_))
 ·rfl
 ·trivial
theorem fuse_spec(b:Nat)(d:Dk)(n:Int):FSpec Tryz.prog 25 [.pointer (some ⟨b,0,none⟩),.int .i64 n] [diskP b d] Unit (fun _=>True) (fun _=>.int .i64 0) (fun _=>[diskP b (d.fuseTo n)]):=by
 refine fspec_ex ?_
 rintro⟨⟨m1,m2,v,vs⟩,hv,hvs⟩
 unfold diskL
 dsimp only at hv hvs ⊢
 cases hst:d.still with
 |false=>
  have e:d.fuseTo n={d with fuse:=if(-1:Int)>n then -1 else n,still:=false}:=by unfold Dk.fuseTo;rw[hst];rfl
  rw[e]
  refine spec_intro [] _ Tryz.func25 rfl Tryz.ntmps25 (by rfl) (fun w0 R=>?_)
  repeat'(first|(refine gY ?_;intros)|(refine hY ?_ ?_<;>intro hgd)|(refine jY ?_ ?_<;>intro _)|fail)
  refine cont_map (fun _ h=>disk_in (b:=b) (m1:=m1) (m2:=m2) (d:={d with fuse:=if(-1:Int)>n then -1 else n,still:=false}) (v:=v) (vs:=vs) hv hvs (Take.out takeD h)) ?_
  (refine rt_Y (y:=()) (hrs:=Tryz.results25) (hv:=?_) (hφ:=?_))
  ·rfl
  ·trivial
 |true=>
  have e:d.fuseTo n={d with fuse:=if(-1:Int)>n then -1 else n,still:=decide (0≤n)}:=by unfold Dk.fuseTo;rw[hst];rfl
  rw[e]
  refine spec_intro [] _ Tryz.func25 rfl Tryz.ntmps25 (by rfl) (fun w0 R=>?_)
  repeat'(first|(refine gY ?_;intros)|(refine hY ?_ ?_<;>intro hgd)|(refine jY ?_ ?_<;>intro _)|fail)
  refine cont_map (fun _ h=>disk_in (b:=b) (m1:=m1) (m2:=m2) (d:={d with fuse:=if(-1:Int)>n then -1 else n,still:=decide (0≤n)}) (v:=v) (vs:=vs) hv hvs (Take.out takeD h)) ?_
  (refine rt_Y (y:=()) (hrs:=Tryz.results25) (hv:=?_) (hφ:=?_))
  ·rfl
  ·trivial
theorem Loose_spec(b:Nat)(d:Dk):FSpec Tryz.prog 71 [.pointer (some ⟨b,0,none⟩)] [diskP b d] Unit (fun _=>True) (fun _=>.int .i64 d.loose.length) (fun _=>[diskP b d]):=by
 refine fspec_ex ?_
 rintro⟨⟨m1,m2,v,vs⟩,hv,hvs⟩
 unfold diskL
 dsimp only at hv hvs ⊢
 refine spec_intro [] _ Tryz.func71 rfl Tryz.ntmps71 (by rfl) (fun w0 R=>?_)
 repeat'(first|(refine gY ?_;intros)|(refine hY ?_ ?_<;>intro hgd)|(refine jY ?_ ?_<;>intro _)|fail)
 refine cont_map (fun _ h=>disk_in (b:=b) (m1:=m1) (m2:=m2) (d:=d) (v:=v) (vs:=vs) hv hvs (Take.out takeD h)) ?_
 rw[← hvs]
 (refine rt_Y (y:=()) (hrs:=Tryz.results71) (hv:=?_) (hφ:=?_))
 ·rfl
 ·trivial
theorem sync_spec(b:Nat)(d:Dk)(hd:d.Ok):FSpec Tryz.prog 95 [.pointer (some ⟨b,0,none⟩)] [diskP b d] Unit (fun _=>True) (fun _=>.int .i64 d.sync.2) (fun _=>[diskP b d.sync.1]):=by
 refine fspec_ex ?_
 rintro⟨⟨m1,m2,v,vs⟩,hv,hvs⟩
 unfold diskL
 dsimp only at hv hvs ⊢
 have f0:=hd.fuse0
 have fM:=hd.fuseM
 unfold Dk.sync
 by_cases h1:d.live []=0
 ·have t1:(!decide (d.live []=0))=false:=by simp[h1]
  rw[if_neg (by simp[h1])]
  by_cases hf:d.fuse=0
  ·rw[if_pos hf]
   refine spec_intro [] _ Tryz.func95 rfl Tryz.ntmps95 (by rfl) (fun w0 R=>?_)
   repeat'(first|(refine gY ?_;intros)|(refine hY ?_ ?_<;>intro hgd)|(refine jY ?_ ?_<;>intro _)|fail)
   refine opsL_map (fun _ h=>strRow0 h) ?_
   refine cl_Y (live_spec b [] (.map (some m1)) (.map (some m2)) v (.int .i64 d.room) (.int .i64 d.fuse) d (.slice none 0 0) (row 9 1 (.slice none 0 0) []) [] Vw.row (by simp) (by simp)) ?_
   intro _ _
   rw[h1]
   repeat'(first|(refine gY ?_;intros)|(refine hY ?_ ?_<;>intro hgd)|(refine jY ?_ ?_<;>intro _)|fail)
   refine cl_Y (burn_spec b [] (.map (some m1)) (.map (some m2)) v (.int .i64 d.room) d.fuse d.still f0 fM) ?_
   intro _ _
   rw[if_pos hf,if_pos hf,if_pos hf]
   repeat'(first|(refine gY ?_;intros)|(refine hY ?_ ?_<;>intro hgd)|(refine jY ?_ ?_<;>intro _)|fail)
   refine cont_map (fun _ h=>disk_in (b:=b) (m1:=m1) (m2:=m2) (d:={d with still:=true}) (v:=v) (vs:=vs) hv hvs (Take.out takeD h)) ?_
   (refine rt_Y (y:=()) (hrs:=Tryz.results95) (hv:=?_) (hφ:=?_))
   ·rfl
   ·trivial
  ·rw[if_neg hf]
   refine spec_intro [] _ Tryz.func95 rfl Tryz.ntmps95 (by rfl) (fun w0 R=>?_)
   repeat'(first|(refine gY ?_;intros)|(refine hY ?_ ?_<;>intro hgd)|(refine jY ?_ ?_<;>intro _)|fail)
   refine opsL_map (fun _ h=>strRow0 h) ?_
   refine cl_Y (live_spec b [] (.map (some m1)) (.map (some m2)) v (.int .i64 d.room) (.int .i64 d.fuse) d (.slice none 0 0) (row 9 1 (.slice none 0 0) []) [] Vw.row (by simp) (by simp)) ?_
   intro _ _
   rw[h1]
   repeat'(first|(refine gY ?_;intros)|(refine hY ?_ ?_<;>intro hgd)|(refine jY ?_ ?_<;>intro _)|fail)
   refine cl_Y (burn_spec b [] (.map (some m1)) (.map (some m2)) v (.int .i64 d.room) d.fuse d.still f0 fM) ?_
   intro _ _
   rw[if_neg hf,if_neg hf,if_neg hf]
   repeat'(first|(refine gY ?_;intros)|(refine hY ?_ ?_<;>intro hgd)|(refine jY ?_ ?_<;>intro _)|fail)
   refine cl_Y (settle_spec b d.files d.sure m1 m2 v (.int .i64 d.room) _ (.bool d.still) (row 117 2 v vs)) ?_
   intro m3 _
   repeat'(first|(refine gY ?_;intros)|(refine hY ?_ ?_<;>intro hgd)|(refine jY ?_ ?_<;>intro _)|fail)
   refine cont_map (fun _ h=>clRow0 h) ?_
   refine cont_map (fun _ h=>disk_in (b:=b) (m1:=m1) (m2:=m3) (d:={d with fuse:=if(-1:Int)>d.fuse-1 then -1 else d.fuse-1,sure:=d.files,loose:=[]}) (v:=.slice none 0 0) (vs:=[]) rfl rfl (Take.out takeD h)) ?_
   (refine rt_Y (y:=()) (hrs:=Tryz.results95) (hv:=?_) (hφ:=?_))
   ·rfl
   ·trivial
 ·have t1:(!decide (d.live []=0))=true:=by simp[h1]
  rw[if_pos h1]
  refine spec_intro [] _ Tryz.func95 rfl Tryz.ntmps95 (by rfl) (fun w0 R=>?_)
  repeat'(first|(refine gY ?_;intros)|(refine hY ?_ ?_<;>intro hgd)|(refine jY ?_ ?_<;>intro _)|fail)
  refine opsL_map (fun _ h=>strRow0 h) ?_
  refine cl_Y (live_spec b [] (.map (some m1)) (.map (some m2)) v (.int .i64 d.room) (.int .i64 d.fuse) d (.slice none 0 0) (row 9 1 (.slice none 0 0) []) [] Vw.row (by simp) (by simp)) ?_
  intro _ _
  repeat'(first|(refine gY ?_;intros)|(refine hY ?_ ?_<;>intro hgd)|(refine jY ?_ ?_<;>intro _)|fail)
  refine cont_map (fun _ h=>disk_in (b:=b) (m1:=m1) (m2:=m2) (d:=d) (v:=v) (vs:=vs) hv hvs (Take.out takeD h)) ?_
  (refine rt_Y (y:=()) (hrs:=Tryz.results95) (hv:=?_) (hφ:=?_))
  ·rfl
  ·trivial
theorem min_rng{a:Int}{n:Nat}(h:0≤a):0≤(if(n:Int)<a then(n:Int)else a)∧(if(n:Int)<a then(n:Int)else a)≤(n:Int):=by split<;>omega
theorem read_spec(b:Nat)(d:Dk)(name:ByteArray)(off n:Int)(hn:name.size≤4611686018427387904):
  FSpec Tryz.prog 83 [.pointer (some ⟨b,0,none⟩),.string name,.int .i64 off,.int .i64 n] [diskP b d] Unit (fun _=>True) (fun _=>.tuple #[.string (d.read name off n).1,.int .i64 (d.read name off n).2]) (fun _=>[diskP b d]):=by
 refine fspec_ex ?_
 rintro⟨⟨m1,m2,v,vs⟩,hv,hvs⟩
 unfold diskL
 dsimp only at hv hvs ⊢
 have hns:∀ x∈[name],x.size≤4611686018427387904:=by simpa using hn
 have hg:=getK_encF name d.files
 have hh:d.has name=(fget name d.files).isSome:=rfl
 unfold Dk.read
 by_cases h1:d.live [name]=0
 ·have t1:(!decide (d.live [name]=0))=false:=by simp[h1]
  rw[if_neg (by simp[h1])]
  by_cases h2:off<0∨n<0
  ·rw[if_pos h2]
   cases t2:decide (off<0)with
   |true=>
    cases hf:fget name d.files with
    |none=>
     rw[hf]at hg
     simp only[Option.map_none]at hg
     refine spec_intro [] _ Tryz.func83 rfl Tryz.ntmps83 (by rfl) (fun w0 R=>?_)
     repeat'(first|(refine gY ?_;intros)|(refine hY ?_ ?_<;>intro hgd)|(refine jY ?_ ?_<;>intro _)|fail)
     rename_i vn hvn
     refine cl_Y (live_spec b [] (.map (some m1)) (.map (some m2)) v (.int .i64 d.room) (.int .i64 d.fuse) d vn (row 9 1 vn [[.string name]]) [name] Vw.row hns (by simp)) ?_
     intro _ _
     rw[h1]
     repeat'(first|(refine gY ?_;intros)|(refine hY ?_ ?_<;>intro hgd)|(refine jY ?_ ?_<;>intro _)|fail)
     refine cont_map (fun _ h=>disk_in (b:=b) (m1:=m1) (m2:=m2) (d:=d) (v:=v) (vs:=vs) hv hvs (Take.out takeD h)) ?_
     (refine rt_Y (y:=()) (hrs:=Tryz.results83) (hv:=?_) (hφ:=?_))
     ·rfl
     ·trivial
    |some t=>
     rw[hf]at hg
     simp only[Option.map_some]at hg
     refine spec_intro [] _ Tryz.func83 rfl Tryz.ntmps83 (by rfl) (fun w0 R=>?_)
     repeat'(first|(refine gY ?_;intros)|(refine hY ?_ ?_<;>intro hgd)|(refine jY ?_ ?_<;>intro _)|fail)
     rename_i vn hvn
     refine cl_Y (live_spec b [] (.map (some m1)) (.map (some m2)) v (.int .i64 d.room) (.int .i64 d.fuse) d vn (row 9 1 vn [[.string name]]) [name] Vw.row hns (by simp)) ?_
     intro _ _
     rw[h1]
     repeat'(first|(refine gY ?_;intros)|(refine hY ?_ ?_<;>intro hgd)|(refine jY ?_ ?_<;>intro _)|fail)
     refine cont_map (fun _ h=>disk_in (b:=b) (m1:=m1) (m2:=m2) (d:=d) (v:=v) (vs:=vs) hv hvs (Take.out takeD h)) ?_
     (refine rt_Y (y:=()) (hrs:=Tryz.results83) (hv:=?_) (hφ:=?_))
     ·rfl
     ·trivial
   |false=>
    have t3:decide (n<0)=true:=by simp at t2 ⊢;omega
    cases hf:fget name d.files with
    |none=>
     rw[hf]at hg
     simp only[Option.map_none]at hg
     refine spec_intro [] _ Tryz.func83 rfl Tryz.ntmps83 (by rfl) (fun w0 R=>?_)
     repeat'(first|(refine gY ?_;intros)|(refine hY ?_ ?_<;>intro hgd)|(refine jY ?_ ?_<;>intro _)|fail)
     rename_i vn hvn
     refine cl_Y (live_spec b [] (.map (some m1)) (.map (some m2)) v (.int .i64 d.room) (.int .i64 d.fuse) d vn (row 9 1 vn [[.string name]]) [name] Vw.row hns (by simp)) ?_
     intro _ _
     rw[h1]
     repeat'(first|(refine gY ?_;intros)|(refine hY ?_ ?_<;>intro hgd)|(refine jY ?_ ?_<;>intro _)|fail)
     refine cont_map (fun _ h=>disk_in (b:=b) (m1:=m1) (m2:=m2) (d:=d) (v:=v) (vs:=vs) hv hvs (Take.out takeD h)) ?_
     (refine rt_Y (y:=()) (hrs:=Tryz.results83) (hv:=?_) (hφ:=?_))
     ·rfl
     ·trivial
    |some t=>
     rw[hf]at hg
     simp only[Option.map_some]at hg
     refine spec_intro [] _ Tryz.func83 rfl Tryz.ntmps83 (by rfl) (fun w0 R=>?_)
     repeat'(first|(refine gY ?_;intros)|(refine hY ?_ ?_<;>intro hgd)|(refine jY ?_ ?_<;>intro _)|fail)
     rename_i vn hvn
     refine cl_Y (live_spec b [] (.map (some m1)) (.map (some m2)) v (.int .i64 d.room) (.int .i64 d.fuse) d vn (row 9 1 vn [[.string name]]) [name] Vw.row hns (by simp)) ?_
     intro _ _
     rw[h1]
     repeat'(first|(refine gY ?_;intros)|(refine hY ?_ ?_<;>intro hgd)|(refine jY ?_ ?_<;>intro _)|fail)
     refine cont_map (fun _ h=>disk_in (b:=b) (m1:=m1) (m2:=m2) (d:=d) (v:=v) (vs:=vs) hv hvs (Take.out takeD h)) ?_
     (refine rt_Y (y:=()) (hrs:=Tryz.results83) (hv:=?_) (hφ:=?_))
     ·rfl
     ·trivial
  ·rw[if_neg h2]
   have t2:decide (off<0)=false:=by simp;omega
   have t3:decide (n<0)=false:=by simp;omega
   cases hf:fget name d.files with
   |none=>
    rw[if_pos (by rw[hh,hf];rfl)]
    rw[hf]at hg
    simp only[Option.map_none]at hg
    refine spec_intro [] _ Tryz.func83 rfl Tryz.ntmps83 (by rfl) (fun w0 R=>?_)
    repeat'(first|(refine gY ?_;intros)|(refine hY ?_ ?_<;>intro hgd)|(refine jY ?_ ?_<;>intro _)|fail)
    rename_i vn hvn
    refine cl_Y (live_spec b [] (.map (some m1)) (.map (some m2)) v (.int .i64 d.room) (.int .i64 d.fuse) d vn (row 9 1 vn [[.string name]]) [name] Vw.row hns (by simp)) ?_
    intro _ _
    rw[h1]
    repeat'(first|(refine gY ?_;intros)|(refine hY ?_ ?_<;>intro hgd)|(refine jY ?_ ?_<;>intro _)|fail)
    refine cl_Y (has_spec b m1 d.files name (.map (some m2)) v (.int .i64 d.room) (.int .i64 d.fuse) (.bool d.still)) ?_
    intro _ _
    rw[hf]
    repeat'(first|(refine gY ?_;intros)|(refine hY ?_ ?_<;>intro hgd)|(refine jY ?_ ?_<;>intro _)|fail)
    refine cont_map (fun _ h=>disk_in (b:=b) (m1:=m1) (m2:=m2) (d:=d) (v:=v) (vs:=vs) hv hvs (Take.out takeD h)) ?_
    (refine rt_Y (y:=()) (hrs:=Tryz.results83) (hv:=?_) (hφ:=?_))
    ·rfl
    ·trivial
   |some t=>
    have ht:ftext name d.files=t:=by unfold ftext;rw[hf];rfl
    rw[if_neg (by rw[hh,hf];simp),ht]
    rw[hf]at hg
    simp only[Option.map_some]at hg
    have r1:=min_rng (a:=off) (n:=t.size) (by omega)
    have r2:=min_rng (a:=n) (n:=(t.extract (if(t.size:Int)<off then(t.size:Int)else off).toNat t.size).size) (by omega)
    refine spec_intro [] _ Tryz.func83 rfl Tryz.ntmps83 (by rfl) (fun w0 R=>?_)
    repeat'(first|(refine gY ?_;intros)|(refine hY ?_ ?_<;>intro hgd)|(refine jY ?_ ?_<;>intro _)|fail)
    rename_i vn hvn
    refine cl_Y (live_spec b [] (.map (some m1)) (.map (some m2)) v (.int .i64 d.room) (.int .i64 d.fuse) d vn (row 9 1 vn [[.string name]]) [name] Vw.row hns (by simp)) ?_
    intro _ _
    rw[h1]
    repeat'(first|(refine gY ?_;intros)|(refine hY ?_ ?_<;>intro hgd)|(refine jY ?_ ?_<;>intro _)|fail)
    refine cl_Y (has_spec b m1 d.files name (.map (some m2)) v (.int .i64 d.room) (.int .i64 d.fuse) (.bool d.still)) ?_
    intro _ _
    rw[hf]
    repeat'(first|(refine gY ?_;intros)|(refine hY ?_ ?_<;>intro hgd)|(refine jY ?_ ?_<;>intro _)|fail)
    refine cont_map (fun _ h=>disk_in (b:=b) (m1:=m1) (m2:=m2) (d:=d) (v:=v) (vs:=vs) hv hvs (Take.out takeD h)) ?_
    (refine rt_Y (y:=()) (hrs:=Tryz.results83) (hv:=?_) (hφ:=?_))
    ·rfl
    ·trivial
 ·have t1:(!decide (d.live [name]=0))=true:=by simp[h1]
  rw[if_pos h1]
  refine spec_intro [] _ Tryz.func83 rfl Tryz.ntmps83 (by rfl) (fun w0 R=>?_)
  repeat'(first|(refine gY ?_;intros)|(refine hY ?_ ?_<;>intro hgd)|(refine jY ?_ ?_<;>intro _)|fail)
  rename_i vn hvn
  refine cl_Y (live_spec b [] (.map (some m1)) (.map (some m2)) v (.int .i64 d.room) (.int .i64 d.fuse) d vn (row 9 1 vn [[.string name]]) [name] Vw.row hns (by simp)) ?_
  intro _ _
  repeat'(first|(refine gY ?_;intros)|(refine hY ?_ ?_<;>intro hgd)|(refine jY ?_ ?_<;>intro _)|fail)
  refine cont_map (fun _ h=>disk_in (b:=b) (m1:=m1) (m2:=m2) (d:=d) (v:=v) (vs:=vs) hv hvs (Take.out takeD h)) ?_
  (refine rt_Y (y:=()) (hrs:=Tryz.results83) (hv:=?_) (hφ:=?_))
  ·rfl
  ·trivial
theorem clsP_split:∀ {cs:List Cl} {vs:List (List Value)} (j:Nat) {c:Cl} {v:List Value},cs[j]? =some c→vs[j]? =some v→clsP cs vs=clsP (cs.take j) (vs.take j)++clP c v::clsP (cs.drop (j+1)) (vs.drop (j+1))
 | [],_,j,_,_,h,_=>by simp at h
 |_::_,[],j,_,_,_,h=>by simp at h
 |d::cs,w::vs,0,c,v,h,k=>by simp at h k;subst h k;rfl
 |d::cs,w::vs,j+1,c,v,h,k=>by
  have:=clsP_split j (cs:=cs) (vs:=vs) (by simpa using h) (by simpa using k)
  show clP d w::clsP cs vs=_
  rw[this];rfl
theorem cls_open{cs:List Cl}{vs:List (List Value)}{j:Nat}{c:Cl}{v:List Value}(h:cs[j]? =some c)(k:vs[j]? =some v){L:List HProp}{f:Frag}(s:SatL ((fun h=>SatL (clsP cs vs) h)::L) f):
  SatL ((fun h=>SatL (clsP (cs.take j) (vs.take j)) h)::clP c v::(fun h=>SatL (clsP (cs.drop (j+1)) (vs.drop (j+1))) h)::L) f:=by
 have s1:=SatL.flat s
 rw[clsP_split j h k,List.append_assoc]at s1
 refine SatL.unflat (M:=clsP (cs.take j) (vs.take j)) (satL_append_mono _ (fun _ s2=>?_) s1)
 exact SatL.consMono (A:=clP c v) s2 fun _ s3=>SatL.unflat s3
theorem cls_shut{cs:List Cl}{vs:List (List Value)}{j:Nat}{c:Cl}{v:List Value}(h:cs[j]? =some c)(k:vs[j]? =some v){L:List HProp}{f:Frag}
  (s:SatL ((fun h=>SatL (clsP (cs.take j) (vs.take j)) h)::clP c v::(fun h=>SatL (clsP (cs.drop (j+1)) (vs.drop (j+1))) h)::L) f):SatL ((fun h=>SatL (clsP cs vs) h)::L) f:=by
 refine SatL.unflat (M:=clsP cs vs) ?_
 rw[clsP_split j h k,List.append_assoc]
 refine satL_append_mono _ (fun _ s2=>?_) (SatL.flat s)
 exact SatL.consMono (A:=clP c v) s2 fun _ s3=>SatL.flat s3
theorem vspec_frameD{P:Program}{fv:Value}{args:List Value}{pre:List HProp}{Y:Type}{φ:Y→Prop}{ret:Y→Value}{post:Y→List HProp}(s:VSpec P fv args pre Y φ ret post)(F:List HProp):VSpec P fv args (pre++F) Y φ ret (fun y=>post y++F):=by
 intro w0 w R hs
 refine(s w0 w (F++R) (by rw[List.append_assoc]at hs;exact hs)).mono ?_
 rintro v w' ⟨y,hy,rfl,hs'⟩
 exact⟨y,hy,rfl,by rw[List.append_assoc];exact hs'⟩
theorem piece_v(n s:ByteArray)(v0 v1:Value)(m:Nat)(F:FS)(torn:Int)(ht:0<torn)(hz:(ftext n F).size+s.size≤1099511627776):VSpec Tryz.prog v1 [.map (some m),.int .i64 torn] [clP (.app n s) [v0,v1],mapK KStr m (encF F)] Unit (fun _=>True) (fun _=>.tuple #[])
  (fun _=>[clP (.app n s) [v0,v1],mapK KStr m (encF (runO ((Cl.app n s).piece torn) F))]):=by
 have e:runO ((Cl.app n s).piece torn) F=fput n (ftext n F++s.extract 0 (if(s.size:Int)<torn then(s.size:Int)else torn).toNat) F:=by
  unfold Cl.piece;simp only[ht,if_true];rfl
 rw[e]
 unfold clP
 refine vspec_ex ?_
 rintro⟨⟨bn,bs,bl⟩,hv⟩
 cases hv
 have hv:=vspec_frameD (vspec_func (args:=[.map (some m),.int .i64 torn]) (cap:=[.pointer (some ⟨bn,0,none⟩),.pointer (some ⟨bs,0,none⟩)]) (lay_spec m bn bs F n s torn (by omega) hz)) [pts bl (.cells [.func (.func 154) #[] [.pointer (some ⟨bn,0,none⟩),.pointer (some ⟨bs,0,none⟩)].toArray].toArray 115)]
 refine hv.conseq (fun _=>entD) (fun _ _=>⟨(),trivial,rfl,fun R h s=>?_⟩)
 exact ex_in ⟨(bn,bs,bl),rfl⟩ rfl ((entD) _ s)
theorem clP_shape{c:Cl}{w0 w1:Value}{h:Frag}(s:clP c [w0,w1] h):match c with
  | .app _ _=>∃ fs cs,w1= .func (.func 154) fs cs
  |_=>w1= .nilFunc:=by
 cases c with
 |app n t=>
  obtain⟨⟨⟨bn,bs,bl⟩,hv⟩,_⟩:=s
  cases hv
  exact⟨_,_,rfl⟩
 |trunc n k=>
  obtain⟨⟨⟨bn,bs⟩,hv⟩,_⟩:=s
  cases hv
  rfl
 |ren n k=>
  obtain⟨⟨⟨bn,bs⟩,hv⟩,_⟩:=s
  cases hv
  rfl
 |rem n=>
  obtain⟨⟨bn,hv⟩,_⟩:=s
  cases hv
  rfl
theorem row_learn{e n:Nat}{v:Value}{xs:List (List Value)}{L L':List HProp}(t:Take L [row e n v xs] L')(hn:0<n)(h:Frag)(s:SatL L h):∃ p cap,v= .slice p xs.length cap∧xs.length≤cap∧∀ q,p=some q→q.spot=none:=by
 obtain⟨h1,_,_,_,_,⟨g,hr⟩,_⟩:=t.out s
 rcases hr with⟨rfl,rfl⟩|⟨b,cap,rest,rfl,hl,_⟩
 ·exact⟨none,0,rfl,by simp,fun _ e=>by cases e⟩
 ·refine⟨_,cap,rfl,?_,fun _ e=>by cases e;rfl⟩
  rw[List.length_append,g.flatten_length]at hl
  exact Nat.le_of_mul_le_mul_right (by omega:xs.length*n≤cap*n) hn
theorem clP_learn{c:Cl}{w0 w1:Value}{L L':List HProp}(t:Take L [clP c [w0,w1]] L')(h:Frag)(s:SatL L h):match c with
  | .app _ _=>∃ fs cs,w1= .func (.func 154) fs cs
  |_=>w1= .nilFunc:=
 by
 obtain⟨h1,_,_,_,_,hH,_⟩:=t.out s
 have:=clP_shape hH
 cases c<;>exact this
theorem crash_spec(b:Nat)(d:Dk)(keep torn:Int)(hd:d.Ok)(hl:d.loose.length≤1099511627776):
  FSpec Tryz.prog 26 [.pointer (some ⟨b,0,none⟩),.int .i64 keep,.int .i64 torn] [diskP b d] Unit (fun _=>True) (fun _=>.int .i64 0) (fun _=>[diskP b (d.crash keep torn)]):=by
 refine fspec_ex ?_
 rintro⟨⟨m1,m2,v,vs⟩,hv,hvs⟩
 unfold diskL
 dsimp only at hv hvs ⊢
 obtain⟨hk,hkI⟩:=kept_le d keep
 rw[keptI_eq,← hvs]at hkI
 unfold Dk.crash
 generalize d.kept keep=k at hk hkI ⊢
 refine spec_intro [] _ Tryz.func26 rfl Tryz.ntmps26 (by rfl) (fun w0 R=>?_)
 refine ok_learn (row_learn (e:=117) (n:=2) (v:=v) (xs:=vs) takeD (by omega)) ?_
 rintro⟨pu,cu,rfl,hcu,hspot⟩
 have hkc:k≤cu:=by omega
 dsimp only[dkC]
 repeat'(first|(refine gY ?_;intros)|(refine hY ?_ ?_<;>intro hgd)|(refine jY ?_ ?_<;>intro _)|fail)
 refine cl_Y (clone_spec m2 (encF d.sure)) ?_
 intro m3 _
 have hkI':(if(vs.length:Int)<(if(0:Int)>keep then 0 else keep)then(vs.length:Int)else(if(0:Int)>keep then 0 else keep))=(k:Int):=hkI
 repeat'(first|(refine gY ?_;intros)|(refine hY ?_ ?_<;>intro hgd)|(refine jY ?_ ?_<;>intro _)|fail)
 refine ok_map (L':=[mapK KStr m3 (encF d.sure),pts b (.cells [.map (some m1),.map (some m2),.slice pu vs.length cu,.int .i64 d.room,.int .i64 d.fuse,.bool d.still].toArray 96),mapK KStr m2 (encF d.sure),row 117 2 (.slice pu vs.length cu) vs,fun h=>SatL (clsP d.loose vs) h]++R) entD ?_
 have hvw:Vw (row 117 2 (.slice pu vs.length cu) vs) 2 (.slice pu k cu) (vs.take k):=Vw.take Vw.row (by omega)
 refine ok_loop' (γ:=Nat) (fun j ρ L=>j≤k∧Knows ρ [(0,.pointer (some ⟨b,0,none⟩)),(2,.int .i64 torn),(7,.int .i64 (keptV vs.length keep)),(8,.map (some m3)),(31,.slice pu k cu),(32,.int .i64 k),(33,.int .i64 j)]∧
  L=[mapK KStr m3 (encF (play d.sure (d.loose.take j))),pts b (.cells [.map (some m1),.map (some m2),.slice pu vs.length cu,.int .i64 d.room,.int .i64 d.fuse,.bool d.still].toArray 96),mapK KStr m2 (encF d.sure),row 117 2 (.slice pu vs.length cu) vs,fun h=>SatL (clsP d.loose vs) h]++R) (fun j=>k-j) 0 ⟨by omega,⟨rfl,rfl,rfl,rfl,rfl,rfl,rfl,trivial⟩,rfl⟩ ?_
 rintro j ρ L ⟨hj,hkn,rfl⟩
 refine ok_regs hkn ?_
 cases t1:decide ((j:Int)<(k:Int))with
 |true=>
  have hjk:j<k:=by simpa using t1
  have hjl:j<d.loose.length:=by omega
  have hc:d.loose[j]? =some d.loose[j]:=List.getElem?_eq_getElem hjl
  have hx:vs[j]? =some (vs[j]'(by omega)):=List.getElem?_eq_getElem _
  have hok:=okSeq_at j hd.seq hc
  have hpl:=play_take_succ (l:=d.sure) hc
  refine ok_learn (VwIn.good (n:=2) (v:=.slice pu vs.length cu) (xs:=vs) (VwIn.there (VwIn.there (VwIn.there (VwIn.here Vw.row))))) ?_
  intro hgood
  have hlen:=(hgood _ (List.mem_of_getElem? hx)).1
  have hone:=(hgood _ (List.mem_of_getElem? hx)).2
  generalize d.loose[j]=c at hc hok hpl
  generalize vs[j]'(by omega)=e at hx hlen hone
  obtain⟨w0,w1,rfl⟩:∃ w0 w1,e=[w0,w1]:=by
   match e,hlen with
   | [w0,w1],_=>exact⟨w0,w1,rfl⟩
  have hxt:(vs.take k)[j]? =some [w0,w1]:=by rw[List.getElem?_take_of_lt hjk];exact hx
  have hw:=whole_v c w0 w1 m3 _ hok
  refine ok_learn (VwIn.base (n:=2) (p:=pu) (len:=vs.length) (cap:=cu) (xs:=vs) (VwIn.there (VwIn.there (VwIn.there (VwIn.here Vw.row)))) (by intro h;rw[h]at hx;simp at hx)) ?_
  rintro⟨bu,ou,rfl⟩
  refine ok_map (fun _ h=>cls_open hc hx (Take.out1 takeD h)) ?_
  repeat'(first|(refine gY ?_;intros)|(refine hY ?_ ?_<;>intro hgd)|(refine jY ?_ ?_<;>intro _)|fail)
  refine clV_Y (hw) ?_
  intro _ _
  rw[← hpl]
  repeat'(first|(refine gY ?_;intros)|(refine hY ?_ ?_<;>intro hgd)|(refine jY ?_ ?_<;>intro _)|fail)
  refine cont_map (fun _ h=>cls_shut hc hx (Take.out3 takeD h)) ?_
  refine cont_map (L':=[mapK KStr m3 (encF (play d.sure (d.loose.take (j+1)))),pts b (.cells [.map (some m1),.map (some m2),.slice (some ⟨bu,ou,none⟩) vs.length cu,.int .i64 d.room,.int .i64 d.fuse,.bool d.still].toArray 96),mapK KStr m2 (encF d.sure),row 117 2 (.slice (some ⟨bu,ou,none⟩) vs.length cu) vs,fun h=>SatL (clsP d.loose vs) h]++R) entD ?_
  refine cont_back (j+1) ⟨hjk,⟨rfl,rfl,rfl,rfl,rfl,rfl,rfl,trivial⟩,rfl⟩ (by omega)
 |false=>
  have hjk:j=k:=by simp at t1;omega
  subst hjk
  cases t2:decide (keptV vs.length keep<(vs.length:Int))with
  |false=>
   have hjl:d.loose.length≤j:=by rw[hkI]at t2;simp at t2;omega
   have htorn:d.torn j torn=play d.sure (d.loose.take j):=by
    unfold Dk.torn;rw[List.getElem?_eq_none hjl];rfl
   rw[htorn]
   repeat'(first|(refine gY ?_;intros)|(refine hY ?_ ?_<;>intro hgd)|(refine jY ?_ ?_<;>intro _)|fail)
   refine cl_Y (settle_spec b (play d.sure (d.loose.take j)) d.sure m3 m2 _ (.int .i64 d.room) (.int .i64 (-1)) (.bool false) (row 117 2 _ vs)) ?_
   intro m4 _
   repeat'(first|(refine gY ?_;intros)|(refine hY ?_ ?_<;>intro hgd)|(refine jY ?_ ?_<;>intro _)|fail)
   refine cont_map (fun _ h=>clRow0 h) ?_
   refine cont_map (fun _ h=>disk_in (b:=b) (m1:=m3) (m2:=m4) (d:={d with files:=play d.sure (d.loose.take j),sure:=play d.sure (d.loose.take j),loose:=[],fuse:= -1,still:=false}) (v:=.slice none 0 0) (vs:=[]) rfl rfl (Take.out takeD h)) ?_
   (refine rt_Y (y:=()) (hrs:=Tryz.results26) (hv:=?_) (hφ:=?_))
   ·rfl
   ·trivial
  |true=>
   have hjl:j<d.loose.length:=by rw[hkI]at t2;simp at t2;omega
   have hjv:j<vs.length:=by omega
   have hc:d.loose[j]? =some d.loose[j]:=List.getElem?_eq_getElem hjl
   have hx:vs[j]? =some (vs[j]'(by omega)):=List.getElem?_eq_getElem _
   have hok:=okSeq_at j hd.seq hc
   refine ok_learn (VwIn.good (n:=2) (v:=.slice pu vs.length cu) (xs:=vs) (VwIn.there (VwIn.there (VwIn.there (VwIn.here Vw.row))))) ?_
   intro hgood
   have hlen:=(hgood _ (List.mem_of_getElem? hx)).1
   have htorn:d.torn j torn=runO (d.loose[j].piece torn) (play d.sure (d.loose.take j)):=by
    unfold Dk.torn;rw[hc];rfl
   rw[htorn]
   generalize d.loose[j]=c at hc hok
   generalize vs[j]'(by omega)=e at hx hlen
   obtain⟨w0,w1,rfl⟩:∃ w0 w1,e=[w0,w1]:=by
    match e,hlen with
    | [w0,w1],_=>exact⟨w0,w1,rfl⟩
   refine ok_learn (VwIn.base (n:=2) (p:=pu) (len:=vs.length) (cap:=cu) (xs:=vs) (VwIn.there (VwIn.there (VwIn.there (VwIn.here Vw.row)))) (by intro h;rw[h]at hx;simp at hx)) ?_
   rintro⟨bu,ou,rfl⟩
   refine ok_map (fun _ h=>cls_open hc hx (Take.out1 takeD h)) ?_
   refine ok_learn (clP_learn (c:=c) (w0:=w0) (w1:=w1) takeD) ?_
   intro hsh
   cases c with
   |app n s=>
    obtain⟨fs,cs,rfl⟩:=hsh
    cases t3:decide (0<torn)with
    |true=>
     have ht:0<torn:=by simpa using t3
     have hp:=piece_v n s w0 (.func (.func 154) fs cs) m3 _ torn ht hok
     repeat'(first|(refine gY ?_;intros)|(refine hY ?_ ?_<;>intro hgd)|(refine jY ?_ ?_<;>intro _)|fail)
     refine clV_Y (hp) ?_
     intro _ _
     repeat'(first|(refine gY ?_;intros)|(refine hY ?_ ?_<;>intro hgd)|(refine jY ?_ ?_<;>intro _)|fail)
     refine cl_Y (settle_spec b (runO ((Cl.app n s).piece torn) (play d.sure (d.loose.take j))) d.sure m3 m2 _ (.int .i64 d.room) (.int .i64 (-1)) (.bool false) (row 117 2 _ vs)) ?_
     intro m4 _
     repeat'(first|(refine gY ?_;intros)|(refine hY ?_ ?_<;>intro hgd)|(refine jY ?_ ?_<;>intro _)|fail)
     refine cont_map (fun _ h=>clRow0 h) ?_
     refine cont_map (fun _ h=>disk_in (b:=b) (m1:=m3) (m2:=m4) (d:={d with files:=runO ((Cl.app n s).piece torn) (play d.sure (d.loose.take j)),sure:=runO ((Cl.app n s).piece torn) (play d.sure (d.loose.take j)),loose:=[],fuse:= -1,still:=false}) (v:=.slice none 0 0) (vs:=[]) rfl rfl (Take.out takeD h)) ?_
     (refine rt_Y (y:=()) (hrs:=Tryz.results26) (hv:=?_) (hφ:=?_))
     ·rfl
     ·trivial
    |false=>
     have hpn:runO ((Cl.app n s).piece torn) (play d.sure (d.loose.take j))=play d.sure (d.loose.take j):=by
      have ht:¬ 0<torn:=by simpa using t3
      simp only[Cl.piece,if_neg ht];rfl
     rw[hpn]
     repeat'(first|(refine gY ?_;intros)|(refine hY ?_ ?_<;>intro hgd)|(refine jY ?_ ?_<;>intro _)|fail)
     refine cl_Y (settle_spec b (play d.sure (d.loose.take j)) d.sure m3 m2 _ (.int .i64 d.room) (.int .i64 (-1)) (.bool false) (row 117 2 _ vs)) ?_
     intro m4 _
     repeat'(first|(refine gY ?_;intros)|(refine hY ?_ ?_<;>intro hgd)|(refine jY ?_ ?_<;>intro _)|fail)
     refine cont_map (fun _ h=>clRow0 h) ?_
     refine cont_map (fun _ h=>disk_in (b:=b) (m1:=m3) (m2:=m4) (d:={d with files:=play d.sure (d.loose.take j),sure:=play d.sure (d.loose.take j),loose:=[],fuse:= -1,still:=false}) (v:=.slice none 0 0) (vs:=[]) rfl rfl (Take.out takeD h)) ?_
     (refine rt_Y (y:=()) (hrs:=Tryz.results26) (hv:=?_) (hφ:=?_))
     ·rfl
     ·trivial
   |trunc n s=>
    dsimp only at hsh
    subst hsh
    have hpn:runO ((Cl.trunc n s).piece torn) (play d.sure (d.loose.take j))=play d.sure (d.loose.take j):=rfl
    rw[hpn]
    repeat'(first|(refine gY ?_;intros)|(refine hY ?_ ?_<;>intro hgd)|(refine jY ?_ ?_<;>intro _)|fail)
    refine cl_Y (settle_spec b (play d.sure (d.loose.take j)) d.sure m3 m2 _ (.int .i64 d.room) (.int .i64 (-1)) (.bool false) (row 117 2 _ vs)) ?_
    intro m4 _
    repeat'(first|(refine gY ?_;intros)|(refine hY ?_ ?_<;>intro hgd)|(refine jY ?_ ?_<;>intro _)|fail)
    refine cont_map (fun _ h=>clRow0 h) ?_
    refine cont_map (fun _ h=>disk_in (b:=b) (m1:=m3) (m2:=m4) (d:={d with files:=play d.sure (d.loose.take j),sure:=play d.sure (d.loose.take j),loose:=[],fuse:= -1,still:=false}) (v:=.slice none 0 0) (vs:=[]) rfl rfl (Take.out takeD h)) ?_
    (refine rt_Y (y:=()) (hrs:=Tryz.results26) (hv:=?_) (hφ:=?_))
    ·rfl
    ·trivial
   |ren n s=>
    dsimp only at hsh
    subst hsh
    have hpn:runO ((Cl.ren n s).piece torn) (play d.sure (d.loose.take j))=play d.sure (d.loose.take j):=rfl
    rw[hpn]
    repeat'(first|(refine gY ?_;intros)|(refine hY ?_ ?_<;>intro hgd)|(refine jY ?_ ?_<;>intro _)|fail)
    refine cl_Y (settle_spec b (play d.sure (d.loose.take j)) d.sure m3 m2 _ (.int .i64 d.room) (.int .i64 (-1)) (.bool false) (row 117 2 _ vs)) ?_
    intro m4 _
    repeat'(first|(refine gY ?_;intros)|(refine hY ?_ ?_<;>intro hgd)|(refine jY ?_ ?_<;>intro _)|fail)
    refine cont_map (fun _ h=>clRow0 h) ?_
    refine cont_map (fun _ h=>disk_in (b:=b) (m1:=m3) (m2:=m4) (d:={d with files:=play d.sure (d.loose.take j),sure:=play d.sure (d.loose.take j),loose:=[],fuse:= -1,still:=false}) (v:=.slice none 0 0) (vs:=[]) rfl rfl (Take.out takeD h)) ?_
    (refine rt_Y (y:=()) (hrs:=Tryz.results26) (hv:=?_) (hφ:=?_))
    ·rfl
    ·trivial
   |rem n=>
    dsimp only at hsh
    subst hsh
    have hpn:runO ((Cl.rem n).piece torn) (play d.sure (d.loose.take j))=play d.sure (d.loose.take j):=rfl
    rw[hpn]
    repeat'(first|(refine gY ?_;intros)|(refine hY ?_ ?_<;>intro hgd)|(refine jY ?_ ?_<;>intro _)|fail)
    refine cl_Y (settle_spec b (play d.sure (d.loose.take j)) d.sure m3 m2 _ (.int .i64 d.room) (.int .i64 (-1)) (.bool false) (row 117 2 _ vs)) ?_
    intro m4 _
    repeat'(first|(refine gY ?_;intros)|(refine hY ?_ ?_<;>intro hgd)|(refine jY ?_ ?_<;>intro _)|fail)
    refine cont_map (fun _ h=>clRow0 h) ?_
    refine cont_map (fun _ h=>disk_in (b:=b) (m1:=m3) (m2:=m4) (d:={d with files:=play d.sure (d.loose.take j),sure:=play d.sure (d.loose.take j),loose:=[],fuse:= -1,still:=false}) (v:=.slice none 0 0) (vs:=[]) rfl rfl (Take.out takeD h)) ?_
    (refine rt_Y (y:=()) (hrs:=Tryz.results26) (hv:=?_) (hφ:=?_))
    ·rfl
    ·trivial
end Go.Proofs.YtgbmjoenbocfcaaGreat
