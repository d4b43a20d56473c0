/- Own lemmas, used by the last text. Conditions: those that each theorem states. -/
import Derived.Test.YtmaoncnifomnkaaGreatDoorNaaf
import Derived.Test.YtmaoncnifomnkaaGreatDoorProg
set_option maxRecDepth 200000
set_option maxHeartbeats 8000000
namespace Go.Proofs.Tryz
open Go.Psl
abbrev p3:PC:=(⟨_,by conv=>lhs;reduce⟩:Rd (G f3 [])).1
theorem c3:f3.body.bind (comp f3.ntmps)=some p3:=by kernel_rfl
abbrev p4:PC:=(⟨_,by conv=>lhs;reduce⟩:Rd (G f4 [])).1
theorem c4:f4.body.bind (comp f4.ntmps)=some p4:=by kernel_rfl
abbrev p5:PC:=(⟨_,by conv=>lhs;reduce⟩:Rd (G f5 [])).1
theorem c5:f5.body.bind (comp f5.ntmps)=some p5:=by kernel_rfl
abbrev p6:PC:=(⟨_,by conv=>lhs;reduce⟩:Rd (G f6 [])).1
theorem c6:f6.body.bind (comp f6.ntmps)=some p6:=by kernel_rfl
abbrev p7:PC:=(⟨_,by conv=>lhs;reduce⟩:Rd (G f7 [])).1
theorem c7:f7.body.bind (comp f7.ntmps)=some p7:=by kernel_rfl
abbrev p8:PC:=(⟨_,by conv=>lhs;reduce⟩:Rd (G f8 [])).1
theorem c8:f8.body.bind (comp f8.ntmps)=some p8:=by kernel_rfl
abbrev p9:PC:=(⟨_,by conv=>lhs;reduce⟩:Rd (G f9 [])).1
theorem c9:f9.body.bind (comp f9.ntmps)=some p9:=by kernel_rfl
abbrev qI:PC:=(⟨_,by conv=>lhs;reduce⟩:Rd (K f10 0 [])).1
abbrev p10:PC:=(⟨_,by conv=>lhs;reduce⟩:Rd (fun a=>G f10 [a])).1 qI
theorem c10:f10.body.bind (comp f10.ntmps)=some p10:=by kernel_rfl
abbrev AcD:PC:=(⟨_,by conv=>lhs;reduce⟩:Rd (K f11 0 [])).1
abbrev AcE:PC:=(⟨_,by conv=>lhs;reduce⟩:Rd (K f11 1 [])).1
abbrev AcF:PC:=(⟨_,by conv=>lhs;reduce⟩:Rd (K f11 2 [])).1
abbrev p11:PC:=(⟨_,by conv=>lhs;reduce⟩:Rd (fun a b c=>G f11 [a,b,c])).1 AcD AcE AcF
theorem c11:f11.body.bind (comp f11.ntmps)=some p11:=by kernel_rfl
abbrev p12:PC:=(⟨_,by conv=>lhs;reduce⟩:Rd (G f12 [])).1
theorem c12:f12.body.bind (comp f12.ntmps)=some p12:=by kernel_rfl
abbrev p13:PC:=(⟨_,by conv=>lhs;reduce⟩:Rd (G f13 [])).1
theorem c13:f13.body.bind (comp f13.ntmps)=some p13:=by kernel_rfl
abbrev p14:PC:=(⟨_,by conv=>lhs;reduce⟩:Rd (G f14 [])).1
theorem c14:f14.body.bind (comp f14.ntmps)=some p14:=by kernel_rfl
abbrev p15:PC:=(⟨_,by conv=>lhs;reduce⟩:Rd (G f15 [])).1
theorem c15:f15.body.bind (comp f15.ntmps)=some p15:=by kernel_rfl
abbrev AES:PC:=(⟨_,by conv=>lhs;reduce⟩:Rd (K f16 0 [])).1
abbrev p16:PC:=(⟨_,by conv=>lhs;reduce⟩:Rd (fun a=>G f16 [a])).1 AES
theorem c16:f16.body.bind (comp f16.ntmps)=some p16:=by kernel_rfl
abbrev p17:PC:=(⟨_,by conv=>lhs;reduce⟩:Rd (G f17 [])).1
theorem c17:f17.body.bind (comp f17.ntmps)=some p17:=by kernel_rfl
abbrev p18:PC:=(⟨_,by conv=>lhs;reduce⟩:Rd (G f18 [])).1
theorem c18:f18.body.bind (comp f18.ntmps)=some p18:=by kernel_rfl
abbrev AVo:PC:=(⟨_,by conv=>lhs;reduce⟩:Rd (K f19 0 [])).1
abbrev p19:PC:=(⟨_,by conv=>lhs;reduce⟩:Rd (fun a=>G f19 [a])).1 AVo
theorem c19:f19.body.bind (comp f19.ntmps)=some p19:=by kernel_rfl
abbrev p20:PC:=(⟨_,by conv=>lhs;reduce⟩:Rd (G f20 [])).1
theorem c20:f20.body.bind (comp f20.ntmps)=some p20:=by kernel_rfl
abbrev p21:PC:=(⟨_,by conv=>lhs;reduce⟩:Rd (G f21 [])).1
theorem c21:f21.body.bind (comp f21.ntmps)=some p21:=by kernel_rfl
abbrev AL7:PC:=(⟨_,by conv=>lhs;reduce⟩:Rd (K f22 0 [])).1
abbrev AcG:PC:=(⟨_,by conv=>lhs;reduce⟩:Rd (K f22 1 [])).1
abbrev p22:PC:=(⟨_,by conv=>lhs;reduce⟩:Rd (fun a b=>G f22 [a,b])).1 AL7 AcG
theorem c22:f22.body.bind (comp f22.ntmps)=some p22:=by kernel_rfl
abbrev p23:PC:=(⟨_,by conv=>lhs;reduce⟩:Rd (G f23 [])).1
theorem c23:f23.body.bind (comp f23.ntmps)=some p23:=by kernel_rfl
abbrev p24:PC:=(⟨_,by conv=>lhs;reduce⟩:Rd (G f24 [])).1
theorem c24:f24.body.bind (comp f24.ntmps)=some p24:=by kernel_rfl
abbrev AcH:PC:=(⟨_,by conv=>lhs;reduce⟩:Rd (K f25 0 [])).1
abbrev AcI:PC:=(⟨_,by conv=>lhs;reduce⟩:Rd (K f25 1 [])).1
abbrev p25:PC:=(⟨_,by conv=>lhs;reduce⟩:Rd (fun a b=>G f25 [a,b])).1 AcH AcI
theorem c25:f25.body.bind (comp f25.ntmps)=some p25:=by kernel_rfl
abbrev AcJ:PC:=(⟨_,by conv=>lhs;reduce⟩:Rd (K f26 0 [])).1
abbrev p26:PC:=(⟨_,by conv=>lhs;reduce⟩:Rd (fun a=>G f26 [a])).1 AcJ
theorem c26:f26.body.bind (comp f26.ntmps)=some p26:=by kernel_rfl
abbrev ABJ:PC:=(⟨_,by conv=>lhs;reduce⟩:Rd (K f27 0 [])).1
abbrev p27:PC:=(⟨_,by conv=>lhs;reduce⟩:Rd (fun a=>G f27 [a])).1 ABJ
theorem c27:f27.body.bind (comp f27.ntmps)=some p27:=by kernel_rfl
abbrev p28:PC:=(⟨_,by conv=>lhs;reduce⟩:Rd (G f28 [])).1
theorem c28:f28.body.bind (comp f28.ntmps)=some p28:=by kernel_rfl
abbrev p29:PC:=(⟨_,by conv=>lhs;reduce⟩:Rd (G f29 [])).1
theorem c29:f29.body.bind (comp f29.ntmps)=some p29:=by kernel_rfl
abbrev AMj:PC:=(⟨_,by conv=>lhs;reduce⟩:Rd (K f30 0 [])).1
abbrev p30:PC:=(⟨_,by conv=>lhs;reduce⟩:Rd (fun a=>G f30 [a])).1 AMj
theorem c30:f30.body.bind (comp f30.ntmps)=some p30:=by kernel_rfl
abbrev AcK:PC:=(⟨_,by conv=>lhs;reduce⟩:Rd (K f31 0 [])).1
abbrev p31:PC:=(⟨_,by conv=>lhs;reduce⟩:Rd (fun a=>G f31 [a])).1 AcK
theorem c31:f31.body.bind (comp f31.ntmps)=some p31:=by kernel_rfl
abbrev AY2:PC:=(⟨_,by conv=>lhs;reduce⟩:Rd (K f32 0 [])).1
abbrev p32:PC:=(⟨_,by conv=>lhs;reduce⟩:Rd (fun a=>G f32 [a])).1 AY2
theorem c32:f32.body.bind (comp f32.ntmps)=some p32:=by kernel_rfl
abbrev AY3:PC:=(⟨_,by conv=>lhs;reduce⟩:Rd (K f33 0 [])).1
abbrev p33:PC:=(⟨_,by conv=>lhs;reduce⟩:Rd (fun a=>G f33 [a])).1 AY3
theorem c33:f33.body.bind (comp f33.ntmps)=some p33:=by kernel_rfl
abbrev AcL:PC:=(⟨_,by conv=>lhs;reduce⟩:Rd (K f34 0 [])).1
abbrev AcM:PC:=(⟨_,by conv=>lhs;reduce⟩:Rd (K f34 1 [])).1
abbrev AcN:PC:=(⟨_,by conv=>lhs;reduce⟩:Rd (K f34 2 [])).1
abbrev p34:PC:=(⟨_,by conv=>lhs;reduce⟩:Rd (fun a b c=>G f34 [a,b,c])).1 AcL AcM AcN
theorem c34:f34.body.bind (comp f34.ntmps)=some p34:=by kernel_rfl
abbrev p35:PC:=(⟨_,by conv=>lhs;reduce⟩:Rd (G f35 [])).1
theorem c35:f35.body.bind (comp f35.ntmps)=some p35:=by kernel_rfl
abbrev p36:PC:=(⟨_,by conv=>lhs;reduce⟩:Rd (G f36 [])).1
theorem c36:f36.body.bind (comp f36.ntmps)=some p36:=by kernel_rfl
abbrev p37:PC:=(⟨_,by conv=>lhs;reduce⟩:Rd (G f37 [])).1
theorem c37:f37.body.bind (comp f37.ntmps)=some p37:=by kernel_rfl
abbrev p38:PC:=(⟨_,by conv=>lhs;reduce⟩:Rd (G f38 [])).1
theorem c38:f38.body.bind (comp f38.ntmps)=some p38:=by kernel_rfl
abbrev p39:PC:=(⟨_,by conv=>lhs;reduce⟩:Rd (G f39 [])).1
theorem c39:f39.body.bind (comp f39.ntmps)=some p39:=by kernel_rfl
abbrev p40:PC:=(⟨_,by conv=>lhs;reduce⟩:Rd (G f40 [])).1
theorem c40:f40.body.bind (comp f40.ntmps)=some p40:=by kernel_rfl
abbrev p41:PC:=(⟨_,by conv=>lhs;reduce⟩:Rd (G f41 [])).1
theorem c41:f41.body.bind (comp f41.ntmps)=some p41:=by kernel_rfl
abbrev p42:PC:=(⟨_,by conv=>lhs;reduce⟩:Rd (G f42 [])).1
theorem c42:f42.body.bind (comp f42.ntmps)=some p42:=by kernel_rfl
abbrev AW4:PC:=(⟨_,by conv=>lhs;reduce⟩:Rd (K f43 0 [])).1
abbrev p43:PC:=(⟨_,by conv=>lhs;reduce⟩:Rd (fun a=>G f43 [a])).1 AW4
theorem c43:f43.body.bind (comp f43.ntmps)=some p43:=by kernel_rfl
abbrev p44:PC:=(⟨_,by conv=>lhs;reduce⟩:Rd (G f44 [])).1
theorem c44:f44.body.bind (comp f44.ntmps)=some p44:=by kernel_rfl
abbrev AcO:PC:=(⟨_,by conv=>lhs;reduce⟩:Rd (K f45 0 [])).1
abbrev p45:PC:=(⟨_,by conv=>lhs;reduce⟩:Rd (fun a=>G f45 [a])).1 AcO
theorem c45:f45.body.bind (comp f45.ntmps)=some p45:=by kernel_rfl
abbrev dz:PC:=(⟨_,by conv=>lhs;reduce⟩:Rd (K f46 0 [])).1
abbrev p46:PC:=(⟨_,by conv=>lhs;reduce⟩:Rd (fun a=>G f46 [a])).1 dz
theorem c46:f46.body.bind (comp f46.ntmps)=some p46:=by kernel_rfl
abbrev p47:PC:=(⟨_,by conv=>lhs;reduce⟩:Rd (G f47 [])).1
theorem c47:f47.body.bind (comp f47.ntmps)=some p47:=by kernel_rfl
abbrev AQU:PC:=(⟨_,by conv=>lhs;reduce⟩:Rd (K f48 0 [])).1
abbrev p48:PC:=(⟨_,by conv=>lhs;reduce⟩:Rd (fun a=>G f48 [a])).1 AQU
theorem c48:f48.body.bind (comp f48.ntmps)=some p48:=by kernel_rfl
abbrev p49:PC:=(⟨_,by conv=>lhs;reduce⟩:Rd (G f49 [])).1
theorem c49:f49.body.bind (comp f49.ntmps)=some p49:=by kernel_rfl
abbrev p50:PC:=(⟨_,by conv=>lhs;reduce⟩:Rd (G f50 [])).1
theorem c50:f50.body.bind (comp f50.ntmps)=some p50:=by kernel_rfl
abbrev p51:PC:=(⟨_,by conv=>lhs;reduce⟩:Rd (G f51 [])).1
theorem c51:f51.body.bind (comp f51.ntmps)=some p51:=by kernel_rfl
abbrev AWC:PC:=(⟨_,by conv=>lhs;reduce⟩:Rd (K f52 0 [])).1
abbrev AW5:PC:=(⟨_,by conv=>lhs;reduce⟩:Rd (fun a=>K f52 1 [a])).1 AWC
abbrev p52:PC:=(⟨_,by conv=>lhs;reduce⟩:Rd (fun a=>G f52 [a])).1 AW5
theorem c52:f52.body.bind (comp f52.ntmps)=some p52:=by kernel_rfl
abbrev PS:PC:=(⟨_,by conv=>lhs;reduce⟩:Rd (K f53 0 [])).1
abbrev PT:PC:=(⟨_,by conv=>lhs;reduce⟩:Rd (K f53 1 [])).1
abbrev p53:PC:=(⟨_,by conv=>lhs;reduce⟩:Rd (fun a b=>G f53 [a,b])).1 PS PT
theorem c53:f53.body.bind (comp f53.ntmps)=some p53:=by kernel_rfl
abbrev AH3:PC:=(⟨_,by conv=>lhs;reduce⟩:Rd (K f54 0 [])).1
abbrev p54:PC:=(⟨_,by conv=>lhs;reduce⟩:Rd (fun a=>G f54 [a])).1 AH3
theorem c54:f54.body.bind (comp f54.ntmps)=some p54:=by kernel_rfl
abbrev p55:PC:=(⟨_,by conv=>lhs;reduce⟩:Rd (G f55 [])).1
theorem c55:f55.body.bind (comp f55.ntmps)=some p55:=by kernel_rfl
abbrev p56:PC:=(⟨_,by conv=>lhs;reduce⟩:Rd (G f56 [])).1
theorem c56:f56.body.bind (comp f56.ntmps)=some p56:=by kernel_rfl
abbrev p57:PC:=(⟨_,by conv=>lhs;reduce⟩:Rd (G f57 [])).1
theorem c57:f57.body.bind (comp f57.ntmps)=some p57:=by kernel_rfl
abbrev p58:PC:=(⟨_,by conv=>lhs;reduce⟩:Rd (G f58 [])).1
theorem c58:f58.body.bind (comp f58.ntmps)=some p58:=by kernel_rfl
abbrev AcP:PC:=(⟨_,by conv=>lhs;reduce⟩:Rd (K f59 0 [])).1
abbrev p59:PC:=(⟨_,by conv=>lhs;reduce⟩:Rd (fun a=>G f59 [a])).1 AcP
theorem c59:f59.body.bind (comp f59.ntmps)=some p59:=by kernel_rfl
abbrev p60:PC:=(⟨_,by conv=>lhs;reduce⟩:Rd (G f60 [])).1
theorem c60:f60.body.bind (comp f60.ntmps)=some p60:=by kernel_rfl
abbrev p62:PC:=(⟨_,by conv=>lhs;reduce⟩:Rd (G f62 [])).1
theorem c62:f62.body.bind (comp f62.ntmps)=some p62:=by kernel_rfl
abbrev ADD:PC:=(⟨_,by conv=>lhs;reduce⟩:Rd (K f63 0 [])).1
abbrev p63:PC:=(⟨_,by conv=>lhs;reduce⟩:Rd (fun a=>G f63 [a])).1 ADD
theorem c63:f63.body.bind (comp f63.ntmps)=some p63:=by kernel_rfl
abbrev p64:PC:=(⟨_,by conv=>lhs;reduce⟩:Rd (G f64 [])).1
theorem c64:f64.body.bind (comp f64.ntmps)=some p64:=by kernel_rfl
abbrev p65:PC:=(⟨_,by conv=>lhs;reduce⟩:Rd (G f65 [])).1
theorem c65:f65.body.bind (comp f65.ntmps)=some p65:=by kernel_rfl
abbrev p66:PC:=(⟨_,by conv=>lhs;reduce⟩:Rd (G f66 [])).1
theorem c66:f66.body.bind (comp f66.ntmps)=some p66:=by kernel_rfl
abbrev cg:PC:=(⟨_,by conv=>lhs;reduce⟩:Rd (K f67 0 [])).1
abbrev p67:PC:=(⟨_,by conv=>lhs;reduce⟩:Rd (fun a=>G f67 [a])).1 cg
theorem c67:f67.body.bind (comp f67.ntmps)=some p67:=by kernel_rfl
abbrev p68:PC:=(⟨_,by conv=>lhs;reduce⟩:Rd (G f68 [])).1
theorem c68:f68.body.bind (comp f68.ntmps)=some p68:=by kernel_rfl
abbrev p69:PC:=(⟨_,by conv=>lhs;reduce⟩:Rd (G f69 [])).1
theorem c69:f69.body.bind (comp f69.ntmps)=some p69:=by kernel_rfl
abbrev p70:PC:=(⟨_,by conv=>lhs;reduce⟩:Rd (G f70 [])).1
theorem c70:f70.body.bind (comp f70.ntmps)=some p70:=by kernel_rfl
abbrev p71:PC:=(⟨_,by conv=>lhs;reduce⟩:Rd (G f71 [])).1
theorem c71:f71.body.bind (comp f71.ntmps)=some p71:=by kernel_rfl
abbrev AW6:PC:=(⟨_,by conv=>lhs;reduce⟩:Rd (K f72 0 [])).1
abbrev AW7:PC:=(⟨_,by conv=>lhs;reduce⟩:Rd (K f72 1 [])).1
abbrev p72:PC:=(⟨_,by conv=>lhs;reduce⟩:Rd (fun a b=>G f72 [a,b])).1 AW6 AW7
theorem c72:f72.body.bind (comp f72.ntmps)=some p72:=by kernel_rfl
abbrev AXn:PC:=(⟨_,by conv=>lhs;reduce⟩:Rd (K f73 0 [])).1
abbrev AXo:PC:=(⟨_,by conv=>lhs;reduce⟩:Rd (K f73 1 [])).1
abbrev AVp:PC:=(⟨_,by conv=>lhs;reduce⟩:Rd (fun a b=>K f73 2 [a,b])).1 AXn AXo
abbrev p73:PC:=(⟨_,by conv=>lhs;reduce⟩:Rd (fun a=>G f73 [a])).1 AVp
theorem c73:f73.body.bind (comp f73.ntmps)=some p73:=by kernel_rfl
abbrev wU:PC:=(⟨_,by conv=>lhs;reduce⟩:Rd (K f74 0 [])).1
abbrev p74:PC:=(⟨_,by conv=>lhs;reduce⟩:Rd (fun a=>G f74 [a])).1 wU
theorem c74:f74.body.bind (comp f74.ntmps)=some p74:=by kernel_rfl
abbrev p75:PC:=(⟨_,by conv=>lhs;reduce⟩:Rd (G f75 [])).1
theorem c75:f75.body.bind (comp f75.ntmps)=some p75:=by kernel_rfl
abbrev p76:PC:=(⟨_,by conv=>lhs;reduce⟩:Rd (G f76 [])).1
theorem c76:f76.body.bind (comp f76.ntmps)=some p76:=by kernel_rfl
abbrev p77:PC:=(⟨_,by conv=>lhs;reduce⟩:Rd (G f77 [])).1
theorem c77:f77.body.bind (comp f77.ntmps)=some p77:=by kernel_rfl
abbrev p78:PC:=(⟨_,by conv=>lhs;reduce⟩:Rd (G f78 [])).1
theorem c78:f78.body.bind (comp f78.ntmps)=some p78:=by kernel_rfl
abbrev p79:PC:=(⟨_,by conv=>lhs;reduce⟩:Rd (G f79 [])).1
theorem c79:f79.body.bind (comp f79.ntmps)=some p79:=by kernel_rfl
abbrev p80:PC:=(⟨_,by conv=>lhs;reduce⟩:Rd (G f80 [])).1
theorem c80:f80.body.bind (comp f80.ntmps)=some p80:=by kernel_rfl
abbrev p81:PC:=(⟨_,by conv=>lhs;reduce⟩:Rd (G f81 [])).1
theorem c81:f81.body.bind (comp f81.ntmps)=some p81:=by kernel_rfl
abbrev p82:PC:=(⟨_,by conv=>lhs;reduce⟩:Rd (G f82 [])).1
theorem c82:f82.body.bind (comp f82.ntmps)=some p82:=by kernel_rfl
abbrev p83:PC:=(⟨_,by conv=>lhs;reduce⟩:Rd (G f83 [])).1
theorem c83:f83.body.bind (comp f83.ntmps)=some p83:=by kernel_rfl
abbrev p84:PC:=(⟨_,by conv=>lhs;reduce⟩:Rd (G f84 [])).1
theorem c84:f84.body.bind (comp f84.ntmps)=some p84:=by kernel_rfl
abbrev p85:PC:=(⟨_,by conv=>lhs;reduce⟩:Rd (G f85 [])).1
theorem c85:f85.body.bind (comp f85.ntmps)=some p85:=by kernel_rfl
abbrev p86:PC:=(⟨_,by conv=>lhs;reduce⟩:Rd (G f86 [])).1
theorem c86:f86.body.bind (comp f86.ntmps)=some p86:=by kernel_rfl
abbrev AXp:PC:=(⟨_,by conv=>lhs;reduce⟩:Rd (K f87 0 [])).1
abbrev p87:PC:=(⟨_,by conv=>lhs;reduce⟩:Rd (fun a=>G f87 [a])).1 AXp
theorem c87:f87.body.bind (comp f87.ntmps)=some p87:=by kernel_rfl
abbrev p88:PC:=(⟨_,by conv=>lhs;reduce⟩:Rd (G f88 [])).1
theorem c88:f88.body.bind (comp f88.ntmps)=some p88:=by kernel_rfl
abbrev HI:PC:=(⟨_,by conv=>lhs;reduce⟩:Rd (K f89 0 [])).1
abbrev p89:PC:=(⟨_,by conv=>lhs;reduce⟩:Rd (fun a=>G f89 [a])).1 HI
theorem c89:f89.body.bind (comp f89.ntmps)=some p89:=by kernel_rfl
abbrev p90:PC:=(⟨_,by conv=>lhs;reduce⟩:Rd (G f90 [])).1
theorem c90:f90.body.bind (comp f90.ntmps)=some p90:=by kernel_rfl
abbrev p91:PC:=(⟨_,by conv=>lhs;reduce⟩:Rd (G f91 [])).1
theorem c91:f91.body.bind (comp f91.ntmps)=some p91:=by kernel_rfl
abbrev p92:PC:=(⟨_,by conv=>lhs;reduce⟩:Rd (G f92 [])).1
theorem c92:f92.body.bind (comp f92.ntmps)=some p92:=by kernel_rfl
abbrev p93:PC:=(⟨_,by conv=>lhs;reduce⟩:Rd (G f93 [])).1
theorem c93:f93.body.bind (comp f93.ntmps)=some p93:=by kernel_rfl
abbrev p94:PC:=(⟨_,by conv=>lhs;reduce⟩:Rd (G f94 [])).1
theorem c94:f94.body.bind (comp f94.ntmps)=some p94:=by kernel_rfl
abbrev p95:PC:=(⟨_,by conv=>lhs;reduce⟩:Rd (G f95 [])).1
theorem c95:f95.body.bind (comp f95.ntmps)=some p95:=by kernel_rfl
abbrev p96:PC:=(⟨_,by conv=>lhs;reduce⟩:Rd (G f96 [])).1
theorem c96:f96.body.bind (comp f96.ntmps)=some p96:=by kernel_rfl
abbrev p97:PC:=(⟨_,by conv=>lhs;reduce⟩:Rd (G f97 [])).1
theorem c97:f97.body.bind (comp f97.ntmps)=some p97:=by kernel_rfl
abbrev p98:PC:=(⟨_,by conv=>lhs;reduce⟩:Rd (G f98 [])).1
theorem c98:f98.body.bind (comp f98.ntmps)=some p98:=by kernel_rfl
abbrev p99:PC:=(⟨_,by conv=>lhs;reduce⟩:Rd (G f99 [])).1
theorem c99:f99.body.bind (comp f99.ntmps)=some p99:=by kernel_rfl
abbrev p100:PC:=(⟨_,by conv=>lhs;reduce⟩:Rd (G f100 [])).1
theorem c100:f100.body.bind (comp f100.ntmps)=some p100:=by kernel_rfl
abbrev p101:PC:=(⟨_,by conv=>lhs;reduce⟩:Rd (G f101 [])).1
theorem c101:f101.body.bind (comp f101.ntmps)=some p101:=by kernel_rfl
abbrev p102:PC:=(⟨_,by conv=>lhs;reduce⟩:Rd (G f102 [])).1
theorem c102:f102.body.bind (comp f102.ntmps)=some p102:=by kernel_rfl
abbrev p103:PC:=(⟨_,by conv=>lhs;reduce⟩:Rd (G f103 [])).1
theorem AFN:f103.body.bind (comp f103.ntmps)=some p103:=by kernel_rfl
abbrev AWS:PC:=(⟨_,by conv=>lhs;reduce⟩:Rd (K f104 0 [])).1
abbrev p104:PC:=(⟨_,by conv=>lhs;reduce⟩:Rd (fun a=>G f104 [a])).1 AWS
theorem c104:f104.body.bind (comp f104.ntmps)=some p104:=by kernel_rfl
abbrev p105:PC:=(⟨_,by conv=>lhs;reduce⟩:Rd (G f105 [])).1
theorem c105:f105.body.bind (comp f105.ntmps)=some p105:=by kernel_rfl
abbrev AXL:PC:=(⟨_,by conv=>lhs;reduce⟩:Rd (K f106 0 [])).1
abbrev p106:PC:=(⟨_,by conv=>lhs;reduce⟩:Rd (fun a=>G f106 [a])).1 AXL
theorem c106:f106.body.bind (comp f106.ntmps)=some p106:=by kernel_rfl
abbrev p107:PC:=(⟨_,by conv=>lhs;reduce⟩:Rd (G f107 [])).1
theorem AP9:f107.body.bind (comp f107.ntmps)=some p107:=by kernel_rfl
abbrev p108:PC:=(⟨_,by conv=>lhs;reduce⟩:Rd (G f108 [])).1
theorem AOf:f108.body.bind (comp f108.ntmps)=some p108:=by kernel_rfl
abbrev p109:PC:=(⟨_,by conv=>lhs;reduce⟩:Rd (G f109 [])).1
theorem AcQ:f109.body.bind (comp f109.ntmps)=some p109:=by kernel_rfl
abbrev p110:PC:=(⟨_,by conv=>lhs;reduce⟩:Rd (G f110 [])).1
theorem AcR:f110.body.bind (comp f110.ntmps)=some p110:=by kernel_rfl
abbrev p111:PC:=(⟨_,by conv=>lhs;reduce⟩:Rd (G f111 [])).1
theorem c111:f111.body.bind (comp f111.ntmps)=some p111:=by kernel_rfl
abbrev sO:PC:=(⟨_,by conv=>lhs;reduce⟩:Rd (K f112 0 [])).1
abbrev p112:PC:=(⟨_,by conv=>lhs;reduce⟩:Rd (fun a=>G f112 [a])).1 sO
theorem ASd:f112.body.bind (comp f112.ntmps)=some p112:=by kernel_rfl
abbrev APF:PC:=(⟨_,by conv=>lhs;reduce⟩:Rd (K f113 0 [])).1
abbrev p113:PC:=(⟨_,by conv=>lhs;reduce⟩:Rd (fun a=>G f113 [a])).1 APF
theorem AcS:f113.body.bind (comp f113.ntmps)=some p113:=by kernel_rfl
abbrev p114:PC:=(⟨_,by conv=>lhs;reduce⟩:Rd (G f114 [])).1
theorem c114:f114.body.bind (comp f114.ntmps)=some p114:=by kernel_rfl
abbrev p115:PC:=(⟨_,by conv=>lhs;reduce⟩:Rd (G f115 [])).1
theorem c115:f115.body.bind (comp f115.ntmps)=some p115:=by kernel_rfl
abbrev ANj:PC:=(⟨_,by conv=>lhs;reduce⟩:Rd (K f116 0 [])).1
abbrev p116:PC:=(⟨_,by conv=>lhs;reduce⟩:Rd (fun a=>G f116 [a])).1 ANj
theorem AcT:f116.body.bind (comp f116.ntmps)=some p116:=by kernel_rfl
abbrev NZ:PC:=(⟨_,by conv=>lhs;reduce⟩:Rd (K f117 0 [])).1
abbrev p117:PC:=(⟨_,by conv=>lhs;reduce⟩:Rd (fun a=>G f117 [a])).1 NZ
theorem AQw:f117.body.bind (comp f117.ntmps)=some p117:=by kernel_rfl
abbrev ALS:PC:=(⟨_,by conv=>lhs;reduce⟩:Rd (K f118 0 [])).1
abbrev p118:PC:=(⟨_,by conv=>lhs;reduce⟩:Rd (fun a=>G f118 [a])).1 ALS
theorem AcU:f118.body.bind (comp f118.ntmps)=some p118:=by kernel_rfl
abbrev p119:PC:=(⟨_,by conv=>lhs;reduce⟩:Rd (G f119 [])).1
theorem c119:f119.body.bind (comp f119.ntmps)=some p119:=by kernel_rfl
abbrev AVq:PC:=(⟨_,by conv=>lhs;reduce⟩:Rd (K f120 0 [])).1
abbrev AWT:PC:=(⟨_,by conv=>lhs;reduce⟩:Rd (fun a=>K f120 1 [a])).1 AVq
abbrev AVr:PC:=(⟨_,by conv=>lhs;reduce⟩:Rd (K f120 2 [])).1
abbrev p120:PC:=(⟨_,by conv=>lhs;reduce⟩:Rd (fun a b=>G f120 [a,b])).1 AWT AVr
theorem Aa3:f120.body.bind (comp f120.ntmps)=some p120:=by kernel_rfl
abbrev ATp:PC:=(⟨_,by conv=>lhs;reduce⟩:Rd (K f121 0 [])).1
abbrev p121:PC:=(⟨_,by conv=>lhs;reduce⟩:Rd (fun a=>G f121 [a])).1 ATp
theorem qP:f121.body.bind (comp f121.ntmps)=some p121:=by kernel_rfl
abbrev AWU:PC:=(⟨_,by conv=>lhs;reduce⟩:Rd (K f122 0 [])).1
abbrev p122:PC:=(⟨_,by conv=>lhs;reduce⟩:Rd (fun a=>G f122 [a])).1 AWU
theorem c122:f122.body.bind (comp f122.ntmps)=some p122:=by kernel_rfl
abbrev p123:PC:=(⟨_,by conv=>lhs;reduce⟩:Rd (G f123 [])).1
theorem c123:f123.body.bind (comp f123.ntmps)=some p123:=by kernel_rfl
abbrev p124:PC:=(⟨_,by conv=>lhs;reduce⟩:Rd (G f124 [])).1
theorem AVT:f124.body.bind (comp f124.ntmps)=some p124:=by kernel_rfl
abbrev p125:PC:=(⟨_,by conv=>lhs;reduce⟩:Rd (G f125 [])).1
theorem c125:f125.body.bind (comp f125.ntmps)=some p125:=by kernel_rfl
abbrev p126:PC:=(⟨_,by conv=>lhs;reduce⟩:Rd (G f126 [])).1
theorem c126:f126.body.bind (comp f126.ntmps)=some p126:=by kernel_rfl
abbrev p128:PC:=(⟨_,by conv=>lhs;reduce⟩:Rd (G f128 [])).1
theorem c128:f128.body.bind (comp f128.ntmps)=some p128:=by kernel_rfl
abbrev AWV:PC:=(⟨_,by conv=>lhs;reduce⟩:Rd (K f129 0 [])).1
abbrev p129:PC:=(⟨_,by conv=>lhs;reduce⟩:Rd (fun a=>G f129 [a])).1 AWV
theorem c129:f129.body.bind (comp f129.ntmps)=some p129:=by kernel_rfl
abbrev p130:PC:=(⟨_,by conv=>lhs;reduce⟩:Rd (G f130 [])).1
theorem c130:f130.body.bind (comp f130.ntmps)=some p130:=by kernel_rfl
abbrev p131:PC:=(⟨_,by conv=>lhs;reduce⟩:Rd (G f131 [])).1
theorem AEH:f131.body.bind (comp f131.ntmps)=some p131:=by kernel_rfl
abbrev p132:PC:=(⟨_,by conv=>lhs;reduce⟩:Rd (G f132 [])).1
theorem c132:f132.body.bind (comp f132.ntmps)=some p132:=by kernel_rfl
abbrev p133:PC:=(⟨_,by conv=>lhs;reduce⟩:Rd (G f133 [])).1
theorem c133:f133.body.bind (comp f133.ntmps)=some p133:=by kernel_rfl
abbrev p134:PC:=(⟨_,by conv=>lhs;reduce⟩:Rd (G f134 [])).1
theorem ym:f134.body.bind (comp f134.ntmps)=some p134:=by kernel_rfl
abbrev p135:PC:=(⟨_,by conv=>lhs;reduce⟩:Rd (G f135 [])).1
theorem c135:f135.body.bind (comp f135.ntmps)=some p135:=by kernel_rfl
abbrev AWW:PC:=(⟨_,by conv=>lhs;reduce⟩:Rd (K f136 0 [])).1
abbrev p136:PC:=(⟨_,by conv=>lhs;reduce⟩:Rd (fun a=>G f136 [a])).1 AWW
theorem c136:f136.body.bind (comp f136.ntmps)=some p136:=by kernel_rfl
abbrev Rt:PC:=(⟨_,by conv=>lhs;reduce⟩:Rd (K f137 0 [])).1
abbrev AVs:PC:=(⟨_,by conv=>lhs;reduce⟩:Rd (fun a=>K f137 1 [a])).1 Rt
abbrev p137:PC:=(⟨_,by conv=>lhs;reduce⟩:Rd (fun a=>G f137 [a])).1 AVs
theorem c137:f137.body.bind (comp f137.ntmps)=some p137:=by kernel_rfl
abbrev sR:PC:=(⟨_,by conv=>lhs;reduce⟩:Rd (K f138 0 [])).1
abbrev p138:PC:=(⟨_,by conv=>lhs;reduce⟩:Rd (fun a=>G f138 [a])).1 sR
theorem uc:f138.body.bind (comp f138.ntmps)=some p138:=by kernel_rfl
abbrev Xl:PC:=(⟨_,by conv=>lhs;reduce⟩:Rd (K f139 0 [])).1
abbrev p139:PC:=(⟨_,by conv=>lhs;reduce⟩:Rd (fun a=>G f139 [a])).1 Xl
theorem c139:f139.body.bind (comp f139.ntmps)=some p139:=by kernel_rfl
abbrev AXM:PC:=(⟨_,by conv=>lhs;reduce⟩:Rd (K f140 0 [])).1
abbrev p140:PC:=(⟨_,by conv=>lhs;reduce⟩:Rd (fun a=>G f140 [a])).1 AXM
theorem c140:f140.body.bind (comp f140.ntmps)=some p140:=by kernel_rfl
abbrev sS:PC:=(⟨_,by conv=>lhs;reduce⟩:Rd (K f141 0 [])).1
abbrev p141:PC:=(⟨_,by conv=>lhs;reduce⟩:Rd (fun a=>G f141 [a])).1 sS
theorem c141:f141.body.bind (comp f141.ntmps)=some p141:=by kernel_rfl
abbrev tB:PC:=(⟨_,by conv=>lhs;reduce⟩:Rd (K f142 0 [])).1
abbrev p142:PC:=(⟨_,by conv=>lhs;reduce⟩:Rd (fun a=>G f142 [a])).1 tB
theorem c142:f142.body.bind (comp f142.ntmps)=some p142:=by kernel_rfl
abbrev p143:PC:=(⟨_,by conv=>lhs;reduce⟩:Rd (G f143 [])).1
theorem AQA:f143.body.bind (comp f143.ntmps)=some p143:=by kernel_rfl
abbrev p144:PC:=(⟨_,by conv=>lhs;reduce⟩:Rd (G f144 [])).1
theorem ASg:f144.body.bind (comp f144.ntmps)=some p144:=by kernel_rfl
abbrev AVt:PC:=(⟨_,by conv=>lhs;reduce⟩:Rd (K f145 0 [])).1
abbrev p145:PC:=(⟨_,by conv=>lhs;reduce⟩:Rd (fun a=>G f145 [a])).1 AVt
theorem c145:f145.body.bind (comp f145.ntmps)=some p145:=by kernel_rfl
abbrev p146:PC:=(⟨_,by conv=>lhs;reduce⟩:Rd (G f146 [])).1
theorem c146:f146.body.bind (comp f146.ntmps)=some p146:=by kernel_rfl
abbrev p147:PC:=(⟨_,by conv=>lhs;reduce⟩:Rd (G f147 [])).1
theorem c147:f147.body.bind (comp f147.ntmps)=some p147:=by kernel_rfl
abbrev p148:PC:=(⟨_,by conv=>lhs;reduce⟩:Rd (G f148 [])).1
theorem c148:f148.body.bind (comp f148.ntmps)=some p148:=by kernel_rfl
abbrev p149:PC:=(⟨_,by conv=>lhs;reduce⟩:Rd (G f149 [])).1
theorem c149:f149.body.bind (comp f149.ntmps)=some p149:=by kernel_rfl
abbrev p150:PC:=(⟨_,by conv=>lhs;reduce⟩:Rd (G f150 [])).1
theorem c150:f150.body.bind (comp f150.ntmps)=some p150:=by kernel_rfl
abbrev p151:PC:=(⟨_,by conv=>lhs;reduce⟩:Rd (G f151 [])).1
theorem AcV:f151.body.bind (comp f151.ntmps)=some p151:=by kernel_rfl
abbrev AWX:PC:=(⟨_,by conv=>lhs;reduce⟩:Rd (K f152 0 [])).1
abbrev p152:PC:=(⟨_,by conv=>lhs;reduce⟩:Rd (fun a=>G f152 [a])).1 AWX
theorem c152:f152.body.bind (comp f152.ntmps)=some p152:=by kernel_rfl
abbrev p153:PC:=(⟨_,by conv=>lhs;reduce⟩:Rd (G f153 [])).1
theorem AEK:f153.body.bind (comp f153.ntmps)=some p153:=by kernel_rfl
abbrev AY4:PC:=(⟨_,by conv=>lhs;reduce⟩:Rd (K f154 0 [])).1
abbrev p154:PC:=(⟨_,by conv=>lhs;reduce⟩:Rd (fun a=>G f154 [a])).1 AY4
theorem AEL:f154.body.bind (comp f154.ntmps)=some p154:=by kernel_rfl
abbrev AMx:PC:=(⟨_,by conv=>lhs;reduce⟩:Rd (K f155 0 [])).1
abbrev p155:PC:=(⟨_,by conv=>lhs;reduce⟩:Rd (fun a=>G f155 [a])).1 AMx
theorem c155:f155.body.bind (comp f155.ntmps)=some p155:=by kernel_rfl
abbrev p156:PC:=(⟨_,by conv=>lhs;reduce⟩:Rd (G f156 [])).1
theorem c156:f156.body.bind (comp f156.ntmps)=some p156:=by kernel_rfl
abbrev p157:PC:=(⟨_,by conv=>lhs;reduce⟩:Rd (G f157 [])).1
theorem AcW:f157.body.bind (comp f157.ntmps)=some p157:=by kernel_rfl
abbrev AY5:PC:=(⟨_,by conv=>lhs;reduce⟩:Rd (K f158 0 [])).1
abbrev p158:PC:=(⟨_,by conv=>lhs;reduce⟩:Rd (fun a=>G f158 [a])).1 AY5
theorem c158:f158.body.bind (comp f158.ntmps)=some p158:=by kernel_rfl
abbrev bF:PC:=(⟨_,by conv=>lhs;reduce⟩:Rd (K f159 0 [])).1
abbrev p159:PC:=(⟨_,by conv=>lhs;reduce⟩:Rd (fun a=>G f159 [a])).1 bF
theorem c159:f159.body.bind (comp f159.ntmps)=some p159:=by kernel_rfl
abbrev p160:PC:=(⟨_,by conv=>lhs;reduce⟩:Rd (G f160 [])).1
theorem AcX:f160.body.bind (comp f160.ntmps)=some p160:=by kernel_rfl
abbrev p161:PC:=(⟨_,by conv=>lhs;reduce⟩:Rd (G f161 [])).1
theorem AcY:f161.body.bind (comp f161.ntmps)=some p161:=by kernel_rfl
abbrev p162:PC:=(⟨_,by conv=>lhs;reduce⟩:Rd (G f162 [])).1
theorem qV:f162.body.bind (comp f162.ntmps)=some p162:=by kernel_rfl
abbrev SE:PC:=(⟨_,by conv=>lhs;reduce⟩:Rd (K f163 0 [])).1
abbrev p163:PC:=(⟨_,by conv=>lhs;reduce⟩:Rd (fun a=>G f163 [a])).1 SE
theorem c163:f163.body.bind (comp f163.ntmps)=some p163:=by kernel_rfl
abbrev p164:PC:=(⟨_,by conv=>lhs;reduce⟩:Rd (G f164 [])).1
theorem qW:f164.body.bind (comp f164.ntmps)=some p164:=by kernel_rfl
abbrev p165:PC:=(⟨_,by conv=>lhs;reduce⟩:Rd (G f165 [])).1
theorem AcZ:f165.body.bind (comp f165.ntmps)=some p165:=by kernel_rfl
abbrev APM:PC:=(⟨_,by conv=>lhs;reduce⟩:Rd (K f166 0 [])).1
abbrev p166:PC:=(⟨_,by conv=>lhs;reduce⟩:Rd (fun a=>G f166 [a])).1 APM
theorem c166:f166.body.bind (comp f166.ntmps)=some p166:=by kernel_rfl
abbrev p167:PC:=(⟨_,by conv=>lhs;reduce⟩:Rd (G f167 [])).1
theorem ASh:f167.body.bind (comp f167.ntmps)=some p167:=by kernel_rfl
abbrev p168:PC:=(⟨_,by conv=>lhs;reduce⟩:Rd (G f168 [])).1
theorem qY:f168.body.bind (comp f168.ntmps)=some p168:=by kernel_rfl
abbrev p169:PC:=(⟨_,by conv=>lhs;reduce⟩:Rd (G f169 [])).1
theorem Aa4:f169.body.bind (comp f169.ntmps)=some p169:=by kernel_rfl
abbrev p170:PC:=(⟨_,by conv=>lhs;reduce⟩:Rd (G f170 [])).1
theorem c170:f170.body.bind (comp f170.ntmps)=some p170:=by kernel_rfl
abbrev p171:PC:=(⟨_,by conv=>lhs;reduce⟩:Rd (G f171 [])).1
theorem mB:f171.body.bind (comp f171.ntmps)=some p171:=by kernel_rfl
abbrev p172:PC:=(⟨_,by conv=>lhs;reduce⟩:Rd (G f172 [])).1
theorem Aa5:f172.body.bind (comp f172.ntmps)=some p172:=by kernel_rfl
abbrev AY6:PC:=(⟨_,by conv=>lhs;reduce⟩:Rd (K f173 0 [])).1
abbrev p173:PC:=(⟨_,by conv=>lhs;reduce⟩:Rd (fun a=>G f173 [a])).1 AY6
theorem c173:f173.body.bind (comp f173.ntmps)=some p173:=by kernel_rfl
abbrev p174:PC:=(⟨_,by conv=>lhs;reduce⟩:Rd (G f174 [])).1
theorem Aca:f174.body.bind (comp f174.ntmps)=some p174:=by kernel_rfl
abbrev bI:PC:=(⟨_,by conv=>lhs;reduce⟩:Rd (K f175 0 [])).1
abbrev p175:PC:=(⟨_,by conv=>lhs;reduce⟩:Rd (fun a=>G f175 [a])).1 bI
theorem c175:f175.body.bind (comp f175.ntmps)=some p175:=by kernel_rfl
abbrev p176:PC:=(⟨_,by conv=>lhs;reduce⟩:Rd (G f176 [])).1
theorem c176:f176.body.bind (comp f176.ntmps)=some p176:=by kernel_rfl
abbrev p177:PC:=(⟨_,by conv=>lhs;reduce⟩:Rd (G f177 [])).1
theorem c177:f177.body.bind (comp f177.ntmps)=some p177:=by kernel_rfl
abbrev bK:PC:=(⟨_,by conv=>lhs;reduce⟩:Rd (K f178 0 [])).1
abbrev p178:PC:=(⟨_,by conv=>lhs;reduce⟩:Rd (fun a=>G f178 [a])).1 bK
theorem c178:f178.body.bind (comp f178.ntmps)=some p178:=by kernel_rfl
abbrev p179:PC:=(⟨_,by conv=>lhs;reduce⟩:Rd (G f179 [])).1
theorem Acb:f179.body.bind (comp f179.ntmps)=some p179:=by kernel_rfl
abbrev p180:PC:=(⟨_,by conv=>lhs;reduce⟩:Rd (G f180 [])).1
theorem Acc:f180.body.bind (comp f180.ntmps)=some p180:=by kernel_rfl
abbrev APN:PC:=(⟨_,by conv=>lhs;reduce⟩:Rd (K f181 0 [])).1
abbrev p181:PC:=(⟨_,by conv=>lhs;reduce⟩:Rd (fun a=>G f181 [a])).1 APN
theorem c181:f181.body.bind (comp f181.ntmps)=some p181:=by kernel_rfl
abbrev p182:PC:=(⟨_,by conv=>lhs;reduce⟩:Rd (G f182 [])).1
theorem c182:f182.body.bind (comp f182.ntmps)=some p182:=by kernel_rfl
abbrev p183:PC:=(⟨_,by conv=>lhs;reduce⟩:Rd (G f183 [])).1
theorem c183:f183.body.bind (comp f183.ntmps)=some p183:=by kernel_rfl
abbrev AY7:PC:=(⟨_,by conv=>lhs;reduce⟩:Rd (K f184 0 [])).1
abbrev p184:PC:=(⟨_,by conv=>lhs;reduce⟩:Rd (fun a=>G f184 [a])).1 AY7
theorem c184:f184.body.bind (comp f184.ntmps)=some p184:=by kernel_rfl
abbrev p185:PC:=(⟨_,by conv=>lhs;reduce⟩:Rd (G f185 [])).1
theorem c185:f185.body.bind (comp f185.ntmps)=some p185:=by kernel_rfl
abbrev p186:PC:=(⟨_,by conv=>lhs;reduce⟩:Rd (G f186 [])).1
theorem c186:f186.body.bind (comp f186.ntmps)=some p186:=by kernel_rfl
abbrev p187:PC:=(⟨_,by conv=>lhs;reduce⟩:Rd (G f187 [])).1
theorem c187:f187.body.bind (comp f187.ntmps)=some p187:=by kernel_rfl
abbrev p188:PC:=(⟨_,by conv=>lhs;reduce⟩:Rd (G f188 [])).1
theorem c188:f188.body.bind (comp f188.ntmps)=some p188:=by kernel_rfl
abbrev p189:PC:=(⟨_,by conv=>lhs;reduce⟩:Rd (G f189 [])).1
theorem AV4:f189.body.bind (comp f189.ntmps)=some p189:=by kernel_rfl
abbrev p190:PC:=(⟨_,by conv=>lhs;reduce⟩:Rd (G f190 [])).1
theorem Acd:f190.body.bind (comp f190.ntmps)=some p190:=by kernel_rfl
abbrev p191:PC:=(⟨_,by conv=>lhs;reduce⟩:Rd (G f191 [])).1
theorem AXN:f191.body.bind (comp f191.ntmps)=some p191:=by kernel_rfl
abbrev p192:PC:=(⟨_,by conv=>lhs;reduce⟩:Rd (G f192 [])).1
theorem c192:f192.body.bind (comp f192.ntmps)=some p192:=by kernel_rfl
abbrev p193:PC:=(⟨_,by conv=>lhs;reduce⟩:Rd (G f193 [])).1
theorem AY8:f193.body.bind (comp f193.ntmps)=some p193:=by kernel_rfl
abbrev p194:PC:=(⟨_,by conv=>lhs;reduce⟩:Rd (G f194 [])).1
theorem c194:f194.body.bind (comp f194.ntmps)=some p194:=by kernel_rfl
abbrev p195:PC:=(⟨_,by conv=>lhs;reduce⟩:Rd (G f195 [])).1
theorem Aa6:f195.body.bind (comp f195.ntmps)=some p195:=by kernel_rfl
abbrev p196:PC:=(⟨_,by conv=>lhs;reduce⟩:Rd (G f196 [])).1
theorem c196:f196.body.bind (comp f196.ntmps)=some p196:=by kernel_rfl
abbrev p197:PC:=(⟨_,by conv=>lhs;reduce⟩:Rd (G f197 [])).1
theorem Aa7:f197.body.bind (comp f197.ntmps)=some p197:=by kernel_rfl
abbrev p198:PC:=(⟨_,by conv=>lhs;reduce⟩:Rd (G f198 [])).1
theorem Aa8:f198.body.bind (comp f198.ntmps)=some p198:=by kernel_rfl
abbrev p199:PC:=(⟨_,by conv=>lhs;reduce⟩:Rd (G f199 [])).1
theorem AGD:f199.body.bind (comp f199.ntmps)=some p199:=by kernel_rfl
abbrev p200:PC:=(⟨_,by conv=>lhs;reduce⟩:Rd (G f200 [])).1
theorem Aa9:f200.body.bind (comp f200.ntmps)=some p200:=by kernel_rfl
abbrev fL:PC:=(⟨_,by conv=>lhs;reduce⟩:Rd (K f201 0 [])).1
abbrev p201:PC:=(⟨_,by conv=>lhs;reduce⟩:Rd (fun a=>G f201 [a])).1 fL
theorem Ace:f201.body.bind (comp f201.ntmps)=some p201:=by kernel_rfl
abbrev p202:PC:=(⟨_,by conv=>lhs;reduce⟩:Rd (G f202 [])).1
theorem Acf:f202.body.bind (comp f202.ntmps)=some p202:=by kernel_rfl
abbrev p203:PC:=(⟨_,by conv=>lhs;reduce⟩:Rd (G f203 [])).1
theorem qc:f203.body.bind (comp f203.ntmps)=some p203:=by kernel_rfl
abbrev p204:PC:=(⟨_,by conv=>lhs;reduce⟩:Rd (G f204 [])).1
theorem c204:f204.body.bind (comp f204.ntmps)=some p204:=by kernel_rfl
abbrev p205:PC:=(⟨_,by conv=>lhs;reduce⟩:Rd (G f205 [])).1
theorem AbA:f205.body.bind (comp f205.ntmps)=some p205:=by kernel_rfl
abbrev p206:PC:=(⟨_,by conv=>lhs;reduce⟩:Rd (G f206 [])).1
theorem c206:f206.body.bind (comp f206.ntmps)=some p206:=by kernel_rfl
abbrev AY9:PC:=(⟨_,by conv=>lhs;reduce⟩:Rd (K f207 0 [])).1
abbrev p207:PC:=(⟨_,by conv=>lhs;reduce⟩:Rd (fun a=>G f207 [a])).1 AY9
theorem c207:f207.body.bind (comp f207.ntmps)=some p207:=by kernel_rfl
abbrev p208:PC:=(⟨_,by conv=>lhs;reduce⟩:Rd (G f208 [])).1
theorem yo:f208.body.bind (comp f208.ntmps)=some p208:=by kernel_rfl
abbrev p209:PC:=(⟨_,by conv=>lhs;reduce⟩:Rd (G f209 [])).1
theorem c209:f209.body.bind (comp f209.ntmps)=some p209:=by kernel_rfl
abbrev AVu:PC:=(⟨_,by conv=>lhs;reduce⟩:Rd (K f211 0 [])).1
abbrev p211:PC:=(⟨_,by conv=>lhs;reduce⟩:Rd (fun a=>G f211 [a])).1 AVu
theorem c211:f211.body.bind (comp f211.ntmps)=some p211:=by kernel_rfl
abbrev APS:PC:=(⟨_,by conv=>lhs;reduce⟩:Rd (K f212 0 [])).1
abbrev p212:PC:=(⟨_,by conv=>lhs;reduce⟩:Rd (fun a=>G f212 [a])).1 APS
theorem c212:f212.body.bind (comp f212.ntmps)=some p212:=by kernel_rfl
abbrev AWY:PC:=(⟨_,by conv=>lhs;reduce⟩:Rd (K f213 0 [])).1
abbrev p213:PC:=(⟨_,by conv=>lhs;reduce⟩:Rd (fun a=>G f213 [a])).1 AWY
theorem Acg:f213.body.bind (comp f213.ntmps)=some p213:=by kernel_rfl
abbrev p214:PC:=(⟨_,by conv=>lhs;reduce⟩:Rd (G f214 [])).1
theorem Ach:f214.body.bind (comp f214.ntmps)=some p214:=by kernel_rfl
abbrev AXO:PC:=(⟨_,by conv=>lhs;reduce⟩:Rd (K f215 0 [])).1
abbrev p215:PC:=(⟨_,by conv=>lhs;reduce⟩:Rd (fun a=>G f215 [a])).1 AXO
theorem c215:f215.body.bind (comp f215.ntmps)=some p215:=by kernel_rfl
abbrev p216:PC:=(⟨_,by conv=>lhs;reduce⟩:Rd (G f216 [])).1
theorem c216:f216.body.bind (comp f216.ntmps)=some p216:=by kernel_rfl
abbrev p217:PC:=(⟨_,by conv=>lhs;reduce⟩:Rd (G f217 [])).1
theorem c217:f217.body.bind (comp f217.ntmps)=some p217:=by kernel_rfl
abbrev p218:PC:=(⟨_,by conv=>lhs;reduce⟩:Rd (G f218 [])).1
theorem c218:f218.body.bind (comp f218.ntmps)=some p218:=by kernel_rfl
abbrev p219:PC:=(⟨_,by conv=>lhs;reduce⟩:Rd (G f219 [])).1
theorem c219:f219.body.bind (comp f219.ntmps)=some p219:=by kernel_rfl
abbrev p220:PC:=(⟨_,by conv=>lhs;reduce⟩:Rd (G f220 [])).1
theorem c220:f220.body.bind (comp f220.ntmps)=some p220:=by kernel_rfl
abbrev AXP:PC:=(⟨_,by conv=>lhs;reduce⟩:Rd (K f221 0 [])).1
abbrev p221:PC:=(⟨_,by conv=>lhs;reduce⟩:Rd (fun a=>G f221 [a])).1 AXP
theorem c221:f221.body.bind (comp f221.ntmps)=some p221:=by kernel_rfl
abbrev p222:PC:=(⟨_,by conv=>lhs;reduce⟩:Rd (G f222 [])).1
theorem c222:f222.body.bind (comp f222.ntmps)=some p222:=by kernel_rfl
abbrev p223:PC:=(⟨_,by conv=>lhs;reduce⟩:Rd (G f223 [])).1
theorem AZ8:f223.body.bind (comp f223.ntmps)=some p223:=by kernel_rfl
abbrev SI:PC:=(⟨_,by conv=>lhs;reduce⟩:Rd (K f224 0 [])).1
abbrev p224:PC:=(⟨_,by conv=>lhs;reduce⟩:Rd (fun a=>G f224 [a])).1 SI
theorem c224:f224.body.bind (comp f224.ntmps)=some p224:=by kernel_rfl
abbrev bR:PC:=(⟨_,by conv=>lhs;reduce⟩:Rd (K f225 0 [])).1
abbrev p225:PC:=(⟨_,by conv=>lhs;reduce⟩:Rd (fun a=>G f225 [a])).1 bR
theorem c225:f225.body.bind (comp f225.ntmps)=some p225:=by kernel_rfl
abbrev p226:PC:=(⟨_,by conv=>lhs;reduce⟩:Rd (G f226 [])).1
theorem c226:f226.body.bind (comp f226.ntmps)=some p226:=by kernel_rfl
abbrev p227:PC:=(⟨_,by conv=>lhs;reduce⟩:Rd (G f227 [])).1
theorem c227:f227.body.bind (comp f227.ntmps)=some p227:=by kernel_rfl
abbrev p229:PC:=(⟨_,by conv=>lhs;reduce⟩:Rd (G f229 [])).1
theorem c229:f229.body.bind (comp f229.ntmps)=some p229:=by kernel_rfl
abbrev AZA:PC:=(⟨_,by conv=>lhs;reduce⟩:Rd (K f230 0 [])).1
abbrev AZB:PC:=(⟨_,by conv=>lhs;reduce⟩:Rd (fun a=>K f230 1 [a])).1 AZA
abbrev p230:PC:=(⟨_,by conv=>lhs;reduce⟩:Rd (fun a=>G f230 [a])).1 AZB
theorem c230:f230.body.bind (comp f230.ntmps)=some p230:=by kernel_rfl
abbrev AXQ:PC:=(⟨_,by conv=>lhs;reduce⟩:Rd (K f231 0 [])).1
abbrev AZC:PC:=(⟨_,by conv=>lhs;reduce⟩:Rd (fun a=>K f231 1 [a])).1 AXQ
abbrev p231:PC:=(⟨_,by conv=>lhs;reduce⟩:Rd (fun a=>G f231 [a])).1 AZC
theorem c231:f231.body.bind (comp f231.ntmps)=some p231:=by kernel_rfl
abbrev p232:PC:=(⟨_,by conv=>lhs;reduce⟩:Rd (G f232 [])).1
theorem c232:f232.body.bind (comp f232.ntmps)=some p232:=by kernel_rfl
abbrev p233:PC:=(⟨_,by conv=>lhs;reduce⟩:Rd (G f233 [])).1
theorem c233:f233.body.bind (comp f233.ntmps)=some p233:=by kernel_rfl
abbrev sV:PC:=(⟨_,by conv=>lhs;reduce⟩:Rd (K f234 0 [])).1
abbrev p234:PC:=(⟨_,by conv=>lhs;reduce⟩:Rd (fun a=>G f234 [a])).1 sV
theorem c234:f234.body.bind (comp f234.ntmps)=some p234:=by kernel_rfl
abbrev p235:PC:=(⟨_,by conv=>lhs;reduce⟩:Rd (G f235 [])).1
theorem c235:f235.body.bind (comp f235.ntmps)=some p235:=by kernel_rfl
abbrev p236:PC:=(⟨_,by conv=>lhs;reduce⟩:Rd (G f236 [])).1
theorem Aci:f236.body.bind (comp f236.ntmps)=some p236:=by kernel_rfl
abbrev p237:PC:=(⟨_,by conv=>lhs;reduce⟩:Rd (G f237 [])).1
theorem AW8:f237.body.bind (comp f237.ntmps)=some p237:=by kernel_rfl
abbrev p238:PC:=(⟨_,by conv=>lhs;reduce⟩:Rd (G f238 [])).1
theorem c238:f238.body.bind (comp f238.ntmps)=some p238:=by kernel_rfl
abbrev p239:PC:=(⟨_,by conv=>lhs;reduce⟩:Rd (G f239 [])).1
theorem c239:f239.body.bind (comp f239.ntmps)=some p239:=by kernel_rfl
abbrev p240:PC:=(⟨_,by conv=>lhs;reduce⟩:Rd (G f240 [])).1
theorem c240:f240.body.bind (comp f240.ntmps)=some p240:=by kernel_rfl
abbrev p241:PC:=(⟨_,by conv=>lhs;reduce⟩:Rd (G f241 [])).1
theorem c241:f241.body.bind (comp f241.ntmps)=some p241:=by kernel_rfl
abbrev AWZ:PC:=(⟨_,by conv=>lhs;reduce⟩:Rd (K f242 0 [])).1
abbrev p242:PC:=(⟨_,by conv=>lhs;reduce⟩:Rd (fun a=>G f242 [a])).1 AWZ
theorem c242:f242.body.bind (comp f242.ntmps)=some p242:=by kernel_rfl
abbrev AWa:PC:=(⟨_,by conv=>lhs;reduce⟩:Rd (K f243 0 [])).1
abbrev p243:PC:=(⟨_,by conv=>lhs;reduce⟩:Rd (fun a=>G f243 [a])).1 AWa
theorem c243:f243.body.bind (comp f243.ntmps)=some p243:=by kernel_rfl
abbrev wZ:PC:=(⟨_,by conv=>lhs;reduce⟩:Rd (K f249 0 [])).1
abbrev p249:PC:=(⟨_,by conv=>lhs;reduce⟩:Rd (fun a=>G f249 [a])).1 wZ
theorem c249:f249.body.bind (comp f249.ntmps)=some p249:=by kernel_rfl
abbrev AZD:PC:=(⟨_,by conv=>lhs;reduce⟩:Rd (K f250 0 [])).1
abbrev p250:PC:=(⟨_,by conv=>lhs;reduce⟩:Rd (fun a=>G f250 [a])).1 AZD
theorem c250:f250.body.bind (comp f250.ntmps)=some p250:=by kernel_rfl
abbrev p251:PC:=(⟨_,by conv=>lhs;reduce⟩:Rd (G f251 [])).1
theorem c251:f251.body.bind (comp f251.ntmps)=some p251:=by kernel_rfl
abbrev p252:PC:=(⟨_,by conv=>lhs;reduce⟩:Rd (G f252 [])).1
theorem c252:f252.body.bind (comp f252.ntmps)=some p252:=by kernel_rfl
abbrev p253:PC:=(⟨_,by conv=>lhs;reduce⟩:Rd (G f253 [])).1
theorem yr:f253.body.bind (comp f253.ntmps)=some p253:=by kernel_rfl
abbrev p254:PC:=(⟨_,by conv=>lhs;reduce⟩:Rd (G f254 [])).1
theorem Acj:f254.body.bind (comp f254.ntmps)=some p254:=by kernel_rfl
abbrev bV:PC:=(⟨_,by conv=>lhs;reduce⟩:Rd (K f255 0 [])).1
abbrev p255:PC:=(⟨_,by conv=>lhs;reduce⟩:Rd (fun a=>G f255 [a])).1 bV
theorem AXR:f255.body.bind (comp f255.ntmps)=some p255:=by kernel_rfl
abbrev U2:PC:=(⟨_,by conv=>lhs;reduce⟩:Rd (K f256 0 [])).1
abbrev p256:PC:=(⟨_,by conv=>lhs;reduce⟩:Rd (fun a=>G f256 [a])).1 U2
theorem Ack:f256.body.bind (comp f256.ntmps)=some p256:=by kernel_rfl
abbrev p257:PC:=(⟨_,by conv=>lhs;reduce⟩:Rd (G f257 [])).1
theorem c257:f257.body.bind (comp f257.ntmps)=some p257:=by kernel_rfl
abbrev bW:PC:=(⟨_,by conv=>lhs;reduce⟩:Rd (K f258 0 [])).1
abbrev p258:PC:=(⟨_,by conv=>lhs;reduce⟩:Rd (fun a=>G f258 [a])).1 bW
theorem Acl:f258.body.bind (comp f258.ntmps)=some p258:=by kernel_rfl
abbrev p259:PC:=(⟨_,by conv=>lhs;reduce⟩:Rd (G f259 [])).1
theorem c259:f259.body.bind (comp f259.ntmps)=some p259:=by kernel_rfl
abbrev AWb:PC:=(⟨_,by conv=>lhs;reduce⟩:Rd (K f260 0 [])).1
abbrev p260:PC:=(⟨_,by conv=>lhs;reduce⟩:Rd (fun a=>G f260 [a])).1 AWb
theorem qe:f260.body.bind (comp f260.ntmps)=some p260:=by kernel_rfl
abbrev p261:PC:=(⟨_,by conv=>lhs;reduce⟩:Rd (G f261 [])).1
theorem Acm:f261.body.bind (comp f261.ntmps)=some p261:=by kernel_rfl
abbrev p262:PC:=(⟨_,by conv=>lhs;reduce⟩:Rd (G f262 [])).1
theorem c262:f262.body.bind (comp f262.ntmps)=some p262:=by kernel_rfl
abbrev p263:PC:=(⟨_,by conv=>lhs;reduce⟩:Rd (G f263 [])).1
theorem c263:f263.body.bind (comp f263.ntmps)=some p263:=by kernel_rfl
abbrev p264:PC:=(⟨_,by conv=>lhs;reduce⟩:Rd (G f264 [])).1
theorem c264:f264.body.bind (comp f264.ntmps)=some p264:=by kernel_rfl
abbrev p265:PC:=(⟨_,by conv=>lhs;reduce⟩:Rd (G f265 [])).1
theorem c265:f265.body.bind (comp f265.ntmps)=some p265:=by kernel_rfl
abbrev p266:PC:=(⟨_,by conv=>lhs;reduce⟩:Rd (G f266 [])).1
theorem AbB:f266.body.bind (comp f266.ntmps)=some p266:=by kernel_rfl
abbrev p267:PC:=(⟨_,by conv=>lhs;reduce⟩:Rd (G f267 [])).1
theorem c267:f267.body.bind (comp f267.ntmps)=some p267:=by kernel_rfl
abbrev AZE:PC:=(⟨_,by conv=>lhs;reduce⟩:Rd (K f268 0 [])).1
abbrev p268:PC:=(⟨_,by conv=>lhs;reduce⟩:Rd (fun a=>G f268 [a])).1 AZE
theorem c268:f268.body.bind (comp f268.ntmps)=some p268:=by kernel_rfl
abbrev AWc:PC:=(⟨_,by conv=>lhs;reduce⟩:Rd (K f269 0 [])).1
abbrev p269:PC:=(⟨_,by conv=>lhs;reduce⟩:Rd (fun a=>G f269 [a])).1 AWc
theorem c269:f269.body.bind (comp f269.ntmps)=some p269:=by kernel_rfl
abbrev p270:PC:=(⟨_,by conv=>lhs;reduce⟩:Rd (G f270 [])).1
theorem Acn:f270.body.bind (comp f270.ntmps)=some p270:=by kernel_rfl
abbrev p271:PC:=(⟨_,by conv=>lhs;reduce⟩:Rd (G f271 [])).1
theorem c271:f271.body.bind (comp f271.ntmps)=some p271:=by kernel_rfl
abbrev p272:PC:=(⟨_,by conv=>lhs;reduce⟩:Rd (G f272 [])).1
theorem c272:f272.body.bind (comp f272.ntmps)=some p272:=by kernel_rfl
abbrev p273:PC:=(⟨_,by conv=>lhs;reduce⟩:Rd (G f273 [])).1
abbrev p277:PC:=(⟨_,by conv=>lhs;reduce⟩:Rd (G f277 [])).1
theorem c277:f277.body.bind (comp f277.ntmps)=some p277:=by kernel_rfl
abbrev AXS:PC:=(⟨_,by conv=>lhs;reduce⟩:Rd (K f278 0 [])).1
abbrev p278:PC:=(⟨_,by conv=>lhs;reduce⟩:Rd (fun a=>G f278 [a])).1 AXS
theorem c278:f278.body.bind (comp f278.ntmps)=some p278:=by kernel_rfl
abbrev AXT:PC:=(⟨_,by conv=>lhs;reduce⟩:Rd (K f279 0 [])).1
abbrev p279:PC:=(⟨_,by conv=>lhs;reduce⟩:Rd (fun a=>G f279 [a])).1 AXT
theorem c279:f279.body.bind (comp f279.ntmps)=some p279:=by kernel_rfl
abbrev AZF:PC:=(⟨_,by conv=>lhs;reduce⟩:Rd (K f282 0 [])).1
abbrev p282:PC:=(⟨_,by conv=>lhs;reduce⟩:Rd (fun a=>G f282 [a])).1 AZF
theorem c282:f282.body.bind (comp f282.ntmps)=some p282:=by kernel_rfl
abbrev p283:PC:=(⟨_,by conv=>lhs;reduce⟩:Rd (G f283 [])).1
theorem c283:f283.body.bind (comp f283.ntmps)=some p283:=by kernel_rfl
abbrev Xg:PC:=(⟨_,by conv=>lhs;reduce⟩:Rd (K f284 0 [])).1
abbrev p284:PC:=(⟨_,by conv=>lhs;reduce⟩:Rd (fun a=>G f284 [a])).1 Xg
theorem c284:f284.body.bind (comp f284.ntmps)=some p284:=by kernel_rfl
abbrev Xe:PC:=(⟨_,by conv=>lhs;reduce⟩:Rd (K f285 0 [])).1
abbrev p285:PC:=(⟨_,by conv=>lhs;reduce⟩:Rd (fun a=>G f285 [a])).1 Xe
theorem c285:f285.body.bind (comp f285.ntmps)=some p285:=by kernel_rfl
abbrev AZG:PC:=(⟨_,by conv=>lhs;reduce⟩:Rd (K f290 0 [])).1
abbrev p290:PC:=(⟨_,by conv=>lhs;reduce⟩:Rd (fun a=>G f290 [a])).1 AZG
theorem c290:f290.body.bind (comp f290.ntmps)=some p290:=by kernel_rfl
abbrev p291:PC:=(⟨_,by conv=>lhs;reduce⟩:Rd (G f291 [])).1
theorem c291:f291.body.bind (comp f291.ntmps)=some p291:=by kernel_rfl
abbrev p292:PC:=(⟨_,by conv=>lhs;reduce⟩:Rd (G f292 [])).1
theorem c292:f292.body.bind (comp f292.ntmps)=some p292:=by kernel_rfl
abbrev p293:PC:=(⟨_,by conv=>lhs;reduce⟩:Rd (G f293 [])).1
theorem c293:f293.body.bind (comp f293.ntmps)=some p293:=by kernel_rfl
abbrev AZH:PC:=(⟨_,by conv=>lhs;reduce⟩:Rd (K f294 0 [])).1
abbrev p294:PC:=(⟨_,by conv=>lhs;reduce⟩:Rd (fun a=>G f294 [a])).1 AZH
theorem c294:f294.body.bind (comp f294.ntmps)=some p294:=by kernel_rfl
abbrev AZI:PC:=(⟨_,by conv=>lhs;reduce⟩:Rd (K f295 0 [])).1
abbrev p295:PC:=(⟨_,by conv=>lhs;reduce⟩:Rd (fun a=>G f295 [a])).1 AZI
theorem c295:f295.body.bind (comp f295.ntmps)=some p295:=by kernel_rfl
abbrev vu:PC:=(⟨_,by conv=>lhs;reduce⟩:Rd (K f296 0 [])).1
abbrev p296:PC:=(⟨_,by conv=>lhs;reduce⟩:Rd (fun a=>G f296 [a])).1 vu
theorem Aco:f296.body.bind (comp f296.ntmps)=some p296:=by kernel_rfl
abbrev p297:PC:=(⟨_,by conv=>lhs;reduce⟩:Rd (G f297 [])).1
theorem c297:f297.body.bind (comp f297.ntmps)=some p297:=by kernel_rfl
abbrev AXU:PC:=(⟨_,by conv=>lhs;reduce⟩:Rd (K f298 0 [])).1
abbrev p298:PC:=(⟨_,by conv=>lhs;reduce⟩:Rd (fun a=>G f298 [a])).1 AXU
theorem c298:f298.body.bind (comp f298.ntmps)=some p298:=by kernel_rfl
abbrev AVv:PC:=(⟨_,by conv=>lhs;reduce⟩:Rd (K f299 0 [])).1
abbrev p299:PC:=(⟨_,by conv=>lhs;reduce⟩:Rd (fun a=>G f299 [a])).1 AVv
theorem c299:f299.body.bind (comp f299.ntmps)=some p299:=by kernel_rfl
abbrev p300:PC:=(⟨_,by conv=>lhs;reduce⟩:Rd (G f300 [])).1
theorem c300:f300.body.bind (comp f300.ntmps)=some p300:=by kernel_rfl
abbrev p301:PC:=(⟨_,by conv=>lhs;reduce⟩:Rd (G f301 [])).1
theorem c301:f301.body.bind (comp f301.ntmps)=some p301:=by kernel_rfl
abbrev p302:PC:=(⟨_,by conv=>lhs;reduce⟩:Rd (G f302 [])).1
theorem AbC:f302.body.bind (comp f302.ntmps)=some p302:=by kernel_rfl
abbrev p303:PC:=(⟨_,by conv=>lhs;reduce⟩:Rd (G f303 [])).1
theorem c303:f303.body.bind (comp f303.ntmps)=some p303:=by kernel_rfl
abbrev p318:PC:=(⟨_,by conv=>lhs;reduce⟩:Rd (G f318 [])).1
theorem c318:f318.body.bind (comp f318.ntmps)=some p318:=by kernel_rfl
abbrev AWd:PC:=(⟨_,by conv=>lhs;reduce⟩:Rd (K f322 0 [])).1
abbrev AVw:PC:=(⟨_,by conv=>lhs;reduce⟩:Rd (K f322 1 [])).1
abbrev AZJ:PC:=(⟨_,by conv=>lhs;reduce⟩:Rd (fun a b=>K f322 2 [a,b])).1 AWd AVw
abbrev p322:PC:=(⟨_,by conv=>lhs;reduce⟩:Rd (fun a=>G f322 [a])).1 AZJ
theorem c322:f322.body.bind (comp f322.ntmps)=some p322:=by kernel_rfl
abbrev AWe:PC:=(⟨_,by conv=>lhs;reduce⟩:Rd (K f323 0 [])).1
abbrev AZK:PC:=(⟨_,by conv=>lhs;reduce⟩:Rd (fun a=>K f323 1 [a])).1 AWe
abbrev p323:PC:=(⟨_,by conv=>lhs;reduce⟩:Rd (fun a=>G f323 [a])).1 AZK
theorem c323:f323.body.bind (comp f323.ntmps)=some p323:=by kernel_rfl
abbrev p335:PC:=(⟨_,by conv=>lhs;reduce⟩:Rd (G f335 [])).1
theorem AbD:f335.body.bind (comp f335.ntmps)=some p335:=by kernel_rfl
abbrev p336:PC:=(⟨_,by conv=>lhs;reduce⟩:Rd (G f336 [])).1
theorem c336:f336.body.bind (comp f336.ntmps)=some p336:=by kernel_rfl
attribute [simp] results3 ntmps3 results4 ntmps4 results5 ntmps5 results6 ntmps6 results7 ntmps7 results8 ntmps8 results9 ntmps9 results10 ntmps10 results11 ntmps11 results12 ntmps12 results13 ntmps13 results14 ntmps14 results15 ntmps15 results16 ntmps16 results17 ntmps17 results18 ntmps18 results19 ntmps19 results20 ntmps20 results21 ntmps21 results22 ntmps22 results23 ntmps23 results24 ntmps24 results25 ntmps25 results26 ntmps26 results27 ntmps27 results28 ntmps28 results29 ntmps29 results30 ntmps30 results31 ntmps31 results32 ntmps32 results33 ntmps33 results34 ntmps34 results35 ntmps35 results36 ntmps36 results37 ntmps37 results38 ntmps38 results39 ntmps39 results40 ntmps40 results41 ntmps41 results42 ntmps42 results43 ntmps43 results44 ntmps44 results45 ntmps45 results46 ntmps46 results47 ntmps47 results48 ntmps48 results49 ntmps49 results50 ntmps50 results51 ntmps51 results52 ntmps52 results53 ntmps53 results54 ntmps54 results55 ntmps55 results56 ntmps56 results57 ntmps57 results58 ntmps58 results59 ntmps59 results60 ntmps60 results61 ntmps61 results62 ntmps62 results63 ntmps63 results64 ntmps64 results65 ntmps65 results66 ntmps66 results67 ntmps67 results68 ntmps68 results69 ntmps69 results70 ntmps70 results71 ntmps71 results72 ntmps72 results73 ntmps73 results74 ntmps74 results75 ntmps75 results76 ntmps76 results77 ntmps77 results78 ntmps78 results79 ntmps79 results80 ntmps80 results81 ntmps81 results82 ntmps82 results83 ntmps83 results84 ntmps84 results85 ntmps85 results86 ntmps86 results87 ntmps87 results88 ntmps88 results89 ntmps89 results90 ntmps90 results91 ntmps91 results92 ntmps92 results93 ntmps93 results94 ntmps94 results95 ntmps95 results96 ntmps96 results97 ntmps97 results98 ntmps98 results99 ntmps99 results100 ntmps100 results101 ntmps101 results102 ntmps102 results103 ntmps103 results104 ntmps104 results105 ntmps105 results106 ntmps106 results107 ntmps107 results108 ntmps108 results109 ntmps109 results110 ntmps110 results111 ntmps111 results112 ntmps112 results113 ntmps113 results114 ntmps114 results115 ntmps115 results116 ntmps116 results117 ntmps117 results118 ntmps118 results119 ntmps119 results120 ntmps120 results121 ntmps121 results122 ntmps122 results123 ntmps123 results124 ntmps124 results125 ntmps125 results126 ntmps126 results127 ntmps127 results128 ntmps128 results129 ntmps129 results130 ntmps130 results131 ntmps131 results132 ntmps132 results133 ntmps133 results134 ntmps134 results135 ntmps135 results136 ntmps136 results137 ntmps137 results138 ntmps138 results139 ntmps139 results140 ntmps140 results141 ntmps141 results142 ntmps142 results143 ntmps143 results144 ntmps144 results145 ntmps145 results146 ntmps146 results147 ntmps147 results148 ntmps148 results149 ntmps149 results150 ntmps150 results151 ntmps151 results152 ntmps152 results153 ntmps153 results154 ntmps154 results155 ntmps155 results156 ntmps156 results157 ntmps157 results158 ntmps158 results159 ntmps159 results160 ntmps160 results161 ntmps161 results162 ntmps162 results163 ntmps163 results164 ntmps164 results165 ntmps165 results166 ntmps166 results167 ntmps167 results168 ntmps168 results169 ntmps169 results170 ntmps170 results171 ntmps171 results172 ntmps172 results173 ntmps173 results174 ntmps174 results175 ntmps175 results176 ntmps176 results177 ntmps177 results178 ntmps178 results179 ntmps179 results180 ntmps180 results181 ntmps181 results182 ntmps182 results183 ntmps183 results184 ntmps184 results185 ntmps185 results186 ntmps186 results187 ntmps187 results188 ntmps188 results189 ntmps189 results190 ntmps190 results191 ntmps191 results192 ntmps192 results193 ntmps193 results194 ntmps194 results195 ntmps195 results196 ntmps196 results197 ntmps197 results198 ntmps198 results199 ntmps199 results200 ntmps200 results201 ntmps201 results202 ntmps202 results203 ntmps203 results204 ntmps204 results205 ntmps205 results206 ntmps206 results207 ntmps207 results208 ntmps208 results209 ntmps209 results210 ntmps210 results211 ntmps211 results212 ntmps212 results213 ntmps213 results214 ntmps214 results215 ntmps215 results216 ntmps216 results217 ntmps217 results218 ntmps218 results219 ntmps219 results220 ntmps220 results221 ntmps221 results222 ntmps222 results223 ntmps223 results224 ntmps224 results225 ntmps225 results226 ntmps226 results227 ntmps227 results228 ntmps228 results229 ntmps229 results230 ntmps230 results231 ntmps231 results232 ntmps232 results233 ntmps233 results234 ntmps234 results235 ntmps235 results236 ntmps236 results237 ntmps237 results238 ntmps238 results239 ntmps239 results240 ntmps240 results241 ntmps241 results242 ntmps242 results243 ntmps243 results244 ntmps244 results245 ntmps245 results246 ntmps246 results247 ntmps247 results248 ntmps248 results249 ntmps249 results250 ntmps250 results251 ntmps251 results252 ntmps252 results253 ntmps253 results254 ntmps254 results255 ntmps255 results256 ntmps256 results257 ntmps257 results258 ntmps258 results259 ntmps259 results260 ntmps260 results261 ntmps261 results262 ntmps262 results263 ntmps263 results264 ntmps264 results265 ntmps265 results266 ntmps266 results267 ntmps267 results268 ntmps268 results269 ntmps269 results270 ntmps270 results271 ntmps271 results272 ntmps272 results273 ntmps273 results274 ntmps274 results275 ntmps275 results276 ntmps276 results277 ntmps277 results278 ntmps278 results279 ntmps279 results280 ntmps280 results281 ntmps281 results282 ntmps282 results283 ntmps283 results284 ntmps284 results285 ntmps285 results286 ntmps286 results287 ntmps287 results288 ntmps288 results289 ntmps289 results290 ntmps290 results291 ntmps291 results292 ntmps292 results293 ntmps293 results294 ntmps294 results295 ntmps295 results296 ntmps296 results297 ntmps297 results298 ntmps298 results299 ntmps299 results300 ntmps300 results301 ntmps301 results302 ntmps302 results303 ntmps303 results304 ntmps304 results305 ntmps305 results306 ntmps306 results307 ntmps307 results308 ntmps308 results309 ntmps309 results310 ntmps310 results311 ntmps311 results312 ntmps312 results313 ntmps313 results314 ntmps314 results315 ntmps315 results316 ntmps316 results317 ntmps317 results318 ntmps318 results319 ntmps319 results321 ntmps321 results322 ntmps322 results323 ntmps323 results324 ntmps324 results325 ntmps325 results326 ntmps326 results327 ntmps327 results328 ntmps328 results329 ntmps329 results330 ntmps330 results331 ntmps331 results332 ntmps332 results333 ntmps333 results335 ntmps335 results336 ntmps336 results337 ntmps337 results338 ntmps338
end Go.Proofs.Tryz
namespace Go.Proofs.Tryz
open Go.Psl
@[simp] theorem ASs:AMD=1000132:=APv
def ty2:Ty:=⟨1,8,false, .int .i64,[(.int .i64 0)]⟩
def ty3:Ty:=⟨1,8,false, .int .i64,[(.int .i64 0)]⟩
def ty4:Ty:=⟨1,1,false, .bool,[(.bool false)]⟩
def ty5:Ty:=⟨1,1,false, .int .u8,[(.int .u8 0)]⟩
def ty6:Ty:=⟨1,1,false, .int .u8,[(.int .u8 0)]⟩
def ty8:Ty:=⟨4,24,true, .struct [(0,2),(1,3),(2,4),(3,6)],[(.int .i64 0),(.int .i64 0),(.bool false),(.int .u8 0)]⟩
def ty9:Ty:=⟨1,16,false, .str,[(.string ByteArray.empty)]⟩
def ty21:Ty:=⟨1,4,false, .int .i32,[(.int .i32 0)]⟩
def ty23:Ty:=⟨2,16,true, .struct [(0,3),(1,3)],[(.int .i64 0),(.int .i64 0)]⟩
def ty24:Ty:=⟨1,24,false, .slice 115,[(.slice none 0 0)]⟩
def ty26:Ty:=⟨2,16,true, .struct [(0,3),(1,3)],[(.int .i64 0),(.int .i64 0)]⟩
def ty28:Ty:=⟨10,96,true, .struct [(0,24),(1,3),(2,26),(4,26),(6,26),(8,26)],[(.slice none 0 0),(.int .i64 0),(.int .i64 0),(.int .i64 0),(.int .i64 0),(.int .i64 0),(.int .i64 0),(.int .i64 0),(.int .i64 0),(.int .i64 0)]⟩
def ty30:Ty:=⟨25,216,true, .struct [(0,23),(2,23),(4,23),(6,23),(8,23),(10,23),(12,3),(13,3),(14,3),(15,28)],[(.int .i64 0),(.int .i64 0),(.int .i64 0),(.int .i64 0),(.int .i64 0),(.int .i64 0),(.int .i64 0),(.int .i64 0),(.int .i64 0),(.int .i64 0),(.int .i64 0),(.int .i64 0),(.int .i64 0),(.int .i64 0),(.int .i64 0),(.slice none 0 0),(.int .i64 0),(.int .i64 0),(.int .i64 0),(.int .i64 0),(.int .i64 0),(.int .i64 0),(.int .i64 0),(.int .i64 0),(.int .i64 0)]⟩
def ty31:Ty:=⟨1,24,false, .slice 142,[(.slice none 0 0)]⟩
def ty32:Ty:=⟨1,24,false, .slice 144,[(.slice none 0 0)]⟩
def ty34:Ty:=⟨2,48,true, .struct [(0,31),(1,32)],[(.slice none 0 0),(.slice none 0 0)]⟩
def ty35:Ty:=⟨1,24,false, .slice 94,[(.slice none 0 0)]⟩
def ty37:Ty:=⟨7,72,true, .struct [(0,35),(1,23),(3,3),(4,3),(5,3),(6,3)],[(.slice none 0 0),(.int .i64 0),(.int .i64 0),(.int .i64 0),(.int .i64 0),(.int .i64 0),(.int .i64 0)]⟩
def ty38:Ty:=⟨1,24,false, .slice 95,[(.slice none 0 0)]⟩
def ty39:Ty:=⟨1,24,false, .slice 23,[(.slice none 0 0)]⟩
def ty41:Ty:=⟨5,72,true, .struct [(0,38),(1,3),(2,3),(3,39),(4,3)],[(.slice none 0 0),(.int .i64 0),(.int .i64 0),(.slice none 0 0),(.int .i64 0)]⟩
def ty43:Ty:=⟨5,32,true, .struct [(0,5),(1,3),(2,3),(3,4),(4,4)],[(.int .u8 0),(.int .i64 0),(.int .i64 0),(.bool false),(.bool false)]⟩
def ty45:Ty:=⟨4,32,true, .struct [(0,23),(2,23)],[(.int .i64 0),(.int .i64 0),(.int .i64 0),(.int .i64 0)]⟩
def ty46:Ty:=⟨1,24,false, .slice 3,[(.slice none 0 0)]⟩
def ty47:Ty:=⟨1,24,false, .slice 117,[(.slice none 0 0)]⟩
def ty48:Ty:=⟨1,24,false, .slice 147,[(.slice none 0 0)]⟩
def ty49:Ty:=⟨1,24,false, .slice 149,[(.slice none 0 0)]⟩
def ty50:Ty:=⟨1,24,false, .slice 97,[(.slice none 0 0)]⟩
def ty52:Ty:=⟨65,696,true, .struct [(0,9),(1,30),(26,34),(28,37),(35,41),(40,43),(45,45),(49,46),(50,3),(51,3),(52,3),(53,3),(54,47),(55,3),(56,3),(57,3),(58,3),(59,48),(60,49),(61,3),(62,3),(63,3),(64,50)],[(.string ByteArray.empty),(.int .i64 0),(.int .i64 0),(.int .i64 0),(.int .i64 0),(.int .i64 0),(.int .i64 0),(.int .i64 0),(.int .i64 0),(.int .i64 0),(.int .i64 0),(.int .i64 0),(.int .i64 0),(.int .i64 0),(.int .i64 0),(.int .i64 0),(.slice none 0 0),(.int .i64 0),(.int .i64 0),(.int .i64 0),(.int .i64 0),(.int .i64 0),(.int .i64 0),(.int .i64 0),(.int .i64 0),(.int .i64 0),(.slice none 0 0),(.slice none 0 0),(.slice none 0 0),(.int .i64 0),(.int .i64 0),(.int .i64 0),(.int .i64 0),(.int .i64 0),(.int .i64 0),(.slice none 0 0),(.int .i64 0),(.int .i64 0),(.slice none 0 0),(.int .i64 0),(.int .u8 0),(.int .i64 0),(.int .i64 0),(.bool false),(.bool false),(.int .i64 0),(.int .i64 0),(.int .i64 0),(.int .i64 0),(.slice none 0 0),(.int .i64 0),(.int .i64 0),(.int .i64 0),(.int .i64 0),(.slice none 0 0),(.int .i64 0),(.int .i64 0),(.int .i64 0),(.int .i64 0),(.slice none 0 0),(.slice none 0 0),(.int .i64 0),(.int .i64 0),(.int .i64 0),(.slice none 0 0)]⟩
def ty55:Ty:=⟨1,24,false, .slice 87,[(.slice none 0 0)]⟩
def ty56:Ty:=⟨1,8,false, .int .i64,[(.int .i64 0)]⟩
def ty73:Ty:=⟨2,40,true, .struct [(0,9),(1,50)],[(.string ByteArray.empty),(.slice none 0 0)]⟩
def ty79:Ty:=⟨4,32,true, .struct [(0,23),(2,23)],[(.int .i64 0),(.int .i64 0),(.int .i64 0),(.int .i64 0)]⟩
def ty87:Ty:=⟨4,32,true, .struct [(0,23),(2,23)],[(.int .i64 0),(.int .i64 0),(.int .i64 0),(.int .i64 0)]⟩
def ty94:Ty:=⟨2,16,true, .struct [(0,3),(1,3)],[(.int .i64 0),(.int .i64 0)]⟩
def ty95:Ty:=⟨2,16,true, .struct [(0,3),(1,3)],[(.int .i64 0),(.int .i64 0)]⟩
def ty97:Ty:=⟨4,64,true, .struct [(0,3),(1,9),(2,46),(3,9)],[(.int .i64 0),(.string ByteArray.empty),(.slice none 0 0),(.string ByteArray.empty)]⟩
def AbO:Ty:=⟨1,24,false, .slice 56,[(.slice none 0 0)]⟩
def AbP:Ty:=⟨1,8,false, .other,[.nilFunc]⟩
def ARB:Ty:=⟨7,56,true, .struct [(0,3),(1,3),(2,3),(3,23),(5,3),(6,3)],[(.int .i64 0),(.int .i64 0),(.int .i64 0),(.int .i64 0),(.int .i64 0),(.int .i64 0),(.int .i64 0)]⟩
def AbQ:Ty:=⟨3,24,true, .struct [(0,3),(1,3),(2,3)],[(.int .i64 0),(.int .i64 0),(.int .i64 0)]⟩
def AbR:Ty:=⟨1,24,false, .slice 274,[(.slice none 0 0)]⟩
def ARE:Ty:=⟨2,32,true, .struct [(0,3),(1,127)],[(.int .i64 0),(.slice none 0 0)]⟩
def AbS:Ty:=⟨5,40,true, .struct [(0,3),(1,23),(3,23)],[(.int .i64 0),(.int .i64 0),(.int .i64 0),(.int .i64 0),(.int .i64 0)]⟩
def AbT:Ty:=⟨6,48,true, .struct [(0,3),(1,45),(5,3)],[(.int .i64 0),(.int .i64 0),(.int .i64 0),(.int .i64 0),(.int .i64 0),(.int .i64 0)]⟩
def ARI:Ty:=⟨3,24,true, .struct [(0,3),(1,3),(2,3)],[(.int .i64 0),(.int .i64 0),(.int .i64 0)]⟩
def ml:Ty:=⟨3,24,true, .struct [(0,3),(1,3),(2,3)],[(.int .i64 0),(.int .i64 0),(.int .i64 0)]⟩
def ARK:Ty:=⟨1,8,false, .ptr 161,[(.pointer none)]⟩
def ARM:Ty:=⟨16,152,true, .struct [(0,43),(5,41),(10,3),(11,45),(15,3)],[(.int .u8 0),(.int .i64 0),(.int .i64 0),(.bool false),(.bool false),(.slice none 0 0),(.int .i64 0),(.int .i64 0),(.slice none 0 0),(.int .i64 0),(.int .i64 0),(.int .i64 0),(.int .i64 0),(.int .i64 0),(.int .i64 0),(.int .i64 0)]⟩
def AbU:Ty:=⟨1,8,false, .other,[.nilFunc]⟩
def ARO:Ty:=⟨1,8,false, .other,[.nilFunc]⟩
def AbV:Ty:=⟨1,8,false, .other,[.nilFunc]⟩
def zB:Ty:=⟨1,8,false, .other,[.nilFunc]⟩
def ART:Ty:=⟨14,112,true, .struct [(0,115),(7,79),(11,3),(12,23)],[(.int .i64 0),(.int .i64 0),(.int .i64 0),(.int .i64 0),(.int .i64 0),(.int .i64 0),(.int .i64 0),(.int .i64 0),(.int .i64 0),(.int .i64 0),(.int .i64 0),(.int .i64 0),(.int .i64 0),(.int .i64 0)]⟩
def mv:Ty:=⟨1,24,false, .slice 186,[(.slice none 0 0)]⟩
def ARU:Ty:=⟨2,16,true, .struct [(0,3),(1,3)],[(.int .i64 0),(.int .i64 0)]⟩
def AbW:Ty:=⟨1,24,false, .slice 5,[(.slice none 0 0)]⟩
def ARe:Ty:=⟨1,8,false, .other,[.nilFunc]⟩
def ARf:Ty:=⟨1,24,false, .slice 26,[(.slice none 0 0)]⟩
def ARg:Ty:=⟨1,8,false, .other,[.nilFunc]⟩
def nA:Ty:=⟨1,8,false, .other,[.nilFunc]⟩
def AbX:Ty:=⟨1,8,false, .other,[.nilFunc]⟩
def nE:Ty:=⟨1,8,false, .other,[.nilFunc]⟩
def ARl:Ty:=⟨1,8,false, .other,[.nilFunc]⟩
def nF:Ty:=⟨1,24,false, .slice 249,[(.slice none 0 0)]⟩
def ARm:Ty:=⟨3,24,true, .struct [(0,3),(1,23)],[(.int .i64 0),(.int .i64 0),(.int .i64 0)]⟩
def ARp:Ty:=⟨1,8,false, .other,[.nilFunc]⟩
def AbY:Ty:=⟨3,24,true, .struct [(0,147)],[(.int .i64 0),(.int .i64 0),(.int .i64 0)]⟩
def AbZ:Ty:=⟨1,8,false, .other,[.nilFunc]⟩
def AD7:Ty:=⟨1,8,false, .other,[.nilFunc]⟩
def Aba:Ty:=⟨2,16,true, .struct [(0,3),(1,3)],[(.int .i64 0),(.int .i64 0)]⟩
def nP:Ty:=⟨1,8,false, .other,[.nilFunc]⟩
def Abb:Ty:=⟨1,8,false, .other,[.nilFunc]⟩
def ARt:Ty:=⟨1,8,false, .ptr 285,[(.pointer none)]⟩
def Abc:Ty:=⟨1,8,false, .int .u64,[(.int .u64 0)]⟩
def Abd:Ty:=⟨24,24,true, .array 24 5,[(.int .u8 0),(.int .u8 0),(.int .u8 0),(.int .u8 0),(.int .u8 0),(.int .u8 0),(.int .u8 0),(.int .u8 0),(.int .u8 0),(.int .u8 0),(.int .u8 0),(.int .u8 0),(.int .u8 0),(.int .u8 0),(.int .u8 0),(.int .u8 0),(.int .u8 0),(.int .u8 0),(.int .u8 0),(.int .u8 0),(.int .u8 0),(.int .u8 0),(.int .u8 0),(.int .u8 0)]⟩
def Abe:Ty:=⟨1,8,false, .int .u64,[(.int .u64 0)]⟩
def ng:Ty:=⟨20,160,true, .array 20 301,[(.int .u64 0),(.int .u64 0),(.int .u64 0),(.int .u64 0),(.int .u64 0),(.int .u64 0),(.int .u64 0),(.int .u64 0),(.int .u64 0),(.int .u64 0),(.int .u64 0),(.int .u64 0),(.int .u64 0),(.int .u64 0),(.int .u64 0),(.int .u64 0),(.int .u64 0),(.int .u64 0),(.int .u64 0),(.int .u64 0)]⟩
def AR0:Ty:=⟨1,4,false, .int .u32,[(.int .u32 0)]⟩
def AR1:Ty:=⟨65,65,true, .array 65 5,[(.int .u8 0),(.int .u8 0),(.int .u8 0),(.int .u8 0),(.int .u8 0),(.int .u8 0),(.int .u8 0),(.int .u8 0),(.int .u8 0),(.int .u8 0),(.int .u8 0),(.int .u8 0),(.int .u8 0),(.int .u8 0),(.int .u8 0),(.int .u8 0),(.int .u8 0),(.int .u8 0),(.int .u8 0),(.int .u8 0),(.int .u8 0),(.int .u8 0),(.int .u8 0),(.int .u8 0),(.int .u8 0),(.int .u8 0),(.int .u8 0),(.int .u8 0),(.int .u8 0),(.int .u8 0),(.int .u8 0),(.int .u8 0),(.int .u8 0),(.int .u8 0),(.int .u8 0),(.int .u8 0),(.int .u8 0),(.int .u8 0),(.int .u8 0),(.int .u8 0),(.int .u8 0),(.int .u8 0),(.int .u8 0),(.int .u8 0),(.int .u8 0),(.int .u8 0),(.int .u8 0),(.int .u8 0),(.int .u8 0),(.int .u8 0),(.int .u8 0),(.int .u8 0),(.int .u8 0),(.int .u8 0),(.int .u8 0),(.int .u8 0),(.int .u8 0),(.int .u8 0),(.int .u8 0),(.int .u8 0),(.int .u8 0),(.int .u8 0),(.int .u8 0),(.int .u8 0),(.int .u8 0)]⟩
def Abf:Ty:=⟨1,8,false, .int .i64,[(.int .i64 0)]⟩
def Abg:Ty:=⟨1,8,false, .int .u64,[(.int .u64 0)]⟩
def Abh:Ty:=⟨1,8,false, .ptr 3,[(.pointer none)]⟩
def nj:Ty:=⟨2,2,true, .struct [(0,5),(1,5)],[(.int .u8 0),(.int .u8 0)]⟩
def AR8:Ty:=⟨32,32,true, .array 16 341,[(.int .u8 0),(.int .u8 0),(.int .u8 0),(.int .u8 0),(.int .u8 0),(.int .u8 0),(.int .u8 0),(.int .u8 0),(.int .u8 0),(.int .u8 0),(.int .u8 0),(.int .u8 0),(.int .u8 0),(.int .u8 0),(.int .u8 0),(.int .u8 0),(.int .u8 0),(.int .u8 0),(.int .u8 0),(.int .u8 0),(.int .u8 0),(.int .u8 0),(.int .u8 0),(.int .u8 0),(.int .u8 0),(.int .u8 0),(.int .u8 0),(.int .u8 0),(.int .u8 0),(.int .u8 0),(.int .u8 0),(.int .u8 0)]⟩
def nk:Ty:=⟨32,32,true, .array 32 5,[(.int .u8 0),(.int .u8 0),(.int .u8 0),(.int .u8 0),(.int .u8 0),(.int .u8 0),(.int .u8 0),(.int .u8 0),(.int .u8 0),(.int .u8 0),(.int .u8 0),(.int .u8 0),(.int .u8 0),(.int .u8 0),(.int .u8 0),(.int .u8 0),(.int .u8 0),(.int .u8 0),(.int .u8 0),(.int .u8 0),(.int .u8 0),(.int .u8 0),(.int .u8 0),(.int .u8 0),(.int .u8 0),(.int .u8 0),(.int .u8 0),(.int .u8 0),(.int .u8 0),(.int .u8 0),(.int .u8 0),(.int .u8 0)]⟩
def Abi:Ty:=⟨64,64,true, .array 64 5,[(.int .u8 0),(.int .u8 0),(.int .u8 0),(.int .u8 0),(.int .u8 0),(.int .u8 0),(.int .u8 0),(.int .u8 0),(.int .u8 0),(.int .u8 0),(.int .u8 0),(.int .u8 0),(.int .u8 0),(.int .u8 0),(.int .u8 0),(.int .u8 0),(.int .u8 0),(.int .u8 0),(.int .u8 0),(.int .u8 0),(.int .u8 0),(.int .u8 0),(.int .u8 0),(.int .u8 0),(.int .u8 0),(.int .u8 0),(.int .u8 0),(.int .u8 0),(.int .u8 0),(.int .u8 0),(.int .u8 0),(.int .u8 0),(.int .u8 0),(.int .u8 0),(.int .u8 0),(.int .u8 0),(.int .u8 0),(.int .u8 0),(.int .u8 0),(.int .u8 0),(.int .u8 0),(.int .u8 0),(.int .u8 0),(.int .u8 0),(.int .u8 0),(.int .u8 0),(.int .u8 0),(.int .u8 0),(.int .u8 0),(.int .u8 0),(.int .u8 0),(.int .u8 0),(.int .u8 0),(.int .u8 0),(.int .u8 0),(.int .u8 0),(.int .u8 0),(.int .u8 0),(.int .u8 0),(.int .u8 0),(.int .u8 0),(.int .u8 0),(.int .u8 0),(.int .u8 0)]⟩
def Abj:Ty:=⟨1,8,false, .ptr 333,[(.pointer none)]⟩
def tyL:List (Nat × Ty):=[(2,ty2),(3,ty3),(4,ty4),(5,ty5),(6,ty6),(8,ty8),(9,ty9),(21,ty21),(23,ty23),(24,ty24),(26,ty26),(28,ty28),(30,ty30),(31,ty31),(32,ty32),(34,ty34),(35,ty35),(37,ty37),(38,ty38),(39,ty39),(41,ty41),(43,ty43),(45,ty45),(46,ty46),(47,ty47),(48,ty48),(49,ty49),(50,ty50),(52,ty52),(55,ty55),(56,ty56),(73,ty73),(79,ty79),(87,ty87),(94,ty94),(95,ty95),(97,ty97),(107,AbO),(110,AbP),(115,ARB),(117,AbQ),(127,AbR),(129,ARE),(142,AbS),(144,AbT),(147,ARI),(149,ml),(158,ARK),(161,ARM),(165,AbU),(167,ARO),(169,AbV),(178,zB),(181,ART),(184,mv),(186,ARU),(212,AbW),(218,ARe),(219,ARf),(221,ARg),(229,nA),(237,AbX),(241,nE),(246,ARl),(247,nF),(249,ARm),(263,ARp),(265,AbY),(267,AbZ),(270,AD7),(274,Aba),(277,nP),(282,Abb),(289,ARt),(290,Abc),(300,Abd),(301,Abe),(321,ng),(322,AR0),(323,AR1),(325,Abf),(333,Abg),(337,Abh),(341,nj),(342,AR8),(348,nk),(349,Abi),(350,Abj)]
def eqL:List (Nat × List CK):=[(8,[.int, .int, .bool, .int]),(23,[.int, .int]),(26,[.int, .int]),(43,[.int, .int, .int, .bool, .bool]),(45,[.int, .int, .int, .int]),(79,[.int, .int, .int, .int]),(87,[.int, .int, .int, .int]),(94,[.int, .int]),(95,[.int, .int]),(115,[.int, .int, .int, .int, .int, .int, .int]),(117,[.int, .int, .int]),(142,[.int, .int, .int, .int, .int]),(144,[.int, .int, .int, .int, .int, .int]),(147,[.int, .int, .int]),(149,[.int, .int, .int]),(181,[.int, .int, .int, .int, .int, .int, .int, .int, .int, .int, .int, .int, .int, .int]),(186,[.int, .int]),(249,[.int, .int, .int]),(265,[.int, .int, .int]),(274,[.int, .int]),(341,[.int, .int])]
def tys:Tys:=lk tyL
def eqs:Eqs:=lk eqL
theorem gok:GOk prog tys:=jn (by kernel_rfl)
theorem eok:EB prog eqs:=dT (by kernel_rfl)
theorem mixed:prog.follows .mixedOrders=true:=by kernel_rfl
@[simp] theorem g2:tys 2=some ⟨1,8,false, .int .i64,[(.int .i64 0)]⟩:=AF rfl
@[simp] theorem g3:tys 3=some ⟨1,8,false, .int .i64,[(.int .i64 0)]⟩:=AF rfl
@[simp] theorem g4:tys 4=some ⟨1,1,false, .bool,[(.bool false)]⟩:=AF rfl
@[simp] theorem g5:tys 5=some ⟨1,1,false, .int .u8,[(.int .u8 0)]⟩:=AF rfl
@[simp] theorem g6:tys 6=some ⟨1,1,false, .int .u8,[(.int .u8 0)]⟩:=AF rfl
@[simp] theorem g8:tys 8=some ⟨4,24,true, .struct [(0,2),(1,3),(2,4),(3,6)],[(.int .i64 0),(.int .i64 0),(.bool false),(.int .u8 0)]⟩:=AF rfl
@[simp] theorem g9:tys 9=some ⟨1,16,false, .str,[(.string ByteArray.empty)]⟩:=AF rfl
@[simp] theorem g21:tys 21=some ⟨1,4,false, .int .i32,[(.int .i32 0)]⟩:=AF rfl
@[simp] theorem g23:tys 23=some ⟨2,16,true, .struct [(0,3),(1,3)],[(.int .i64 0),(.int .i64 0)]⟩:=AF rfl
@[simp] theorem g24:tys 24=some ⟨1,24,false, .slice 115,[(.slice none 0 0)]⟩:=AF rfl
@[simp] theorem g26:tys 26=some ⟨2,16,true, .struct [(0,3),(1,3)],[(.int .i64 0),(.int .i64 0)]⟩:=AF rfl
@[simp] theorem g28:tys 28=some ⟨10,96,true, .struct [(0,24),(1,3),(2,26),(4,26),(6,26),(8,26)],[(.slice none 0 0),(.int .i64 0),(.int .i64 0),(.int .i64 0),(.int .i64 0),(.int .i64 0),(.int .i64 0),(.int .i64 0),(.int .i64 0),(.int .i64 0)]⟩:=AF rfl
@[simp] theorem g30:tys 30=some ⟨25,216,true, .struct [(0,23),(2,23),(4,23),(6,23),(8,23),(10,23),(12,3),(13,3),(14,3),(15,28)],[(.int .i64 0),(.int .i64 0),(.int .i64 0),(.int .i64 0),(.int .i64 0),(.int .i64 0),(.int .i64 0),(.int .i64 0),(.int .i64 0),(.int .i64 0),(.int .i64 0),(.int .i64 0),(.int .i64 0),(.int .i64 0),(.int .i64 0),(.slice none 0 0),(.int .i64 0),(.int .i64 0),(.int .i64 0),(.int .i64 0),(.int .i64 0),(.int .i64 0),(.int .i64 0),(.int .i64 0),(.int .i64 0)]⟩:=AF rfl
@[simp] theorem g31:tys 31=some ⟨1,24,false, .slice 142,[(.slice none 0 0)]⟩:=AF rfl
@[simp] theorem g32:tys 32=some ⟨1,24,false, .slice 144,[(.slice none 0 0)]⟩:=AF rfl
@[simp] theorem g34:tys 34=some ⟨2,48,true, .struct [(0,31),(1,32)],[(.slice none 0 0),(.slice none 0 0)]⟩:=AF rfl
@[simp] theorem g35:tys 35=some ⟨1,24,false, .slice 94,[(.slice none 0 0)]⟩:=AF rfl
@[simp] theorem g37:tys 37=some ⟨7,72,true, .struct [(0,35),(1,23),(3,3),(4,3),(5,3),(6,3)],[(.slice none 0 0),(.int .i64 0),(.int .i64 0),(.int .i64 0),(.int .i64 0),(.int .i64 0),(.int .i64 0)]⟩:=AF rfl
@[simp] theorem g38:tys 38=some ⟨1,24,false, .slice 95,[(.slice none 0 0)]⟩:=AF rfl
@[simp] theorem g39:tys 39=some ⟨1,24,false, .slice 23,[(.slice none 0 0)]⟩:=AF rfl
@[simp] theorem g41:tys 41=some ⟨5,72,true, .struct [(0,38),(1,3),(2,3),(3,39),(4,3)],[(.slice none 0 0),(.int .i64 0),(.int .i64 0),(.slice none 0 0),(.int .i64 0)]⟩:=AF rfl
@[simp] theorem g43:tys 43=some ⟨5,32,true, .struct [(0,5),(1,3),(2,3),(3,4),(4,4)],[(.int .u8 0),(.int .i64 0),(.int .i64 0),(.bool false),(.bool false)]⟩:=AF rfl
@[simp] theorem g45:tys 45=some ⟨4,32,true, .struct [(0,23),(2,23)],[(.int .i64 0),(.int .i64 0),(.int .i64 0),(.int .i64 0)]⟩:=AF rfl
@[simp] theorem g46:tys 46=some ⟨1,24,false, .slice 3,[(.slice none 0 0)]⟩:=AF rfl
@[simp] theorem g47:tys 47=some ⟨1,24,false, .slice 117,[(.slice none 0 0)]⟩:=AF rfl
@[simp] theorem g48:tys 48=some ⟨1,24,false, .slice 147,[(.slice none 0 0)]⟩:=AF rfl
@[simp] theorem g49:tys 49=some ⟨1,24,false, .slice 149,[(.slice none 0 0)]⟩:=AF rfl
@[simp] theorem g50:tys 50=some ⟨1,24,false, .slice 97,[(.slice none 0 0)]⟩:=AF rfl
@[simp] theorem g52:tys 52=some ⟨65,696,true, .struct [(0,9),(1,30),(26,34),(28,37),(35,41),(40,43),(45,45),(49,46),(50,3),(51,3),(52,3),(53,3),(54,47),(55,3),(56,3),(57,3),(58,3),(59,48),(60,49),(61,3),(62,3),(63,3),(64,50)],[(.string ByteArray.empty),(.int .i64 0),(.int .i64 0),(.int .i64 0),(.int .i64 0),(.int .i64 0),(.int .i64 0),(.int .i64 0),(.int .i64 0),(.int .i64 0),(.int .i64 0),(.int .i64 0),(.int .i64 0),(.int .i64 0),(.int .i64 0),(.int .i64 0),(.slice none 0 0),(.int .i64 0),(.int .i64 0),(.int .i64 0),(.int .i64 0),(.int .i64 0),(.int .i64 0),(.int .i64 0),(.int .i64 0),(.int .i64 0),(.slice none 0 0),(.slice none 0 0),(.slice none 0 0),(.int .i64 0),(.int .i64 0),(.int .i64 0),(.int .i64 0),(.int .i64 0),(.int .i64 0),(.slice none 0 0),(.int .i64 0),(.int .i64 0),(.slice none 0 0),(.int .i64 0),(.int .u8 0),(.int .i64 0),(.int .i64 0),(.bool false),(.bool false),(.int .i64 0),(.int .i64 0),(.int .i64 0),(.int .i64 0),(.slice none 0 0),(.int .i64 0),(.int .i64 0),(.int .i64 0),(.int .i64 0),(.slice none 0 0),(.int .i64 0),(.int .i64 0),(.int .i64 0),(.int .i64 0),(.slice none 0 0),(.slice none 0 0),(.int .i64 0),(.int .i64 0),(.int .i64 0),(.slice none 0 0)]⟩:=AF rfl
@[simp] theorem g55:tys 55=some ⟨1,24,false, .slice 87,[(.slice none 0 0)]⟩:=AF rfl
@[simp] theorem g56:tys 56=some ⟨1,8,false, .int .i64,[(.int .i64 0)]⟩:=AF rfl
@[simp] theorem g73:tys 73=some ⟨2,40,true, .struct [(0,9),(1,50)],[(.string ByteArray.empty),(.slice none 0 0)]⟩:=AF rfl
@[simp] theorem g79:tys 79=some ⟨4,32,true, .struct [(0,23),(2,23)],[(.int .i64 0),(.int .i64 0),(.int .i64 0),(.int .i64 0)]⟩:=AF rfl
@[simp] theorem g87:tys 87=some ⟨4,32,true, .struct [(0,23),(2,23)],[(.int .i64 0),(.int .i64 0),(.int .i64 0),(.int .i64 0)]⟩:=AF rfl
@[simp] theorem g94:tys 94=some ⟨2,16,true, .struct [(0,3),(1,3)],[(.int .i64 0),(.int .i64 0)]⟩:=AF rfl
@[simp] theorem g95:tys 95=some ⟨2,16,true, .struct [(0,3),(1,3)],[(.int .i64 0),(.int .i64 0)]⟩:=AF rfl
@[simp] theorem g97:tys 97=some ⟨4,64,true, .struct [(0,3),(1,9),(2,46),(3,9)],[(.int .i64 0),(.string ByteArray.empty),(.slice none 0 0),(.string ByteArray.empty)]⟩:=AF rfl
@[simp] theorem g107:tys 107=some ⟨1,24,false, .slice 56,[(.slice none 0 0)]⟩:=AF rfl
@[simp] theorem g110:tys 110=some ⟨1,8,false, .other,[.nilFunc]⟩:=AF rfl
@[simp] theorem g115:tys 115=some ⟨7,56,true, .struct [(0,3),(1,3),(2,3),(3,23),(5,3),(6,3)],[(.int .i64 0),(.int .i64 0),(.int .i64 0),(.int .i64 0),(.int .i64 0),(.int .i64 0),(.int .i64 0)]⟩:=AF rfl
@[simp] theorem g117:tys 117=some ⟨3,24,true, .struct [(0,3),(1,3),(2,3)],[(.int .i64 0),(.int .i64 0),(.int .i64 0)]⟩:=AF rfl
@[simp] theorem g127:tys 127=some ⟨1,24,false, .slice 274,[(.slice none 0 0)]⟩:=AF rfl
@[simp] theorem g129:tys 129=some ⟨2,32,true, .struct [(0,3),(1,127)],[(.int .i64 0),(.slice none 0 0)]⟩:=AF rfl
@[simp] theorem g142:tys 142=some ⟨5,40,true, .struct [(0,3),(1,23),(3,23)],[(.int .i64 0),(.int .i64 0),(.int .i64 0),(.int .i64 0),(.int .i64 0)]⟩:=AF rfl
@[simp] theorem g144:tys 144=some ⟨6,48,true, .struct [(0,3),(1,45),(5,3)],[(.int .i64 0),(.int .i64 0),(.int .i64 0),(.int .i64 0),(.int .i64 0),(.int .i64 0)]⟩:=AF rfl
@[simp] theorem g147:tys 147=some ⟨3,24,true, .struct [(0,3),(1,3),(2,3)],[(.int .i64 0),(.int .i64 0),(.int .i64 0)]⟩:=AF rfl
@[simp] theorem g149:tys 149=some ⟨3,24,true, .struct [(0,3),(1,3),(2,3)],[(.int .i64 0),(.int .i64 0),(.int .i64 0)]⟩:=AF rfl
@[simp] theorem g158:tys 158=some ⟨1,8,false, .ptr 161,[(.pointer none)]⟩:=AF rfl
@[simp] theorem g161:tys 161=some ⟨16,152,true, .struct [(0,43),(5,41),(10,3),(11,45),(15,3)],[(.int .u8 0),(.int .i64 0),(.int .i64 0),(.bool false),(.bool false),(.slice none 0 0),(.int .i64 0),(.int .i64 0),(.slice none 0 0),(.int .i64 0),(.int .i64 0),(.int .i64 0),(.int .i64 0),(.int .i64 0),(.int .i64 0),(.int .i64 0)]⟩:=AF rfl
@[simp] theorem g165:tys 165=some ⟨1,8,false, .other,[.nilFunc]⟩:=AF rfl
@[simp] theorem g167:tys 167=some ⟨1,8,false, .other,[.nilFunc]⟩:=AF rfl
@[simp] theorem g169:tys 169=some ⟨1,8,false, .other,[.nilFunc]⟩:=AF rfl
@[simp] theorem g178:tys 178=some ⟨1,8,false, .other,[.nilFunc]⟩:=AF rfl
@[simp] theorem g181:tys 181=some ⟨14,112,true, .struct [(0,115),(7,79),(11,3),(12,23)],[(.int .i64 0),(.int .i64 0),(.int .i64 0),(.int .i64 0),(.int .i64 0),(.int .i64 0),(.int .i64 0),(.int .i64 0),(.int .i64 0),(.int .i64 0),(.int .i64 0),(.int .i64 0),(.int .i64 0),(.int .i64 0)]⟩:=AF rfl
@[simp] theorem g184:tys 184=some ⟨1,24,false, .slice 186,[(.slice none 0 0)]⟩:=AF rfl
@[simp] theorem g186:tys 186=some ⟨2,16,true, .struct [(0,3),(1,3)],[(.int .i64 0),(.int .i64 0)]⟩:=AF rfl
@[simp] theorem g212:tys 212=some ⟨1,24,false, .slice 5,[(.slice none 0 0)]⟩:=AF rfl
@[simp] theorem g218:tys 218=some ⟨1,8,false, .other,[.nilFunc]⟩:=AF rfl
@[simp] theorem g219:tys 219=some ⟨1,24,false, .slice 26,[(.slice none 0 0)]⟩:=AF rfl
@[simp] theorem g221:tys 221=some ⟨1,8,false, .other,[.nilFunc]⟩:=AF rfl
@[simp] theorem g229:tys 229=some ⟨1,8,false, .other,[.nilFunc]⟩:=AF rfl
@[simp] theorem g237:tys 237=some ⟨1,8,false, .other,[.nilFunc]⟩:=AF rfl
@[simp] theorem g241:tys 241=some ⟨1,8,false, .other,[.nilFunc]⟩:=AF rfl
@[simp] theorem g246:tys 246=some ⟨1,8,false, .other,[.nilFunc]⟩:=AF rfl
@[simp] theorem g247:tys 247=some ⟨1,24,false, .slice 249,[(.slice none 0 0)]⟩:=AF rfl
@[simp] theorem g249:tys 249=some ⟨3,24,true, .struct [(0,3),(1,23)],[(.int .i64 0),(.int .i64 0),(.int .i64 0)]⟩:=AF rfl
@[simp] theorem g263:tys 263=some ⟨1,8,false, .other,[.nilFunc]⟩:=AF rfl
@[simp] theorem g265:tys 265=some ⟨3,24,true, .struct [(0,147)],[(.int .i64 0),(.int .i64 0),(.int .i64 0)]⟩:=AF rfl
@[simp] theorem g267:tys 267=some ⟨1,8,false, .other,[.nilFunc]⟩:=AF rfl
@[simp] theorem g270:tys 270=some ⟨1,8,false, .other,[.nilFunc]⟩:=AF rfl
@[simp] theorem g274:tys 274=some ⟨2,16,true, .struct [(0,3),(1,3)],[(.int .i64 0),(.int .i64 0)]⟩:=AF rfl
@[simp] theorem g277:tys 277=some ⟨1,8,false, .other,[.nilFunc]⟩:=AF rfl
@[simp] theorem g282:tys 282=some ⟨1,8,false, .other,[.nilFunc]⟩:=AF rfl
@[simp] theorem g289:tys 289=some ⟨1,8,false, .ptr 285,[(.pointer none)]⟩:=AF rfl
@[simp] theorem g290:tys 290=some ⟨1,8,false, .int .u64,[(.int .u64 0)]⟩:=AF rfl
@[simp] theorem g300:tys 300=some ⟨24,24,true, .array 24 5,[(.int .u8 0),(.int .u8 0),(.int .u8 0),(.int .u8 0),(.int .u8 0),(.int .u8 0),(.int .u8 0),(.int .u8 0),(.int .u8 0),(.int .u8 0),(.int .u8 0),(.int .u8 0),(.int .u8 0),(.int .u8 0),(.int .u8 0),(.int .u8 0),(.int .u8 0),(.int .u8 0),(.int .u8 0),(.int .u8 0),(.int .u8 0),(.int .u8 0),(.int .u8 0),(.int .u8 0)]⟩:=AF rfl
@[simp] theorem g301:tys 301=some ⟨1,8,false, .int .u64,[(.int .u64 0)]⟩:=AF rfl
@[simp] theorem g321:tys 321=some ⟨20,160,true, .array 20 301,[(.int .u64 0),(.int .u64 0),(.int .u64 0),(.int .u64 0),(.int .u64 0),(.int .u64 0),(.int .u64 0),(.int .u64 0),(.int .u64 0),(.int .u64 0),(.int .u64 0),(.int .u64 0),(.int .u64 0),(.int .u64 0),(.int .u64 0),(.int .u64 0),(.int .u64 0),(.int .u64 0),(.int .u64 0),(.int .u64 0)]⟩:=AF rfl
@[simp] theorem g322:tys 322=some ⟨1,4,false, .int .u32,[(.int .u32 0)]⟩:=AF rfl
@[simp] theorem g323:tys 323=some ⟨65,65,true, .array 65 5,[(.int .u8 0),(.int .u8 0),(.int .u8 0),(.int .u8 0),(.int .u8 0),(.int .u8 0),(.int .u8 0),(.int .u8 0),(.int .u8 0),(.int .u8 0),(.int .u8 0),(.int .u8 0),(.int .u8 0),(.int .u8 0),(.int .u8 0),(.int .u8 0),(.int .u8 0),(.int .u8 0),(.int .u8 0),(.int .u8 0),(.int .u8 0),(.int .u8 0),(.int .u8 0),(.int .u8 0),(.int .u8 0),(.int .u8 0),(.int .u8 0),(.int .u8 0),(.int .u8 0),(.int .u8 0),(.int .u8 0),(.int .u8 0),(.int .u8 0),(.int .u8 0),(.int .u8 0),(.int .u8 0),(.int .u8 0),(.int .u8 0),(.int .u8 0),(.int .u8 0),(.int .u8 0),(.int .u8 0),(.int .u8 0),(.int .u8 0),(.int .u8 0),(.int .u8 0),(.int .u8 0),(.int .u8 0),(.int .u8 0),(.int .u8 0),(.int .u8 0),(.int .u8 0),(.int .u8 0),(.int .u8 0),(.int .u8 0),(.int .u8 0),(.int .u8 0),(.int .u8 0),(.int .u8 0),(.int .u8 0),(.int .u8 0),(.int .u8 0),(.int .u8 0),(.int .u8 0),(.int .u8 0)]⟩:=AF rfl
@[simp] theorem g325:tys 325=some ⟨1,8,false, .int .i64,[(.int .i64 0)]⟩:=AF rfl
@[simp] theorem g333:tys 333=some ⟨1,8,false, .int .u64,[(.int .u64 0)]⟩:=AF rfl
@[simp] theorem g337:tys 337=some ⟨1,8,false, .ptr 3,[(.pointer none)]⟩:=AF rfl
@[simp] theorem g341:tys 341=some ⟨2,2,true, .struct [(0,5),(1,5)],[(.int .u8 0),(.int .u8 0)]⟩:=AF rfl
@[simp] theorem g342:tys 342=some ⟨32,32,true, .array 16 341,[(.int .u8 0),(.int .u8 0),(.int .u8 0),(.int .u8 0),(.int .u8 0),(.int .u8 0),(.int .u8 0),(.int .u8 0),(.int .u8 0),(.int .u8 0),(.int .u8 0),(.int .u8 0),(.int .u8 0),(.int .u8 0),(.int .u8 0),(.int .u8 0),(.int .u8 0),(.int .u8 0),(.int .u8 0),(.int .u8 0),(.int .u8 0),(.int .u8 0),(.int .u8 0),(.int .u8 0),(.int .u8 0),(.int .u8 0),(.int .u8 0),(.int .u8 0),(.int .u8 0),(.int .u8 0),(.int .u8 0),(.int .u8 0)]⟩:=AF rfl
@[simp] theorem g348:tys 348=some ⟨32,32,true, .array 32 5,[(.int .u8 0),(.int .u8 0),(.int .u8 0),(.int .u8 0),(.int .u8 0),(.int .u8 0),(.int .u8 0),(.int .u8 0),(.int .u8 0),(.int .u8 0),(.int .u8 0),(.int .u8 0),(.int .u8 0),(.int .u8 0),(.int .u8 0),(.int .u8 0),(.int .u8 0),(.int .u8 0),(.int .u8 0),(.int .u8 0),(.int .u8 0),(.int .u8 0),(.int .u8 0),(.int .u8 0),(.int .u8 0),(.int .u8 0),(.int .u8 0),(.int .u8 0),(.int .u8 0),(.int .u8 0),(.int .u8 0),(.int .u8 0)]⟩:=AF rfl
@[simp] theorem g349:tys 349=some ⟨64,64,true, .array 64 5,[(.int .u8 0),(.int .u8 0),(.int .u8 0),(.int .u8 0),(.int .u8 0),(.int .u8 0),(.int .u8 0),(.int .u8 0),(.int .u8 0),(.int .u8 0),(.int .u8 0),(.int .u8 0),(.int .u8 0),(.int .u8 0),(.int .u8 0),(.int .u8 0),(.int .u8 0),(.int .u8 0),(.int .u8 0),(.int .u8 0),(.int .u8 0),(.int .u8 0),(.int .u8 0),(.int .u8 0),(.int .u8 0),(.int .u8 0),(.int .u8 0),(.int .u8 0),(.int .u8 0),(.int .u8 0),(.int .u8 0),(.int .u8 0),(.int .u8 0),(.int .u8 0),(.int .u8 0),(.int .u8 0),(.int .u8 0),(.int .u8 0),(.int .u8 0),(.int .u8 0),(.int .u8 0),(.int .u8 0),(.int .u8 0),(.int .u8 0),(.int .u8 0),(.int .u8 0),(.int .u8 0),(.int .u8 0),(.int .u8 0),(.int .u8 0),(.int .u8 0),(.int .u8 0),(.int .u8 0),(.int .u8 0),(.int .u8 0),(.int .u8 0),(.int .u8 0),(.int .u8 0),(.int .u8 0),(.int .u8 0),(.int .u8 0),(.int .u8 0),(.int .u8 0),(.int .u8 0)]⟩:=AF rfl
@[simp] theorem g350:tys 350=some ⟨1,8,false, .ptr 333,[(.pointer none)]⟩:=AF rfl
@[simp] theorem e8:eqs 8=some [.int, .int, .bool, .int]:=AF rfl
@[simp] theorem e23:eqs 23=some [.int, .int]:=AF rfl
@[simp] theorem e26:eqs 26=some [.int, .int]:=AF rfl
@[simp] theorem e43:eqs 43=some [.int, .int, .int, .bool, .bool]:=AF rfl
@[simp] theorem e45:eqs 45=some [.int, .int, .int, .int]:=AF rfl
@[simp] theorem e79:eqs 79=some [.int, .int, .int, .int]:=AF rfl
@[simp] theorem e87:eqs 87=some [.int, .int, .int, .int]:=AF rfl
@[simp] theorem e94:eqs 94=some [.int, .int]:=AF rfl
@[simp] theorem e95:eqs 95=some [.int, .int]:=AF rfl
@[simp] theorem e115:eqs 115=some [.int, .int, .int, .int, .int, .int, .int]:=AF rfl
@[simp] theorem e117:eqs 117=some [.int, .int, .int]:=AF rfl
@[simp] theorem e142:eqs 142=some [.int, .int, .int, .int, .int]:=AF rfl
@[simp] theorem e144:eqs 144=some [.int, .int, .int, .int, .int, .int]:=AF rfl
@[simp] theorem e147:eqs 147=some [.int, .int, .int]:=AF rfl
@[simp] theorem e149:eqs 149=some [.int, .int, .int]:=AF rfl
@[simp] theorem e181:eqs 181=some [.int, .int, .int, .int, .int, .int, .int, .int, .int, .int, .int, .int, .int, .int]:=AF rfl
@[simp] theorem e186:eqs 186=some [.int, .int]:=AF rfl
@[simp] theorem e249:eqs 249=some [.int, .int, .int]:=AF rfl
@[simp] theorem e265:eqs 265=some [.int, .int, .int]:=AF rfl
@[simp] theorem e274:eqs 274=some [.int, .int]:=AF rfl
@[simp] theorem e341:eqs 341=some [.int, .int]:=AF rfl
theorem CB {f:FuncId} {fn:Func} {p:PC} {args:List V} {r:V} {H1:List (Nat × List V)} (hf:prog.funcs[f]?= some fn) (hc:fn.body.bind (comp fn.ntmps)=some p) (h:∀ E:Ent,(∀ i,¬ E.stab i)->PW prog tys eqs E p (dL tys fn r H1) ⟨Dn 0 args,fun _=>none,0⟩) (hn:args.length<=fn.ntmps:=by exact Nat.le_of_ble_eq_true rfl) (hname:(fn.name == "runtime.NumGoroutine")=false:=by rfl) (hcl:∀ v∈args,I8 v:=by simp) (hri:LD r H1:=by simp [LD]):Ct prog f args r H1:=
 Ct.by gok eok mixed hf hc hname hn hcl hri h
theorem CM {f:FuncId} {fn:Func} {p:PC} {args:List V} {Hin:List (Nat × List V)} {ks:List Nat} {res:Res} {H1:List (Nat × List V)} (N:Nat) (hf:prog.funcs[f]?= some fn) (hc:fn.body.bind (comp fn.ntmps)=some p) (h:∀ E:Ent,(∀ i,E.stab i↔i∈ks)->E.nt=fn.ntmps/\E.rq->PW prog tys eqs E p (Mh tys fn ks res H1) ⟨Dn 0 args,lk Hin,N⟩) (hn:args.length<=fn.ntmps:=by exact Nat.le_of_ble_eq_true rfl) (hname:(fn.name == "runtime.NumGoroutine")=false:=by rfl) (hcl:∀ v∈args,A2 (· < N) AR v:=by simp) (hids:A7 N Hin:=by simp) (hks:∀ i∈ks,i<N:=by simp) (hri:LD res.v H1:=by simp [LD]):Cm prog f args (lk Hin) ks res (lk H1):=
 Cm.by gok eok mixed N hf hc hname hn hcl (A7.at hids) hks hri h
abbrev vi (n:Int):V:= .d (.lit (.int .i64 n))
abbrev vb (b:Bool):V:= .d (.lit (.bool b))
abbrev di (n:Int):D:= .lit (.int .i64 n)
abbrev vsp (a b:Int):V:= .agg [vi a,vi b]
abbrev An (l:List (Int × Int)):D:= .sl 2 (l.map fun s=>[di s.1,di s.2])
def okS (s:Int × Int):Bool:=decide (s.1<=s.2)&&decide (-1099511627776<=s.1)&&decide (s.2<=1099511627776)
def eh (l:List (Int × Int)):Bool:=l.all okS
theorem AJ5 {l:List (Int × Int)} {i:Nat} {s:Int × Int} (hs:l[i]?= some s):eh (l.take (i+1))=(eh (l.take i)&&okS s):=by
 simp [eh,List.take_add_one,hs]
theorem EF {l:List (Int × Int)} {i:Nat} {s:Int × Int} (hs:l[i]?= some s) (h:okS s=false):eh l=false:=by
 unfold eh;rw [List.all_eq_false];exact ⟨s,List.mem_of_getElem? hs,by simp [h]⟩
theorem rJ (l:List (Int × Int)) (hl:l.length<=1000000):Ct prog 178 [.d (An l)] (vb (eh l)) []:=by
 refine Ct.by gok eok mixed func178 c178 rfl ?_ ?_ ?_ fun E hE=>?_
 . simp [ntmps178]
 . simp
 . simp [LD]
 simp [p178];refine Al (α:=Nat) (fun i=>⟨AO [(5, .d (An l)),(6,vi l.length),(7,vi i)],lk [],0⟩) (fun i=>i<=l.length/\eh (l.take i)=true) (fun i=>l.length-i) 0 ?_ ?_ ?_
 . simp [eh]
 . exact WK hE (fun _=>none)
 . intro i ⟨hi,hf⟩
   simp [bK];refine DW (fun h=>?_) (fun h=>?_)
   . simp at h
     obtain ⟨s,hs⟩:∃ s,l[i]?= some s:=⟨l[i],by simp [h]⟩
     have hz:IntKind.wrap .i64 ((i:Int)+1)=(i:Int)+1:=AD (by omega) (by omega)
     have hbad:okS s=false->AB tys f178 (vb (eh l)) [] ⟨AO [(2,vb false)],lk [],0⟩:=fun hh=>by
       refine ⟨[vb false],fun _=>none,?_⟩;simp [results178,EF hs hh]
     by_cases h1:s.2<s.1
     . have hh:okS s=false:=by simp [okS];omega
       simp [An,hs,AA,h1];refine ⟨[vb false],fun _=>none,?_⟩;simp [results178,EF hs hh]
     . by_cases h2:s.1 < -1099511627776
       . have hh:okS s=false:=by simp [okS];omega
         simp [An,hs,AA,h1,h2];refine ⟨[vb false],fun _=>none,?_⟩;simp [results178,EF hs hh]
       . by_cases h3:1099511627776<s.2
         . have hh:okS s=false:=by simp [okS];omega
           simp [An,hs,AA,h1,h2,h3];refine ⟨[vb false],fun _=>none,?_⟩;simp [results178,EF hs hh]
         . have hh:okS s=true:=by simp [okS];omega
           simp [An,hs,AA,h1,h2,h3,hz];refine ⟨i+1,⟨by omega,?_⟩,by omega,?_⟩
           . rw [AJ5 hs,hf,hh];rfl
           . exact WK hE (fun _=>none)
   . simp at h
     have hil:i=l.length:=by omega
     subst hil;rw [List.take_length] at hf;simp;refine ⟨[vb true],fun _=>none,?_⟩;simp [results178,hf]
theorem zO (s:Int × Int):Ct prog 101 [vsp s.1 s.2] (vi (if okS s then 0 else 10)) []:=by
 refine Ct.by gok eok mixed func101 c101 rfl ?_ ?_ ?_ fun E hE=>?_
 . simp [ntmps101]
 . simp
 . simp [LD]
 simp [p101,AM,AA];refine AU.mk _ _ _ (rJ [s] (by simp)) ?_ ?_ ?_ ?_
 . simp [Bk]
 . simp
 . right;simp
 by_cases h:okS s=true
 . simp [eh,h]
   refine ⟨[vi 0],fun _=>none,?_⟩;simp [results101]
 . simp [eh,h]
   refine ⟨[vi 10],fun _=>none,?_⟩;simp [results101]
abbrev vse (s:(Int × Int) × Int):V:= .tup [vsp s.1.1 s.1.2,vi s.2]
theorem CT {s:Int × Int}:okS s=true↔s.1<=s.2/\ -1099511627776<=s.1/\s.2<=1099511627776:=by simp [okS,and_assoc]
theorem zT (n lo hi:Int):Ct prog 263 [vi n,vi lo,vi hi] (vb (decide (lo<=n)&&decide (n<=hi))) []:=by
 refine Ct.by gok eok mixed func263 c263 rfl ?_ ?_ ?_ fun E hE=>?_
 . simp [ntmps263]
 . simp
 . simp [LD]
 by_cases h1:lo<=n
 . simp [p263,h1]
   apply RZ;simp [results263]
 . simp [p263,h1]
   apply RZ;simp [results263]
theorem Aad (s:Int × Int):Ct prog 204 [vsp s.1 s.2] (vb (okS s)) []:=by
 refine Ct.by gok eok mixed func204 c204 rfl ?_ ?_ ?_ fun E hE=>?_
 . simp [ntmps204]
 . simp
 . simp [LD]
 by_cases h1:s.1<=s.2
 . simp [p204,h1]
   refine AU.mk _ _ _ (zT s.1 (-1099511627776) 1099511627776) ?_ ?_ ?_ ?_
   . simp
   . simp
   . right;simp
   by_cases h2: -1099511627776<=s.1
   . have h3:s.1<=1099511627776\/¬ s.1<=1099511627776:=Decidable.em _
     rcases h3 with h3 | h3
     . simp [h2,h3]
       refine AU.mk _ _ _ (zT s.2 (-1099511627776) 1099511627776) ?_ ?_ ?_ ?_
       . simp
       . simp
       . right;simp
       simp;apply RZ;have h4: -1099511627776<=s.2:=by omega
       simp [results204,okS,h1,h2,h4]
     . simp [h2,h3]
       apply RZ;have h4:¬ s.2<=1099511627776:=by omega
       simp [results204,okS,h1,h2,h4]
   . simp [h2]
     apply RZ;simp [results204,okS,h1,h2]
 . simp [p204,h1]
   apply RZ;simp [results204,okS,h1]
theorem Tc (s:Int × Int):Ct prog 119 [vsp s.1 s.2] (vi (if okS s then 0 else 10)) []:=by
 refine Ct.by gok eok mixed func119 c119 rfl ?_ ?_ ?_ fun E hE=>?_
 . simp [ntmps119]
 . simp
 . simp [LD]
 simp [p119];refine AU.mk _ _ _ (Aad s) ?_ ?_ ?_ ?_
 . simp
 . simp
 . right;simp
 by_cases h:okS s=true
 . simp [h]
   apply RZ;simp [results119]
 . simp [h]
   apply RZ;simp [results119]
def Xa (o s:Int × Int):Int × Int:=(min o.1 s.1,max o.2 s.2)
def ALK (s:Int × Int) (l:List (Int × Int)):Int × Int:=l.foldl Xa s
theorem Hw {s0:Int × Int} {l:List (Int × Int)} {i:Nat} {s:Int × Int} (hs:l[i]?= some s):ALK s0 (l.take (i+1))=Xa (ALK s0 (l.take i)) s:=by
 simp [ALK,List.take_add_one,hs]
theorem zi (s0:Int × Int) (l:List (Int × Int)) (hl:l.length<=1000000):Ct prog 250 [.d (An (s0::l))] (vsp (ALK s0 l).1 (ALK s0 l).2) []:=by
 refine Ct.by gok eok mixed func250 c250 rfl ?_ ?_ ?_ fun E hE=>?_
 . simp [ntmps250]
 . simp
 . simp [LD]
 have h0:(1:Int)<=(l.length:Int)+1:=by omega
 simp [p250,AA,h0];refine Al (α:=Nat) (fun i=>⟨AO [(2, .lp 0 0),(3, .lp 1 0),(10, .d (An l)),(11,vi l.length),(12,vi i)],lk [(0,[vi 0,vi 0]),(1,[vi (ALK s0 (l.take i)).1,vi (ALK s0 (l.take i)).2])],16⟩) (fun i=>i<=l.length) (fun i=>l.length-i) 0 ?_ ?_ ?_
 . simp
 . refine AI.mk hE (fun i=>if i=0 then some 0 else some 4194304) _ _ _ ?_ ?_ ?_ ?_ ?_<;>simp [ALK]
   exact List.take_of_length_le (by simp)
 . intro i hi
   simp [AZD];refine DW (fun h=>?_) (fun h=>?_)
   . simp at h
     obtain ⟨s,hs⟩:∃ s,l[i]?= some s:=⟨l[i],by simp [h]⟩
     have hz:IntKind.wrap .i64 ((i:Int)+1)=(i:Int)+1:=AD (by omega) (by omega);simp [An,hs,AA];refine AL [(11,1)] (by kernel_rfl) ?_;simp [AA,hz,inC,Nat.testBit];refine ⟨i+1,by omega,by omega,?_⟩;refine AI.mk hE (fun i=>some i) _ _ _ ?_ ?_ ?_ ?_ ?_<;>simp [Hw hs,Xa]
   . simp at h
     have hil:i=l.length:=by omega
     subst hil;simp [AA];apply RZ;simp [results250]
theorem NK {x y M N:Int} (hx: -M<=x/\x<=M) (hy: -N<=y/\y<=N): -(M*N)<=x*y/\x*y<=M*N:=by
 have hN:0<=N:=by omega
 have hM:0<=M:=by omega
 have a1:M* -N= -(M*N):=Int.mul_neg M N;by_cases h:0<=x
 . have h1:=Int.mul_le_mul_of_nonneg_left hy.2 h
   have h2:=Int.mul_le_mul_of_nonneg_left hy.1 h;have h3:=Int.mul_le_mul_of_nonneg_right hx.2 hN;have h4:x* -N= -(x*N):=Int.mul_neg x N;omega
 . have h1:=Int.mul_le_mul_of_nonpos_left (show x<=0 by omega) hy.2
   have h2:=Int.mul_le_mul_of_nonpos_left (show x<=0 by omega) hy.1;have h3:=Int.mul_le_mul_of_nonneg_right hx.1 hN;have h4:x* -N= -(x*N):=Int.mul_neg x N;have h5: -M*N= -(M*N):=Int.neg_mul M N;omega
def bd (M:Int) (p:Int × Int):Prop:=(-M<=p.1/\p.1<=M)/\(-M<=p.2/\p.2<=M)
def DU (a b:Int × Int):Int × Int:=(b.1-a.1,b.2-a.2)
theorem NL {M N:Int} {a b:Int × Int} (ha:bd M a) (hb:bd M b) (h:N=2*M):bd N (DU a b):=by
 unfold bd DU at*;simp only;omega
theorem yG (a b:Int × Int) (ha:bd 1152921504606846976 a) (hb:bd 1152921504606846976 b):Ct prog 233 [vsp a.1 a.2,vsp b.1 b.2] (vsp (DU a b).1 (DU a b).2) []:=by
 refine CB func233 c233 fun E hE=>?_
 unfold bd at ha hb;have w1:IntKind.wrap .i64 (b.1-a.1)=b.1-a.1:=AD (by omega) (by omega);have w2:IntKind.wrap .i64 (b.2-a.2)=b.2-a.2:=AD (by omega) (by omega);simp [p233,w1,w2,AA];apply RZ;simp [results233,DU]
def TX (u v:Int × Int):Int:=u.1*v.2-u.2*v.1
theorem fk {M:Int} {u v:Int × Int} (hu:bd M u) (hv:bd M v):(-(M*M)<=u.1*v.2/\u.1*v.2<=M*M)/\(-(M*M)<=u.2*v.1/\u.2*v.1<=M*M):=⟨NK hu.1 hv.2,NK hu.2 hv.1⟩
theorem Ab4 (u v:Int × Int) (hu:bd 2000000000 u) (hv:bd 2000000000 v):Ct prog 232 [vsp u.1 u.2,vsp v.1 v.2] (vi (TX u v)) []:=by
 refine CB func232 c232 fun E hE=>?_
 have hb:=fk hu hv;have w1:IntKind.wrap .i64 (u.1*v.2)=u.1*v.2:=AD (by omega) (by omega);have w2:IntKind.wrap .i64 (u.2*v.1)=u.2*v.1:=AD (by omega) (by omega);have w3:IntKind.wrap .i64 (u.1*v.2-u.2*v.1)=u.1*v.2-u.2*v.1:=AD (by omega) (by omega);simp [p232,w1,w2,w3];apply RZ;simp [results232,TX]
theorem AaS (n:Int):Ct prog 318 [vi n] (vb false) []:=by
 refine CB func318 c318 fun E hE=>?_
 simp [p318];apply RZ;simp [results318]
def NM (a b:Int):Int:=if a<b then -1 else if b<a then 1 else 0
theorem un (a b:Int):Ct prog 283 [vi a,vi b] (vi (NM a b)) []:=by
 refine CB func283 c283 fun E hE=>?_
 simp [p283];refine CLa (AaS a) ?_;simp;refine CLa (AaS b) ?_;simp;by_cases h:a<b
 . simp [h]
   apply RZ;simp [results283,NM,h]
 . by_cases h2:b<a
   . simp [h,h2]
     apply RZ;simp [results283,NM,h,h2]
   . simp [h,h2]
     apply RZ;simp [results283,NM,h,h2]
def orI:List Int->Int
 | []=>0
 | a::r=>if a=0 then orI r else a
abbrev Qw (l:List Int):D:= .sl 1 (l.map fun n=>[di n])
theorem Aaw (a b:Int):Ct prog 282 [.d (Qw [a,b])] (vi (orI [a,b])) []:=by
 refine CB func282 c282 fun E hE=>?_
 have hz:IntKind.wrap .i64 1=1:=by decide
 have hz2:IntKind.wrap .i64 2=2:=by decide
 simp [p282];refine Al (α:=Nat) (fun i=>⟨AO [(3,vi 0),(6, .d (Qw [a,b])),(7,vi 2),(8,vi i)],lk [],0⟩) (fun i=>i<=2/\(1<=i->a=0)/\(2<=i->b=0)) (fun i=>2-i) 0 ?_ ?_ ?_
 . simp
 . exact WK hE (lk [])
 . rintro i ⟨hi,h1,h2⟩
   simp [AZF];obtain rfl | rfl | rfl:i=0\/i=1\/i=2:=by omega
   . by_cases h:a=0
     . simp [h,hz]
       refine ⟨1,by omega,by omega,?_⟩;exact WK hE (lk [])
     . simp [h]
       apply RZ;simp [results282,orI,h]
   . have ha:=h1 (by omega)
     by_cases h:b=0
     . simp [h,ha,hz2]
       refine ⟨2,by omega,by omega,?_⟩;exact WK hE (lk [])
     . simp [h,ha]
       apply RZ;simp [results282,orI,h]
   . have ha:=h1 (by omega)
     have hb:=h2 (by omega);simp [ha,hb];apply RZ;simp [results282,orI]
def Dw (a b:Int × Int):Int:=orI [NM a.1 b.1,NM a.2 b.2]
end Go.Proofs.Tryz
namespace Go.Air
structure Cel where
 rm:Int
 he:Int
 ai:Int
 wl:Int
 wh:Int
 lk:Int
 ow:Int
deriving DecidableEq,Inhabited
structure Atm where
 pl:Int
 ph:Int
 tl:Int
 th:Int
deriving DecidableEq,Inhabited
def rgB (lo hi:Int) (l:List Int):Bool:=l.all fun n=>decide (lo<=n)&&decide (n<=hi)
def spB (lo hi a b:Int):Bool:=rgB lo hi [a,b]&&decide (a<=b)
theorem CC {lo hi a b:Int}:spB lo hi a b=true↔lo<=a/\a<=b/\b<=hi:=by
 unfold spB rgB;simp;omega
def L3 (a:Atm):Bool:=spB 1000 12000 a.pl a.ph&&spB 1500 3500 a.tl a.th
def Je (c:Cel):Bool:=rgB 1 10000000 [c.rm]&&rgB 0 10000000 [c.he,c.ai]&&rgB 0 100000 [c.lk]&&rgB 0 999999 [c.ow]&&spB (-300) 300 c.wl c.wh
structure B5 (c:Cel):Prop where
 rm:1<=c.rm/\c.rm<=10000000
 he:0<=c.he/\c.he<=10000000
 ai:0<=c.ai/\c.ai<=10000000
 w: -300<=c.wl/\c.wl<=c.wh/\c.wh<=300
 lk:0<=c.lk/\c.lk<=100000
 ow:0<=c.ow/\c.ow<=999999
structure Fx (a:Atm):Prop where
 p:1000<=a.pl/\a.pl<=a.ph/\a.ph<=12000
 t:1500<=a.tl/\a.tl<=a.th/\a.th<=3500
theorem Dm {c:Cel}:Je c=true↔B5 c:=by
 unfold Je;simp only [Bool.and_eq_true,CC];unfold rgB;simp;constructor
 . rintro ⟨⟨⟨⟨h1,h2⟩,h3⟩,h4⟩,h5⟩;exact ⟨h1,by omega,by omega,h5,h3,by omega⟩
 . rintro ⟨h1,h2,h3,h4,h5,h6⟩;exact ⟨⟨⟨⟨h1,by omega⟩,h5⟩,by omega⟩,h4⟩
theorem VN {a:Atm}:L3 a=true↔Fx a:=by
 unfold L3;simp only [Bool.and_eq_true,CC];exact ⟨fun ⟨h1,h2⟩=>⟨h1,h2⟩,fun h=>⟨h.p,h.t⟩⟩
def am (c:Cel):Int:=c.he+c.ai
def fl (a b:Int):Int:=a/b
def ce (a b:Int):Int:= -(-a/b)
theorem ABy {a b:Int} (hb:0<b):fl a b=if a<0/\a.tmod b≠0 then a.tdiv b-1 else a.tdiv b:=by
 unfold fl;by_cases h:a<0
 . have e:a= -(-a):=by omega
   obtain ⟨x,rfl⟩:∃ x:Int,a= -x:=⟨-a,by omega⟩
   have hx:0<=x:=by omega
   rw [Int.neg_tdiv,Int.neg_tmod,Int.tdiv_eq_ediv_of_nonneg hx,Int.tmod_eq_emod_of_nonneg hx];have h1:=Int.mul_ediv_add_emod x b;have h2:=Int.emod_nonneg x (show b≠0 by omega);have h3:=Int.emod_lt_of_pos x hb
   have h4: -x/b=if x%b=0 then -(x/b) else -(x/b)-1:=by
     rw [Int.neg_ediv];have hs:b.sign=1:=Int.sign_eq_one_of_pos hb;rw [hs];by_cases hd:x%b=0
     . rw [if_pos (Int.dvd_of_emod_eq_zero hd),if_pos hd];omega
     . rw [if_neg (fun h=>hd (Int.emod_eq_zero_of_dvd h)),if_neg hd]
   rw [h4];by_cases hd:x%b=0
   . rw [if_pos hd,if_neg (by rw [hd];simp)]
   . rw [if_neg hd,if_pos ⟨by omega,by simpa using hd⟩]
 . rw [if_neg (by omega),Int.tdiv_eq_ediv_of_nonneg (by omega)]
def Bx (c:Cel) (a:Atm):Int × Int:=
 (min (fl (29*am c*c.wl) a.tl) (fl (29*am c*c.wl) a.th)+25*c.he,max (ce (29*am c*c.wh) a.tl) (ce (29*am c*c.wh) a.th)+25*c.he)
theorem S7 {a b d:Int} (hd:0<d) (h:a<=b):fl a d<=fl b d:=Int.ediv_le_ediv hd h
theorem S8 {a b d:Int} (hd:0<d) (h:a<=b):ce a d<=ce b d:=by
 have:=Int.ediv_le_ediv hd (show -b<= -a by omega);unfold ce;omega
theorem VO {c:Cel} {a:Atm} (hc:B5 c) (ha:Fx a):
   min (min (min (fl (29*am c*c.wl) a.tl) (fl (29*am c*c.wl) a.th)) (fl (29*am c*c.wh) a.tl)) (fl (29*am c*c.wh) a.th)=min (fl (29*am c*c.wl) a.tl) (fl (29*am c*c.wl) a.th)/\
   max (max (max (ce (29*am c*c.wl) a.tl) (ce (29*am c*c.wl) a.th)) (ce (29*am c*c.wh) a.tl)) (ce (29*am c*c.wh) a.th)=max (ce (29*am c*c.wh) a.tl) (ce (29*am c*c.wh) a.th):=by
 have h0:0<=29*am c:=by have:=hc.he;have:=hc.ai;unfold am;omega
 have hm:29*am c*c.wl<=29*am c*c.wh:=Int.mul_le_mul_of_nonneg_left hc.w.2.1 h0;have t:=ha.t;have k1:=S7 (d:=a.tl) (by omega) hm;have k2:=S7 (d:=a.th) (by omega) hm;have k3:=S8 (d:=a.tl) (by omega) hm;have k4:=S8 (d:=a.th) (by omega) hm;omega
def Lh (c:Cel) (a:Atm):Int:=if am c*(a.th+c.wh)<=c.rm*a.pl then 1 else if c.rm*a.ph<am c*(a.tl+c.wl) then 3 else 2
theorem ig {c:Cel} (h:B5 c):0<=am c/\am c<=20000000:=by have:=h.he;have:=h.ai;unfold am;omega
theorem sD {x y X Y:Int} (hx: -X<=x/\x<=X) (hy: -Y<=y/\y<=Y): -(X*Y)<=x*y/\x*y<=X*Y:=by
 have h1:0<=(X-x)*(Y+y):=Int.mul_nonneg (by omega) (by omega);have h2:0<=(X+x)*(Y-y):=Int.mul_nonneg (by omega) (by omega);have h3:0<=(X-x)*(Y-y):=Int.mul_nonneg (by omega) (by omega);have h4:0<=(X+x)*(Y+y):=Int.mul_nonneg (by omega) (by omega);have e1:(X-x)*(Y+y)=X*Y+X*y-x*Y-x*y:=by grind
 have e2:(X+x)*(Y-y)=X*Y-X*y+x*Y-x*y:=by grind
 have e3:(X-x)*(Y-y)=X*Y-X*y-x*Y+x*y:=by grind
 have e4:(X+x)*(Y+y)=X*Y+X*y+x*Y+x*y:=by grind
 omega
end Go.Air
namespace Go.Proofs.Tryz
open Go.Psl
open Go.Air
abbrev AP (c:Cel):List D:=[di c.rm,di c.he,di c.ai,di c.wl,di c.wh,di c.lk,di c.ow]
abbrev Ky (c:Cel):V:= .agg [vi c.rm,vi c.he,vi c.ai,vi c.wl,vi c.wh,vi c.lk,vi c.ow]
abbrev AX (l:List Cel):D:= .sl 7 (l.map AP)
abbrev Ox (a:Atm):V:= .agg [vi a.pl,vi a.ph,vi a.tl,vi a.th]
theorem ZH {lo hi:Int} {l:List Int} {i:Nat} {n:Int} (h:l[i]?= some n):rgB lo hi (l.take (i+1))=(rgB lo hi (l.take i)&&(decide (lo<=n)&&decide (n<=hi))):=by
 simp [rgB,List.take_add_one,h]
theorem TQ {lo hi:Int} {l:List Int} {i:Nat} {n:Int} (h:l[i]?= some n) (hb:n<lo\/hi<n):rgB lo hi l=false:=by
 unfold rgB;rw [List.all_eq_false];exact ⟨n,List.mem_of_getElem? h,by simp;omega⟩
theorem yI (lo hi:Int) (l:List Int) (hl:l.length<=1000000):Ct prog 145 [vi lo,vi hi, .d (Qw l)] (vb (rgB lo hi l)) []:=by
 refine CB func145 c145 fun E hE=>?_
 simp [p145];refine Al (α:=Nat) (fun i=>⟨AO [(0,vi lo),(1,vi hi),(9, .d (Qw l)),(10,vi l.length),(11,vi i)],lk [],0⟩) (fun i=>i<=l.length/\rgB lo hi (l.take i)=true) (fun i=>l.length-i) 0 ?_ ?_ ?_
 . simp [rgB]
 . exact WK hE (lk [])
 . rintro i ⟨hi',hf⟩
   by_cases h:i<l.length
   . obtain ⟨n,hn⟩:=gE h
     have hz:=@wz i (by omega);have hI:(i:Int)<l.length:=by omega
     have hnx:=ZH (lo:=lo) (hi:=hi) hn;by_cases h1:n<lo
     . simp [AVt,hI,hn,h1]
       apply RZ;simp [results145,TQ hn (Or.inl h1)]
     . by_cases h2:hi<n
       . simp [AVt,hI,hn,h1,h2]
         apply RZ;simp [results145,TQ hn (Or.inr h2)]
       . simp [AVt,hI,hn,h1,h2,hz]
         refine ⟨i+1,⟨by omega,by rw [hnx,hf];simp;omega⟩,by omega,?_⟩;exact WK hE (lk [])
   . have e:i=l.length:=by omega
     have hn:¬ (i:Int)<l.length:=by omega
     rw [e,List.take_length] at hf;simp [AVt,hn];apply RZ;simp [results145,hf]
theorem AG {H:Hp} {id:Nat} {a:Int} (h:H id=some [vi a]):Bor H (.ls id 0 1 1) (.d (Qw [a])):=by
 rw [Bk];exact ⟨rfl,rfl,by simp,_,h,rfl⟩
theorem Ap {H:Hp} {id:Nat} {a b:Int} (h:H id=some [vi a,vi b]):Bor H (.ls id 0 2 1) (.d (Qw [a,b])):=by
 rw [Bk];exact ⟨rfl,rfl,by simp,_,h,rfl⟩
theorem Xb (lo hi a b:Int):Ct prog 226 [vsp a b,vi lo,vi hi] (vb (spB lo hi a b)) []:=by
 have c:=yI lo hi [a,b] (by simp);refine CB func226 c226 fun E hE=>?_
 cases h:rgB lo hi [a,b]
 . rw [h] at c
   simp [p226,AA,AM];refine CLb (c) (by simp [Ap]) ?_;simp;apply RZ;simp [results226,spB,h]
 . rw [h] at c
   simp [p226,AA,AM];refine CLb (c) (by simp [Ap]) ?_;simp;apply RZ;simp [results226,spB,h]
theorem zj (a b:Int):Ct prog 252 [vsp a b] (vb (spB 1500 3500 a b)) []:=by
 refine CB func252 c252 fun E hE=>?_
 simp [p252];refine CLa (Xb 1500 3500 a b) ?_;simp;apply RZ;simp [results252]
theorem jD (a:Atm):Ct prog 186 [Ox a] (vi (if L3 a then 0 else 30)) []:=by
 have c1:=Xb 1000 12000 a.pl a.ph;have c2:=zj a.tl a.th;refine CB func186 c186 fun E hE=>?_
 cases h1:spB 1000 12000 a.pl a.ph
 . rw [h1] at c1
   simp [p186];refine CLa c1 ?_;simp;apply RZ;simp [results186,L3,h1]
 . rw [h1] at c1
   cases h2:spB 1500 3500 a.tl a.th
   . rw [h2] at c2
     simp [p186];refine CLa c1 ?_;simp;refine CLa c2 ?_;simp;apply RZ;simp [results186,L3,h1,h2]
   . rw [h2] at c2
     simp [p186];refine CLa c1 ?_;simp;refine CLa c2 ?_;simp;apply RZ;simp [results186,L3,h1,h2]
theorem ASn (c:Cel):Ct prog 149 [Ky c] (vi (if Je c then 0 else 31)) []:=by
 have c1:=yI 1 10000000 [c.rm] (by simp);have c2:=yI 0 10000000 [c.he,c.ai] (by simp);have c3:=yI 0 100000 [c.lk] (by simp);have c4:=yI 0 999999 [c.ow] (by simp);have c5:=Xb (-300) 300 c.wl c.wh;have e:Je c=(rgB 1 10000000 [c.rm]&&rgB 0 10000000 [c.he,c.ai]&&rgB 0 100000 [c.lk]&&rgB 0 999999 [c.ow]&&spB (-300) 300 c.wl c.wh):=rfl
 generalize rgB 1 10000000 [c.rm]=b1 at*
 generalize rgB 0 10000000 [c.he,c.ai]=b2 at*
 generalize rgB 0 100000 [c.lk]=b3 at*
 generalize rgB 0 999999 [c.ow]=b4 at*
 generalize spB (-300) 300 c.wl c.wh=b5 at*
 rw [e];refine CB func149 c149 fun E hE=>?_
 cases b1<;>cases b2<;>cases b3<;>cases b4<;>cases b5<;>(
   simp [p149,AA,AM]
   repeat ((first | (refine CLt c1 ?_ ?_;focus (simp [AG];done)) | (refine CLt c2 ?_ ?_;focus (simp [Ap];done)) | (refine CLt c3 ?_ ?_;focus (simp [AG];done)) | (refine CLt c4 ?_ ?_;focus (simp [AG];done)) | (refine CLt c5 ?_ ?_;focus (simp;done)));simp [AA,AM])
   apply RZ;simp [results149])
end Go.Proofs.Tryz
