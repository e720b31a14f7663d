/- All functions. -/
import Derived.Test.YtjnbpdkoeojgiaaFin28b
